/- The walks and the plain laws of this part of the program, part 3: what each computes. Conditions stand at each theorem. -/
import Derived.Laws.CopyOwn
import Derived.Test.YtoeabajigfdkaaaG1
import Derived.Test.YtoeabajigfdkaaaG2
/- CheckMap: the error of a map, for every map that can be read. No condition. -/
namespace Go.Proofs.Ytoeabajigfdkaaa
open Go.RowKit Go.Shelf

set_option maxRecDepth 100000 in
set_option maxHeartbeats 4000000 in
theorem checkm_any (m : MapD) (A : Option Addr) (c : Nat) (A2 : Option Addr) (c2 : Nat) (A3 : Option Addr) (c3 : Nat) (w : World) (h : MIn m A c A2 c2 A3 c3 w) :
    Calls Try.prog 18 #[.agg #[.slice A m.old.length c, .int .i64 m.nw, .slice A2 m.ss.length c2, .slice A3 m.js.length c3]] w fun e w' => e = .returned (.int .i64 (chkM m)) ∧ Below w.heap.size w w' := by
  have hB := below_box (w := w) #[.slice A m.old.length c, .int .i64 m.nw, .slice A2 m.ss.length c2, .slice A3 m.js.length c3] 34
  have HH := hid h
  have K1 := hid (fun W (hW : Below w.heap.size w W) => ball_int cntOk A c m.old W (h.at_ hW).io h.l1 h.m1 58 #[] #[] (enters_of Try.func58 (by kernel_rfl) rfl)
    (fun W1 x _ _ => by simpa using Calls.same_below (bcount_any x W1)))
  have K2 := hid (fun W => Calls.same_below (bwithin_any m.nw 1 4 W))
  have K3 := hid (fun W (hW : Below w.heap.size w W) (g1 : 1 ≤ m.nw) (g4 : m.nw ≤ 4) => ball_stt (sttOk m) A2 c2 m.ss W (h.at_ hW).is h.l2 h.m2 55 #[.agg #[.slice A m.old.length c, .int .i64 m.nw, .slice A2 m.ss.length c2, .slice A3 m.js.length c3]] #[] (enters_of Try.func55 (by kernel_rfl) rfl)
    (fun W1 x _ _ => by simpa using bstreet_any m x A c A2 c2 (.slice A3 m.js.length c3) W1 (Nat.le_trans h.l1 h.m1) g1 g4))
  have K4 := hid (fun W (hW : Below w.heap.size w W) h8 hw => weighed_any m A c A2 c2 A3 c3 W (h.at_ hW) h8 hw)
  have K5 := hid (fun W (hW : Below w.heap.size w W) => ball_jn (jnOk m) A3 c3 m.js W (h.at_ hW).ij h.l3 h.m3 56 #[.agg #[.slice A m.old.length c, .int .i64 m.nw, .slice A2 m.ss.length c2, .slice A3 m.js.length c3]] #[] (enters_of Try.func56 (by kernel_rfl) rfl)
    (fun W1 x _ _ => by simpa using bjoin_any m x (.slice A m.old.length c) (.int .i64 m.nw) A2 c2 (.slice A3 m.js.length c3) W1 (Nat.le_trans h.l2 h.m2)))
  clear h
  rcases Bool.eq_false_or_eq_true (decide (4 < (m.old.length : Int))) with d1 | d1
  · have HR := hid (show chkM m = 3 by unfold chkM; simp only [d1]; rfl)
    go_enter Try.func18, Try.ntmps18
    go_wp2_with fail
    go_region
    refine gen (p := Exit.then _ _ .normal _) (fun W => Below w.heap.size w W ∧ Blk W w.heap.size 34 #[.slice A m.old.length c, .int .i64 m.nw, .slice A2 m.ss.length c2, .slice A3 m.js.length c3]) ⟨hB.drew, Blk.new _ _ _⟩ ?_
    rintro W0 ⟨h0, hT0⟩
    have H0 := hid h0
    have T0 := hid hT0
    obtain ⟨t0, t1, t2, t3⟩ := hT0.c4
    clear h0 hT0
    go_wp2
    go_ret
    exact ⟨by rw [HR.out]; rfl, H0.out⟩
  rcases Bool.eq_false_or_eq_true (decide (8 < (m.ss.length : Int))) with d2 | d2
  · have HR := hid (show chkM m = 3 by unfold chkM; simp only [d1, d2]; rfl)
    go_enter Try.func18, Try.ntmps18
    go_wp2_with fail
    go_region
    refine gen (p := Exit.then _ _ .normal _) (fun W => Below w.heap.size w W ∧ Blk W w.heap.size 34 #[.slice A m.old.length c, .int .i64 m.nw, .slice A2 m.ss.length c2, .slice A3 m.js.length c3]) ⟨hB.drew, Blk.new _ _ _⟩ ?_
    rintro W0 ⟨h0, hT0⟩
    have H0 := hid h0
    have T0 := hid hT0
    obtain ⟨t0, t1, t2, t3⟩ := hT0.c4
    clear h0 hT0
    go_wp2
    go_ret
    exact ⟨by rw [HR.out]; rfl, H0.out⟩
  rcases Bool.eq_false_or_eq_true (decide (20 < (m.js.length : Int))) with d3 | d3
  · have HR := hid (show chkM m = 3 by unfold chkM; simp only [d1, d2, d3]; rfl)
    go_enter Try.func18, Try.ntmps18
    go_wp2_with fail
    go_region
    refine gen (p := Exit.then _ _ .normal _) (fun W => Below w.heap.size w W ∧ Blk W w.heap.size 34 #[.slice A m.old.length c, .int .i64 m.nw, .slice A2 m.ss.length c2, .slice A3 m.js.length c3]) ⟨hB.drew, Blk.new _ _ _⟩ ?_
    rintro W0 ⟨h0, hT0⟩
    have H0 := hid h0
    have T0 := hid hT0
    obtain ⟨t0, t1, t2, t3⟩ := hT0.c4
    clear h0 hT0
    go_wp2
    go_ret
    exact ⟨by rw [HR.out]; rfl, H0.out⟩
  rcases Bool.eq_false_or_eq_true (((m.old.length : Int) == 0)) with e1 | e1
  · have HR := hid (show chkM m = 1 by unfold chkM; simp only [d1, d2, d3, e1]; rfl)
    go_enter Try.func18, Try.ntmps18
    go_wp2_with fail
    go_region
    refine gen (p := Exit.then _ _ .normal _) (fun W => Below w.heap.size w W ∧ Blk W w.heap.size 34 #[.slice A m.old.length c, .int .i64 m.nw, .slice A2 m.ss.length c2, .slice A3 m.js.length c3]) ⟨hB.drew, Blk.new _ _ _⟩ ?_
    rintro W0 ⟨h0, hT0⟩
    have H0 := hid h0
    have T0 := hid hT0
    obtain ⟨t0, t1, t2, t3⟩ := hT0.c4
    clear h0 hT0
    go_wp2
    go_ret
    exact ⟨by rw [HR.out]; rfl, H0.out⟩
  rcases Bool.eq_false_or_eq_true (((m.ss.length : Int) == 0)) with e2 | e2
  · have HR := hid (show chkM m = 1 by unfold chkM; simp only [d1, d2, d3, e1, e2]; rfl)
    go_enter Try.func18, Try.ntmps18
    go_wp2_with fail
    go_region
    refine gen (p := Exit.then _ _ .normal _) (fun W => Below w.heap.size w W ∧ Blk W w.heap.size 34 #[.slice A m.old.length c, .int .i64 m.nw, .slice A2 m.ss.length c2, .slice A3 m.js.length c3]) ⟨hB.drew, Blk.new _ _ _⟩ ?_
    rintro W0 ⟨h0, hT0⟩
    have H0 := hid h0
    have T0 := hid hT0
    obtain ⟨t0, t1, t2, t3⟩ := hT0.c4
    clear h0 hT0
    go_wp2
    go_ret
    exact ⟨by rw [HR.out]; rfl, H0.out⟩
  have KN := hid (And.intro d1 (And.intro d2 (And.intro d3 (And.intro e1 e2))))
  go_enter Try.func18, Try.ntmps18
  go_wp2_with fail
  go_region
  refine gen (p := Exit.then _ _ .normal _) (fun W => Below w.heap.size w W ∧ Blk W w.heap.size 34 #[.slice A m.old.length c, .int .i64 m.nw, .slice A2 m.ss.length c2, .slice A3 m.js.length c3]) ⟨hB.drew, Blk.new _ _ _⟩ ?_
  rintro W0 ⟨h0, hT0⟩
  have H0 := hid h0
  have T0 := hid hT0
  obtain ⟨t0, t1, t2, t3⟩ := hT0.c4
  clear h0 hT0
  go_wp2_with fail
  refine (K1.out W0 H0.out).mono ?_
  rintro e W1 ⟨rfl, hb⟩
  have H1 := hid (then_below H0.out hb)
  have T1 := hid (T0.out.keep hb)
  clear hb t0 t1 t2 t3
  obtain ⟨t0, t1, t2, t3⟩ := T1.out.c4
  rcases Bool.eq_false_or_eq_true (m.old.all cntOk) with k1 | k1
  rotate_left
  · have HR := hid (show chkM m = 1 by unfold chkM; simp only [KN.out.1, KN.out.2.1, KN.out.2.2.1, KN.out.2.2.2.1, KN.out.2.2.2.2, k1]; rfl)
    rw [k1]
    clear k1
    go_wp2
    go_ret
    exact ⟨by rw [HR.out]; rfl, H1.out⟩
  rw [k1]
  have Q1 := hid k1
  clear k1
  go_wp2_with fail
  refine (K2.out W1).mono ?_
  rintro e W2 ⟨rfl, hb⟩
  have H2 := hid (then_below H1.out hb)
  have T2 := hid (T1.out.keep hb)
  clear hb t0 t1 t2 t3
  obtain ⟨t0, t1, t2, t3⟩ := T2.out.c4
  rcases Bool.eq_false_or_eq_true (inB m.nw 1 4) with k2 | k2
  rotate_left
  · have HR := hid (show chkM m = 1 by unfold chkM; simp only [KN.out.1, KN.out.2.1, KN.out.2.2.1, KN.out.2.2.2.1, KN.out.2.2.2.2, Q1.out, k2]; rfl)
    rw [k2]
    clear k2
    go_wp2
    go_ret
    exact ⟨by rw [HR.out]; rfl, H2.out⟩
  rw [k2]
  have Q2 := hid k2
  have HN := hid (inB_iff.1 k2)
  clear k2
  go_wp2_with fail
  refine (K3.out W2 H2.out HN.out.1 HN.out.2).mono ?_
  rintro e W3 ⟨rfl, hb⟩
  have H3 := hid (then_below H2.out hb)
  have T3 := hid (T2.out.keep hb)
  clear hb t0 t1 t2 t3
  obtain ⟨t0, t1, t2, t3⟩ := T3.out.c4
  rcases Bool.eq_false_or_eq_true (m.ss.all (sttOk m)) with k3 | k3
  rotate_left
  · have HR := hid (show chkM m = 1 by unfold chkM; simp only [KN.out.1, KN.out.2.1, KN.out.2.2.1, KN.out.2.2.2.1, KN.out.2.2.2.2, Q1.out, Q2.out, k3]; rfl)
    rw [k3]
    clear k3
    go_wp2
    go_ret
    exact ⟨by rw [HR.out]; rfl, H3.out⟩
  rw [k3]
  have Q3 := hid k3
  have H8 := hid (show m.ss.length ≤ 8 ∧ ∀ s ∈ m.ss, 0 ≤ s.wt ∧ s.wt ≤ 1000 from ⟨by have := of_decide_eq_false KN.out.2.1; omega, fun s hs => by have := sttOk_iff.1 (List.all_eq_true.1 k3 s hs); omega⟩)
  clear k3
  go_wp2_with fail
  refine (K4.out W3 H3.out H8.out.1 H8.out.2).mono ?_
  rintro e W4 ⟨rfl, hb⟩
  have H4 := hid (then_below H3.out hb)
  have T4 := hid (T3.out.keep hb)
  clear hb t0 t1 t2 t3
  obtain ⟨t0, t1, t2, t3⟩ := T4.out.c4
  rcases Bool.eq_false_or_eq_true ((List.range m.old.length).all (wghOk m)) with k4 | k4
  rotate_left
  · have HR := hid (show chkM m = 1 by unfold chkM; simp only [KN.out.1, KN.out.2.1, KN.out.2.2.1, KN.out.2.2.2.1, KN.out.2.2.2.2, Q1.out, Q2.out, Q3.out, k4]; rfl)
    rw [k4]
    clear k4
    go_wp2
    go_ret
    exact ⟨by rw [HR.out]; rfl, H4.out⟩
  rw [k4]
  have Q4 := hid k4
  clear k4
  go_wp2_with fail
  refine (K5.out W4 H4.out).mono ?_
  rintro e W5 ⟨rfl, hb⟩
  have H5 := hid (then_below H4.out hb)
  have T5 := hid (T4.out.keep hb)
  clear hb t0 t1 t2 t3
  obtain ⟨t0, t1, t2, t3⟩ := T5.out.c4
  rcases Bool.eq_false_or_eq_true (m.js.all (jnOk m)) with k5 | k5
  rotate_left
  · have HR := hid (show chkM m = 1 by unfold chkM; simp only [KN.out.1, KN.out.2.1, KN.out.2.2.1, KN.out.2.2.2.1, KN.out.2.2.2.2, Q1.out, Q2.out, Q3.out, Q4.out, k5]; rfl)
    rw [k5]
    clear k5
    go_wp2
    go_ret
    exact ⟨by rw [HR.out]; rfl, H5.out⟩
  have HR := hid (show chkM m = 0 by unfold chkM; simp only [KN.out.1, KN.out.2.1, KN.out.2.2.1, KN.out.2.2.2.1, KN.out.2.2.2.2, Q1.out, Q2.out, Q3.out, Q4.out, k5]; rfl)
  rw [k5]
  clear k5
  go_wp2
  go_ret
  exact ⟨by rw [HR.out]; rfl, H5.out⟩
end Go.Proofs.Ytoeabajigfdkaaa
/- The reference of layer 11: the error of a map. No condition. -/
namespace Go.Proofs.Ytoeabajigfdkaaa
open Go.RowKit Go.Shelf

theorem take_snoc9 {α : Type} {l : List α} {k : Nat} {x : α} (h : l[k]? = some x) : l.take (k + 1) = l.take k ++ [x] := by
  obtain ⟨hk, rfl⟩ := List.getElem?_eq_some_iff.1 h
  exact List.take_succ_eq_append_getElem hk
theorem chk3 {m : MapD} (h : 4 < m.old.length ∨ 8 < m.ss.length ∨ 20 < m.js.length) : chkM m = 3 := by
  unfold chkM
  rw [if_pos]
  simp only [Bool.or_eq_true, decide_eq_true_eq]
  omega
theorem chk1 {m : MapD} (h : m.old.length ≤ 4 ∧ m.ss.length ≤ 8 ∧ m.js.length ≤ 20) (hn : ¬ OkM m) : chkM m = 1 := by
  rcases chkM_cases m with e | e | e
  · exact absurd (chk_okm e) hn
  · exact e
  · exfalso
    unfold chkM at e
    rw [if_neg (by simp only [Bool.or_eq_true, decide_eq_true_eq]; omega)] at e
    split at e <;> cases e
set_option maxRecDepth 100000 in
set_option maxHeartbeats 4000000 in
theorem qfault_any (m : MapD) (A : Option Addr) (c : Nat) (A2 : Option Addr) (c2 : Nat) (A3 : Option Addr) (c3 : Nat) (w : World) (h : MIn m A c A2 c2 A3 c3 w) :
    Calls Try.prog 65 #[.agg #[.slice A m.old.length c, .int .i64 m.nw, .slice A2 m.ss.length c2, .slice A3 m.js.length c3]] w fun e w' => e = .returned (.int .i64 (chkM m)) ∧ Below w.heap.size w w' := by
  have hm1 := h.m1
  have hl1 := h.l1
  have hm2 := h.m2
  have hl2 := h.l2
  have hm3 := h.m3
  have hl3 := h.l3
  unfold maxLen at hm1 hm2 hm3
  have hB := below_box (w := w) #[.slice A m.old.length c, .int .i64 m.nw, .slice A2 m.ss.length c2, .slice A3 m.js.length c3] 26
  have hT := Blk.new w 26 #[.slice A m.old.length c, .int .i64 m.nw, .slice A2 m.ss.length c2, .slice A3 m.js.length c3]
  have HB := hid hB
  have HT := hid hT
  have HA := hid h
  obtain ⟨t0, t1, t2, t3⟩ := hT.c4
  clear hB hT h
  by_cases ho : 4 < m.old.length
  · have HE := hid (chk3 (m := m) (.inl ho))
    have hoB : decide (4 < (m.old.length : Int)) = true := by simp; omega
    clear ho
    go_enter Try.func65, Try.ntmps65
    go_wp2
    go_ret
    exact ⟨by rw [HE.out]; rfl, HB.out⟩
  have hoB : decide (4 < (m.old.length : Int)) = false := by simp; omega
  by_cases hs : 8 < m.ss.length
  · have HE := hid (chk3 (m := m) (.inr (.inl hs)))
    have hsB : decide (8 < (m.ss.length : Int)) = true := by simp; omega
    clear ho hs
    go_enter Try.func65, Try.ntmps65
    go_wp2
    go_ret
    exact ⟨by rw [HE.out]; rfl, HB.out⟩
  have hsB : decide (8 < (m.ss.length : Int)) = false := by simp; omega
  by_cases hj : 20 < m.js.length
  · have HE := hid (chk3 (m := m) (.inr (.inr hj)))
    have hjB : decide (20 < (m.js.length : Int)) = true := by simp; omega
    clear ho hs hj
    go_enter Try.func65, Try.ntmps65
    go_wp2
    go_ret
    exact ⟨by rw [HE.out]; rfl, HB.out⟩
  have hjB : decide (20 < (m.js.length : Int)) = false := by simp; omega
  have HL := hid (show m.old.length ≤ 4 ∧ m.ss.length ≤ 8 ∧ m.js.length ≤ 20 by omega)
  have ho4 : m.old.length ≤ 4 := by omega
  have hs8 : m.ss.length ≤ 8 := by omega
  have hj20 : m.js.length ≤ 20 := by omega
  clear ho hs hj
  go_enter Try.func65, Try.ntmps65
  by_cases hq0 : 1 ≤ m.old.length
  · have hzB : ((m.old.length : Int) == 0) = false := beq_eq_false_iff_ne.2 (by omega)
    by_cases hq1 : 1 ≤ m.nw ∧ m.nw ≤ 4
    · have hnB : inB m.nw 1 4 = true := inB_iff.2 hq1
      by_cases hq2 : 1 ≤ m.ss.length
      · have hyB : ((m.ss.length : Int) == 0) = false := beq_eq_false_iff_ne.2 (by omega)
        go_wp2_with fail
        refine (qin_any _ _ _ _).mono ?_
        rintro e w2 ⟨rfl, rfl⟩
        have HN := hid (And.intro hq0 (And.intro hq1 hq2))
        have hn1 := hq1.1
        have hn4 := hq1.2
        clear hq0 hq1 hq2
        go_wp2
        clear hoB hsB hjB hzB hnB hyB t0 t1 t2 t3
        go_loopw [3] (fun i W => ∃ k : Nat, k ≤ m.ss.length ∧ i = .int .i64 k ∧ (m.ss.take k).all (sttOk m) = true ∧ Below w.heap.size w W ∧ Blk W w.heap.size 26 #[.slice A m.old.length c, .int .i64 m.nw, .slice A2 m.ss.length c2, .slice A3 m.js.length c3]) (fun i _ => m.ss.length - (intOf i).toNat)
        case atStart => exact ⟨0, Nat.zero_le _, rfl, rfl, HB.out, HT.out⟩
        case round =>
          obtain ⟨k, hk, rfl, hall, hbr, hbt⟩ := hrel
          obtain ⟨t0, t1, t2, t3⟩ := hbt.c4
          have htl := hbt.lt
          have HR := hid (And.intro hall (And.intro hbr hbt))
          clear hall hbr hbt HB HT
          by_cases hlt : k < m.ss.length
          · have hkI : (k : Int) < (m.ss.length : Int) := by omega
            obtain ⟨s, hs⟩ : ∃ s, m.ss[k]? = some s := ⟨_, List.getElem?_eq_getElem hlt⟩
            obtain ⟨aa, eA, g1, f0, f1, f2, f3, f4⟩ := (HA.out.at_ HR.out.2.1).is k s hs
            subst eA
            have HS := hid hs
            have HB := hid (HR.out.2.1.trans ((below_box (w := wr) #[.int .i64 s.o, .int .i64 s.n, .int .i64 s.wt, .int .i64 s.lo, .int .i64 s.hi] 45).mono HR.out.2.1.size))
            have HT := hid (HR.out.2.2.alloc (.cells #[.int .i64 s.o, .int .i64 s.n, .int .i64 s.wt, .int .i64 s.lo, .int .i64 s.hi] 45))
            have HMS := hid (List.mem_of_getElem? hs)
            clear hs g1
            by_cases hq0 : inB s.o 0 ((m.old.length : Int) - 1) = true
            · have HQ0 := hid hq0
              by_cases hq1 : inB s.n 0 (m.nw - 1) = true
              · have HQ1 := hid hq1
                by_cases hq2 : inB s.wt 0 1000 = true
                · have HQ2 := hid hq2
                  by_cases hq3 : inB s.lo 0 s.hi = true
                  · have HQ3 := hid hq3
                    by_cases hq4 : s.hi ≤ 10000
                    · have hhB : decide (10000 < s.hi) = false := by simp; omega
                      go_wp2_with fail
                      refine (qin_any _ _ _ _).mono ?_
                      rintro e w2 ⟨rfl, rfl⟩
                      go_wp2_with fail
                      refine (qin_any _ _ _ _).mono ?_
                      rintro e w2 ⟨rfl, rfl⟩
                      go_wp2_with fail
                      refine (qin_any _ _ _ _).mono ?_
                      rintro e w2 ⟨rfl, rfl⟩
                      go_wp2_with fail
                      refine (qin_any _ _ _ _).mono ?_
                      rintro e w2 ⟨rfl, rfl⟩
                      have HNX := hid (show (m.ss.take (k + 1)).all (sttOk m) = true by
                        rw [take_snoc9 HS.out, List.all_append, HR.out.1]
                        simp only [List.all_cons, List.all_nil, Bool.and_true, Bool.true_and]
                        have a1 := inB_iff.1 HQ0.out
                        have a2 := inB_iff.1 HQ1.out
                        have a3 := inB_iff.1 HQ2.out
                        have a4 := inB_iff.1 HQ3.out
                        exact sttOk_iff.2 (by omega))
                      clear hq4
                      go_wp2
                      go_roundw
                      case rel => exact ⟨k + 1, by omega, by go_num, HNX.out, HB.out, HT.out⟩
                      case measure => first | (simp [intOf]; done) | (simp [intOf]; omega)
                    · have hhB : decide (10000 < s.hi) = true := by simp; omega
                      have hhC : ¬ s.hi ≤ 10000 := hq4
                      clear hq4
                      have HE := hid (show chkM m = 1 from chk1 HL.out (fun ok => hhC (by have := ok.stt s HMS.out; omega)))
                      clear hhC
                      go_wp2_with fail
                      refine (qin_any _ _ _ _).mono ?_
                      rintro e w2 ⟨rfl, rfl⟩
                      go_wp2_with fail
                      refine (qin_any _ _ _ _).mono ?_
                      rintro e w2 ⟨rfl, rfl⟩
                      go_wp2_with fail
                      refine (qin_any _ _ _ _).mono ?_
                      rintro e w2 ⟨rfl, rfl⟩
                      go_wp2_with fail
                      refine (qin_any _ _ _ _).mono ?_
                      rintro e w2 ⟨rfl, rfl⟩
                      go_wp2
                      go_ret
                      exact ⟨by rw [HE.out]; rfl, HB.out⟩
                  · have hq3 : inB s.lo 0 s.hi = false := by simpa using hq3
                    have HE := hid (show chkM m = 1 from chk1 HL.out (fun ok => by rw [show inB s.lo 0 s.hi = true from inB_iff.2 (by have := ok.stt s HMS.out; omega)] at hq3; cases hq3))
                    go_wp2_with fail
                    refine (qin_any _ _ _ _).mono ?_
                    rintro e w2 ⟨rfl, rfl⟩
                    go_wp2_with fail
                    refine (qin_any _ _ _ _).mono ?_
                    rintro e w2 ⟨rfl, rfl⟩
                    go_wp2_with fail
                    refine (qin_any _ _ _ _).mono ?_
                    rintro e w2 ⟨rfl, rfl⟩
                    go_wp2_with fail
                    refine (qin_any _ _ _ _).mono ?_
                    rintro e w2 ⟨rfl, rfl⟩
                    go_wp2
                    go_ret
                    exact ⟨by rw [HE.out]; rfl, HB.out⟩
                · have hq2 : inB s.wt 0 1000 = false := by simpa using hq2
                  have HE := hid (show chkM m = 1 from chk1 HL.out (fun ok => by rw [show inB s.wt 0 1000 = true from inB_iff.2 (by have := ok.stt s HMS.out; omega)] at hq2; cases hq2))
                  go_wp2_with fail
                  refine (qin_any _ _ _ _).mono ?_
                  rintro e w2 ⟨rfl, rfl⟩
                  go_wp2_with fail
                  refine (qin_any _ _ _ _).mono ?_
                  rintro e w2 ⟨rfl, rfl⟩
                  go_wp2_with fail
                  refine (qin_any _ _ _ _).mono ?_
                  rintro e w2 ⟨rfl, rfl⟩
                  go_wp2
                  go_ret
                  exact ⟨by rw [HE.out]; rfl, HB.out⟩
              · have hq1 : inB s.n 0 (m.nw - 1) = false := by simpa using hq1
                have HE := hid (show chkM m = 1 from chk1 HL.out (fun ok => by rw [show inB s.n 0 (m.nw - 1) = true from inB_iff.2 (by have := ok.stt s HMS.out; omega)] at hq1; cases hq1))
                go_wp2_with fail
                refine (qin_any _ _ _ _).mono ?_
                rintro e w2 ⟨rfl, rfl⟩
                go_wp2_with fail
                refine (qin_any _ _ _ _).mono ?_
                rintro e w2 ⟨rfl, rfl⟩
                go_wp2
                go_ret
                exact ⟨by rw [HE.out]; rfl, HB.out⟩
            · have hq0 : inB s.o 0 ((m.old.length : Int) - 1) = false := by simpa using hq0
              have HE := hid (show chkM m = 1 from chk1 HL.out (fun ok => by rw [show inB s.o 0 ((m.old.length : Int) - 1) = true from inB_iff.2 ⟨(ok.stt s HMS.out).1, by have := (ok.stt s HMS.out).2.1; omega⟩] at hq0; cases hq0))
              go_wp2_with fail
              refine (qin_any _ _ _ _).mono ?_
              rintro e w2 ⟨rfl, rfl⟩
              go_wp2
              go_ret
              exact ⟨by rw [HE.out]; rfl, HB.out⟩
          · have hkI : decide ((k : Int) < (m.ss.length : Int)) = false := by simp; omega
            obtain rfl : k = m.ss.length := by omega
            have HSO := hid (show ∀ s ∈ m.ss, sttOk m s = true by have := HR.out.1; rw [List.take_length] at this; exact List.all_eq_true.1 this)
            have HB := hid HR.out.2.1
            have HT := hid HR.out.2.2
            clear HR htl
            go_wp2
            clear t0 t1 t2 t3
            generalize wr = w5 at *
            go_loopw [5] (fun i W => ∃ k : Nat, k ≤ m.old.length ∧ i = .int .i64 k ∧ (∀ d, d < k → cntOk (m.at_ d) = true ∧ wghOk m d = true) ∧ Below w.heap.size w W ∧ Blk W w.heap.size 26 #[.slice A m.old.length c, .int .i64 m.nw, .slice A2 m.ss.length c2, .slice A3 m.js.length c3]) (fun i _ => m.old.length - (intOf i).toNat)
            case atStart => exact ⟨0, Nat.zero_le _, rfl, fun d hd => by omega, HB.out, HT.out⟩
            case round =>
              obtain ⟨d, hd, rfl, hall, hbr, hbt⟩ := hrel
              obtain ⟨t0, t1, t2, t3⟩ := hbt.c4
              have HR := hid (And.intro hall (And.intro hbr hbt))
              clear hall hbr hbt HB HT
              by_cases hlt : d < m.old.length
              · have hkI : (d : Int) < (m.old.length : Int) := by omega
                obtain ⟨x, hx⟩ : ∃ x, m.old[d]? = some x := ⟨_, List.getElem?_eq_getElem hlt⟩
                obtain ⟨ao, eO, go1, go2⟩ := (HA.out.at_ HR.out.2.1).io d x hx
                subst eO
                have HX := hid (And.intro (MapD.at_eq hx) (List.mem_of_getElem? hx))
                have HB := hid HR.out.2.1
                clear hx go1
                generalize wr = w6 at *
                go_wp2
                go_loop [6, 7] (fun v i => ∃ k : Nat, k ≤ m.ss.length ∧ i = .int .i64 k ∧ v = .int .i64 (sumO m d tt Stt.wt k)) (fun _ i => m.ss.length - (intOf i).toNat)
                case atStart => exact ⟨0, Nat.zero_le _, rfl, rfl⟩
                case round =>
                  obtain ⟨k, hk, rfl, rfl⟩ := hrel
                  have hbd := sumO_bounds (m := m) (g := Stt.wt) (M := 1000) (by omega) d tt k (fun i hi => by
                    have h1 := sttOk_iff.1 (HSO.out _ (List.getElem_mem (show i < m.ss.length by omega)))
                    rw [MapD.S_eq (List.getElem?_eq_getElem (show i < m.ss.length by omega))]
                    omega)
                  by_cases hlk : k < m.ss.length
                  · have hkJ : (k : Int) < (m.ss.length : Int) := by omega
                    obtain ⟨s, hs⟩ : ∃ s, m.ss[k]? = some s := ⟨_, List.getElem?_eq_getElem hlk⟩
                    obtain ⟨aa, eA, g1, f0, f1, f2, f3, f4⟩ := (HA.out.at_ HR.out.2.1).is k s hs
                    subst eA
                    have hsb := sttOk_iff.1 (HSO.out s (List.mem_of_getElem? hs))
                    obtain ⟨b1, b2⟩ := hbd
                    have hw1 : 0 ≤ s.wt := hsb.2.2.2.2.1
                    have hw2 : s.wt ≤ 1000 := hsb.2.2.2.2.2.1
                    by_cases hod : s.o = (d : Int)
                    · have hoB : (s.o == (d : Int)) = true := by simp [hod]
                      have HST := hid (sumO_take (p := tt) (g := Stt.wt) hs hod rfl)
                      clear hod hs g1 hsb
                      generalize sumO m d tt Stt.wt k = S at *
                      go_wp2
                      go_round
                      case rel => exact ⟨k + 1, by omega, by go_num, by rw [HST.out]⟩
                      case measure => first | (simp [intOf]; done) | (simp [intOf]; omega)
                    · have hoB : (s.o == (d : Int)) = false := by simp [hod]
                      have HST := hid (sumO_skip (p := tt) (g := Stt.wt) hs hod)
                      clear hod hs g1 hsb
                      generalize sumO m d tt Stt.wt k = S at *
                      go_wp2
                      go_round
                      case rel => exact ⟨k + 1, by omega, by go_num, by rw [HST.out]⟩
                      case measure => first | (simp [intOf]; done) | (simp [intOf]; omega)
                  · have hkJ : decide ((k : Int) < (m.ss.length : Int)) = false := by simp; omega
                    obtain rfl : k = m.ss.length := by omega
                    clear hbd
                    by_cases hq0 : inB x 0 10000 = true
                    · by_cases hq1 : sumO m d tt Stt.wt m.ss.length = 0
                      · have HE := hid (show chkM m = 1 from chk1 HL.out (fun ok => ok.wgh d hlt hq1))
                        have hzB : (sumO m d tt Stt.wt m.ss.length == 0) = true := by simp [hq1]
                        clear hq1
                        generalize sumO m d tt Stt.wt m.ss.length = S at *
                        go_wp2_with fail
                        refine (qin_any _ _ _ _).mono ?_
                        rintro e w2 ⟨rfl, rfl⟩
                        go_wp2
                        go_ret
                        exact ⟨by rw [HE.out]; rfl, HB.out⟩
                      · have hzB : (sumO m d tt Stt.wt m.ss.length == 0) = false := by simp [hq1]
                        have HNX := hid (show ∀ e, e < d + 1 → cntOk (m.at_ e) = true ∧ wghOk m e = true from fun e he => by
                          by_cases h : e = d
                          · subst h
                            exact ⟨by rw [HX.out.1]; exact hq0, by unfold wghOk; simp [hq1]⟩
                          · exact HR.out.1 e (by omega))
                        clear hq1
                        generalize sumO m d tt Stt.wt m.ss.length = S at *
                        go_wp2_with fail
                        refine (qin_any _ _ _ _).mono ?_
                        rintro e w2 ⟨rfl, rfl⟩
                        go_wp2
                        go_roundw
                        case rel => exact ⟨d + 1, by omega, by go_num, HNX.out, HR.out.2⟩
                        case measure => first | (simp [intOf]; done) | (simp [intOf]; omega)
                    · have HE := hid (show chkM m = 1 from chk1 HL.out (fun ok => hq0 (inB_iff.2 (ok.cnt x HX.out.2))))
                      have hq1 : inB x 0 10000 = false := by simpa using hq0
                      clear hq0
                      generalize sumO m d tt Stt.wt m.ss.length = S at *
                      go_wp2_with fail
                      refine (qin_any _ _ _ _).mono ?_
                      rintro e w2 ⟨rfl, rfl⟩
                      go_wp2
                      go_ret
                      exact ⟨by rw [HE.out]; rfl, HB.out⟩
              · have hkI : decide ((d : Int) < (m.old.length : Int)) = false := by simp; omega
                obtain rfl : d = m.old.length := by omega
                have HDO := hid HR.out.1
                have HB := hid HR.out.2.1
                have HT := hid HR.out.2.2
                clear HR
                go_wp2
                clear t0 t1 t2 t3
                generalize wr = w6 at *
                go_loopw [8] (fun i W => ∃ k : Nat, k ≤ m.js.length ∧ i = .int .i64 k ∧ (m.js.take k).all (jnOk m) = true ∧ Below w.heap.size w W ∧ Blk W w.heap.size 26 #[.slice A m.old.length c, .int .i64 m.nw, .slice A2 m.ss.length c2, .slice A3 m.js.length c3]) (fun i _ => m.js.length - (intOf i).toNat)
                case atStart => exact ⟨0, Nat.zero_le _, rfl, rfl, HB.out, HT.out⟩
                case round =>
                  obtain ⟨k, hk, rfl, hall, hbr, hbt⟩ := hrel
                  obtain ⟨t0, t1, t2, t3⟩ := hbt.c4
                  have HR := hid (And.intro hall (And.intro hbr hbt))
                  have htl := hbt.lt
                  clear hall hbr hbt HB HT
                  by_cases hlt : k < m.js.length
                  · have hkI : (k : Int) < (m.js.length : Int) := by omega
                    obtain ⟨j, hj⟩ : ∃ j, m.js[k]? = some j := ⟨_, List.getElem?_eq_getElem hlt⟩
                    obtain ⟨aa, eA, g1, f0, f1⟩ := (HA.out.at_ HR.out.2.1).ij k j hj
                    subst eA
                    have HS := hid hj
                    have HB := hid (HR.out.2.1.trans ((below_box (w := wr) #[.int .i64 j.a, .int .i64 j.b] 63).mono HR.out.2.1.size))
                    have HT := hid (HR.out.2.2.alloc (.cells #[.int .i64 j.a, .int .i64 j.b] 63))
                    have HMS := hid (List.mem_of_getElem? hj)
                    clear hj g1
                    by_cases hq0 : inB j.a 0 ((m.ss.length : Int) - 1) = true
                    · have HQ0 := hid hq0
                      by_cases hq1 : inB j.b 0 ((m.ss.length : Int) - 1) = true
                      · have HQ1 := hid hq1
                        by_cases hq2 : j.a ≠ j.b
                        · have heB : (j.a == j.b) = false := by simp [hq2]
                          have HQ2 := hid hq2
                          clear hq2
                          go_wp2_with fail
                          refine (qin_any _ _ _ _).mono ?_
                          rintro e w2 ⟨rfl, rfl⟩
                          go_wp2_with fail
                          refine (qin_any _ _ _ _).mono ?_
                          rintro e w2 ⟨rfl, rfl⟩
                          have HNX := hid (show (m.js.take (k + 1)).all (jnOk m) = true by
                            rw [take_snoc9 HS.out, List.all_append, HR.out.1]
                            simp only [List.all_cons, List.all_nil, Bool.and_true, Bool.true_and]
                            have a1 := inB_iff.1 HQ0.out
                            have a2 := inB_iff.1 HQ1.out
                            exact jnOk_iff.2 ⟨by omega, by omega, by omega, by omega, HQ2.out⟩)
                          go_wp2
                          go_roundw
                          case rel => exact ⟨k + 1, by omega, by go_num, HNX.out, HB.out, HT.out⟩
                          case measure => first | (simp [intOf]; done) | (simp [intOf]; omega)
                        · have hq2 : j.a = j.b := by simpa using hq2
                          have heB : (j.a == j.b) = true := by simp [hq2]
                          have HQ2 := hid hq2
                          clear hq2
                          have HE := hid (show chkM m = 1 from chk1 HL.out (fun ok => (ok.jn j HMS.out).2.2.2.2 HQ2.out))
                          go_wp2_with fail
                          refine (qin_any _ _ _ _).mono ?_
                          rintro e w2 ⟨rfl, rfl⟩
                          go_wp2_with fail
                          refine (qin_any _ _ _ _).mono ?_
                          rintro e w2 ⟨rfl, rfl⟩
                          go_wp2
                          go_ret
                          exact ⟨by rw [HE.out]; rfl, HB.out⟩
                      · have hq1 : inB j.b 0 ((m.ss.length : Int) - 1) = false := by simpa using hq1
                        have HE := hid (show chkM m = 1 from chk1 HL.out (fun ok => by rw [show inB j.b 0 ((m.ss.length : Int) - 1) = true from inB_iff.2 (by have := ok.jn j HMS.out; omega)] at hq1; cases hq1))
                        go_wp2_with fail
                        refine (qin_any _ _ _ _).mono ?_
                        rintro e w2 ⟨rfl, rfl⟩
                        go_wp2_with fail
                        refine (qin_any _ _ _ _).mono ?_
                        rintro e w2 ⟨rfl, rfl⟩
                        go_wp2
                        go_ret
                        exact ⟨by rw [HE.out]; rfl, HB.out⟩
                    · have hq0 : inB j.a 0 ((m.ss.length : Int) - 1) = false := by simpa using hq0
                      have HE := hid (show chkM m = 1 from chk1 HL.out (fun ok => by rw [show inB j.a 0 ((m.ss.length : Int) - 1) = true from inB_iff.2 (by have := ok.jn j HMS.out; omega)] at hq0; cases hq0))
                      go_wp2_with fail
                      refine (qin_any _ _ _ _).mono ?_
                      rintro e w2 ⟨rfl, rfl⟩
                      go_wp2
                      go_ret
                      exact ⟨by rw [HE.out]; rfl, HB.out⟩
                  · have hkI : decide ((k : Int) < (m.js.length : Int)) = false := by simp; omega
                    obtain rfl : k = m.js.length := by omega
                    have HJO := hid (show ∀ j ∈ m.js, jnOk m j = true by have := HR.out.1; rw [List.take_length] at this; exact List.all_eq_true.1 this)
                    have HE := hid (show chkM m = 0 from okm_chk ⟨HN.out.1, ho4, HN.out.2.2, hs8, hj20, fun x hx => by
                      obtain ⟨d, hd⟩ := List.getElem?_of_mem hx
                      have := (HDO.out d (List.getElem?_eq_some_iff.1 hd).1).1
                      rw [MapD.at_eq hd] at this
                      exact inB_iff.1 this, HN.out.2.1.1, HN.out.2.1.2, fun s hs => sttOk_iff.1 (HSO.out s hs), fun d hd => by
                      have := (HDO.out d hd).2
                      unfold wghOk at this
                      simpa using this, fun j hj => jnOk_iff.1 (HJO.out j hj)⟩)
                    go_wp2
                    go_ret
                    exact ⟨by rw [HE.out]; rfl, HR.out.2.1⟩
      · have hyB : ((m.ss.length : Int) == 0) = true := beq_iff_eq.2 (by omega)
        have HE := hid (show chkM m = 1 from chk1 HL.out (fun ok => hq2 ok.s1))
        clear hq0 hq1 hq2
        go_wp2_with fail
        refine (qin_any _ _ _ _).mono ?_
        rintro e w2 ⟨rfl, rfl⟩
        go_wp2
        go_ret
        exact ⟨by rw [HE.out]; rfl, HB.out⟩
    · have hnB : inB m.nw 1 4 = false := by simpa [inB] using hq1
      have HE := hid (show chkM m = 1 from chk1 HL.out (fun ok => hq1 ⟨ok.n1, ok.n4⟩))
      clear hq0 hq1
      go_wp2_with fail
      refine (qin_any _ _ _ _).mono ?_
      rintro e w2 ⟨rfl, rfl⟩
      go_wp2
      go_ret
      exact ⟨by rw [HE.out]; rfl, HB.out⟩
  · have hzB : ((m.old.length : Int) == 0) = true := beq_iff_eq.2 (by omega)
    have HE := hid (show chkM m = 1 from chk1 HL.out (fun ok => hq0 ok.d1))
    clear hq0
    go_wp2
    go_ret
    exact ⟨by rw [HE.out]; rfl, HB.out⟩
end Go.Proofs.Ytoeabajigfdkaaa
/- consistent: the error of a map, also if it is not consistent. No condition. -/
namespace Go.Proofs.Ytoeabajigfdkaaa
open Go.RowKit Go.Shelf

attribute [local go_sem] Oper.semAt_some

set_option maxRecDepth 100000 in
set_option maxHeartbeats 2000000 in
theorem consist_any (m : MapD) (A : Option Addr) (c : Nat) (A2 : Option Addr) (c2 : Nat) (A3 : Option Addr) (c3 : Nat) (w : World) (h : MIn m A c A2 c2 A3 c3 w) :
    Calls Try.prog 67 #[.agg #[.slice A m.old.length c, .int .i64 m.nw, .slice A2 m.ss.length c2, .slice A3 m.js.length c3]] w fun e w' => e = .returned (.int .i64 (cstM m)) ∧ Below w.heap.size w w' := by
  have hm1 := h.m1
  have hl1 := h.l1
  unfold maxLen at hm1
  have hB := below_box (w := w) #[.slice A m.old.length c, .int .i64 m.nw, .slice A2 m.ss.length c2, .slice A3 m.js.length c3] 34
  have hT := Blk.new w 34 #[.slice A m.old.length c, .int .i64 m.nw, .slice A2 m.ss.length c2, .slice A3 m.js.length c3]
  obtain ⟨t0, t1, t2, t3⟩ := hT.c4
  have HB := hid hB
  have HT := hid hT
  have HH := hid h
  have KC := hid (checkm_any m A c A2 c2 A3 c3 _ (h.at_ hB))
  clear h hB hT
  by_cases hc : chkM m = 0
  · have HR0 := hid (show cstM m = if conM m then 0 else 9 by unfold cstM; rw [if_pos hc])
    have OK := hid (chk_okm hc)
    rw [hc] at KC
    clear hc
    refine callsOf (ro := none) (n := 0) ?_
    refine callsIn_of_wp_marks Try.func67 rfl trivial ?_ rfl
    refine wpIn_wide.2 ?_
    simp only [Try.ntmps67, List.size_toArray, List.length_cons, List.length_nil, Nat.reduceAdd, Nat.reduceSub, Array.replicate_succ, Array.replicate_zero, List.push_toArray, List.append_toArray, List.nil_append, List.cons_append]
    go_wp2_with fail
    refine KC.out.mono ?_
    rintro e wc ⟨rfl, hb⟩
    have HBC := hid (HB.out.trans (hb.mono HB.out.size))
    have HTC := hid (HT.out.keep hb)
    clear hb KC t0 t1 t2 t3
    obtain ⟨t0, t1, t2, t3⟩ := HTC.out.c4
    go_wp2
    clear t0 t1 t2 t3
    refine wp_loop (fun a W => ∃ (k : Nat) (Ds : List Nat) (u2 u4 u5 u6 u8 u18 u19 u20 u21 u22 u23 u24 u25 u28 u29 u30 u31 u32 u33 u34 u35 u36 u37 u38 u39 u40 u41 u42 u43 u44 u45 u46 u47 u48 : Value), (k ≤ m.old.length ∧ (∀ d, d < k → conD m d = true) ∧ Below w.heap.size w W ∧ Blk W w.heap.size 34 #[.slice A m.old.length c, .int .i64 m.nw, .slice A2 m.ss.length c2, .slice A3 m.js.length c3] ∧ Marks w.heap.size Ds W) ∧ a = { tmps := #[.agg #[.slice A m.old.length c, .int .i64 m.nw, .slice A2 m.ss.length c2, .slice A3 m.js.length c3], .pointer (some ⟨w.heap.size, 0, none⟩), u2, .int .i64 0, u4, u5, u6, undef, u8, .agg #[.slice A m.old.length c, .int .i64 m.nw, .slice A2 m.ss.length c2, .slice A3 m.js.length c3], .int .i64 0, .int .i64 0, .bool false, undef, .pointer (some ⟨w.heap.size, 0, none⟩), .slice A m.old.length c, .int .i64 (m.old.length : Int), .int .i64 (k : Int), u18, u19, u20, u21, u22, u23, u24, u25, undef, undef, u28, u29, u30, u31, u32, u33, u34, u35, u36, u37, u38, u39, u40, u41, u42, u43, u44, u45, u46, u47, u48], defers := Ds.map mkD }) (fun a _ => m.old.length - (intOf (a.tmps.getD 17 undef)).toNat) ?_ ?_
    · refine ⟨0, [], ?_⟩
      (repeat apply Exists.intro)
      exact ⟨⟨Nat.zero_le _, fun d hd => by omega, HBC.out, HTC.out, Marks.nil _ _⟩, rfl⟩
    rintro _ wr ⟨k, Ds, u2, u4, u5, u6, u8, u18, u19, u20, u21, u22, u23, u24, u25, u28, u29, u30, u31, u32, u33, u34, u35, u36, u37, u38, u39, u40, u41, u42, u43, u44, u45, u46, u47, u48, ⟨hk, hok, hbr, hbm, hmk⟩, rfl⟩
    have HR := hid (And.intro hok (And.intro hbr (And.intro hbm hmk)))
    obtain ⟨t0, t1, t2, t3⟩ := hbm.c4
    have bl := hbm.lt
    by_cases hlt : k < m.old.length
    · have hkI : (k : Int) < (m.old.length : Int) := by omega
      obtain ⟨x, hx⟩ : ∃ x, m.old[k]? = some x := ⟨_, List.getElem?_eq_getElem hlt⟩
      obtain ⟨aa, rfl, g1, g2⟩ := (HH.out.at_ hbr).io k x hx
      have HX := hid (MapD.at_eq hx)
      clear hok hbr hbm hmk hx
      go_wp2_with fail
      refine (of_any _ _ _ _ _ _).mono ?_
      rintro e w2 ⟨rfl, h1, h2, h3⟩
      have hB4 := Blk.new wr 49 #[.int .i64 0, .int .i64 0]
      have hbw : Below wr.heap.size wr w2 := then_below (below_box _ _) h1
      have H2 := hid (And.intro h2 (And.intro h3 (And.intro (hB4.keep h1) hbw)))
      have hss : (wr.alloc (.cells #[.int .i64 0, .int .i64 0] 49)).heap.size = wr.heap.size + 1 := World.size_alloc ..
      rw [hss] at H2
      clear h1 h2 h3 hB4 hbw t0 t1 t2 t3 hss g1 g2
      go_wp2
      refine (wpIn_wide (n := 0)).1 ?_
      refine wpIn_rangeFunc_of (m := m) (d := (k : Int)) (X := fun q => q = wr.heap.size) rfl (enters_of Try.func104 (by kernel_rfl) rfl)
        (of1_any H2.out.1 H2.out.2.1 (n := w.heap.size) (Nat.le_trans HR.out.2.1.size H2.out.2.2.2.size) (HH.out.is.below (HR.out.2.1.trans (H2.out.2.2.2.mono HR.out.2.1.size))) HH.out.l2 HH.out.m2 (fun q e => ⟨by rw [e]; exact HR.out.2.1.size, by omega⟩)) (Below.refl _ _)
        (fun j W => Blk W wr.heap.size 49 #[.int .i64 (sumO m k tt Stt.lo j), .int .i64 (sumO m k tt Stt.hi j)] ∧ Chg (fun q => q = wr.heap.size) w2 W) (fun _ _ => False)
        (OwnFrom.and (blk_own _ _ _ _) (chg_own (Nat.le_refl _))) (fun c s W W' row hs _ _ => hs) ⟨H2.out.2.2.1, Chg.refl⟩
        (fun j s W hs hne hi => ⟨by rw [sumO_skip hs hne, sumO_skip hs hne]; exact hi.1, hi.2⟩)
        (fun j s z => { tmps := #[.agg #[.slice (some aa) m.old.length c, .int .i64 m.nw, .slice A2 m.ss.length c2, .slice A3 m.js.length c3], .pointer (some ⟨w.heap.size, 0, none⟩), u2, .int .i64 0, .int .i64 (k : Int), .int .i64 x, .pointer (some ⟨wr.heap.size, 0, none⟩), undef, .pointer (some ⟨z, 0, none⟩), .agg #[.slice (some aa) m.old.length c, .int .i64 m.nw, .slice A2 m.ss.length c2, .slice A3 m.js.length c3], .int .i64 0, .int .i64 0, .bool false, undef, .pointer (some ⟨w.heap.size, 0, none⟩), .slice (some aa) m.old.length c, .int .i64 (m.old.length : Int), .int .i64 (k : Int), .bool true, .int .i64 (k : Int), .pointer (some (aa.add k)), .int .i64 x, .agg #[.int .i64 0, .int .i64 0], .agg #[.slice (some aa) m.old.length c, .int .i64 m.nw, .slice A2 m.ss.length c2, .slice A3 m.js.length c3], .int .i64 (k : Int), .func (.func 104) #[] #[.pointer (some ⟨wr.heap.size + 1, 0, none⟩), .pointer (some ⟨wr.heap.size + 1 + 1, 0, none⟩)], .int .i64 (j : Int), .agg #[.int .i64 s.o, .int .i64 s.n, .int .i64 s.wt, .int .i64 s.lo, .int .i64 s.hi], u28, u29, u30, u31, u32, u33, u34, u35, u36, u37, u38, u39, u40, u41, u42, u43, u44, u45, u46, u47, u48], defers := [] }) ?assign ?body ?done ?stop
      case assign =>
        intro l j s W K hK
        gi_wp2
        exact hK
      case body =>
        rintro l j s z W hl hz hlp hs hod ⟨hb4, hch⟩ hbz
        have hjl := (List.getElem?_eq_some_iff.1 hs).1
        have hs8 := OK.out.s8
        obtain ⟨b1, b2⟩ := sumO_bounds (m := m) (g := Stt.lo) (M := 10000) (by omega) k tt j (fun i hi => by have := OK.out.sAt (i := i) (by omega); omega)
        obtain ⟨b3, b4⟩ := sumO_bounds (m := m) (g := Stt.hi) (M := 10000) (by omega) k tt j (fun i hi => by have := OK.out.sAt (i := i) (by omega); omega)
        have hsw := OK.out.sAt hjl
        rw [MapD.S_eq hs] at hsw
        obtain ⟨_, _, _, _, _, _, q1, q2, q3⟩ := hsw
        have HT2 := hid (And.intro (sumO_take (m := m) (d := k) (p := tt) (g := Stt.lo) hs hod rfl) (sumO_take (m := m) (d := k) (p := tt) (g := Stt.hi) hs hod rfl))
        have HI := hid (And.intro hb4 hch)
        unfold stC at hbz
        obtain ⟨z0, z1, z2, z3, z4⟩ := hbz.c5
        obtain ⟨y0, y1⟩ := hb4.c2
        have yf := hb4.frozen 0
        have yf1 := hb4.frozen 1
        have yl := hb4.lt
        generalize sumO m k tt Stt.lo j = S at *
        generalize sumO m k tt Stt.hi j = T at *
        clear hlp hs hod hb4 hch hbz
        gi_wp2
        refine ⟨(KeepsFrom.of_set _ _).trans (KeepsFrom.of_set _ _), ((Chg.refl.set (Z := fun q => q = wr.heap.size) rfl _).set rfl _).keep, ?_, (HI.out.2.set rfl _).set rfl _⟩
        rw [HT2.out.1, HT2.out.2]
        exact (HI.out.1.set_ 0 _).set_ 1 _
      case done =>
        rintro D W hD ⟨hb4, hch⟩ hdf
        have hbw : Below w.heap.size w W := (HR.out.2.1.trans (H2.out.2.2.2.mono HR.out.2.1.size)).trans (hch.below (fun q e => by rw [e]; exact HR.out.2.1.size) (Nat.le_trans HR.out.2.1.size H2.out.2.2.2.size))
        have hm2 := HR.out.2.2.2.below H2.out.2.2.2
        have hm3 := hm2.chg hch (fun D' hD' => hm2.ne H2.out.2.2.1 D' hD')
        have HM := hid (Marks.cons hm2 hm3 (by have := HR.out.2.1.size; have := H2.out.2.2.2.size; omega) hD hdf)
        have HBM := hid (hch.blk (HR.out.2.2.1.keep H2.out.2.2.2) (fun e => by have := HR.out.2.2.1.lt; omega))
        have HBW := hid hbw
        obtain ⟨y0, y1⟩ := hb4.c2
        have HCD := hid (show conD m k = inB x (sumO m k tt Stt.lo m.ss.length) (sumO m k tt Stt.hi m.ss.length) by unfold conD; rw [HX.out])
        clear hb4 hch hdf hbw hm2 hm3
        generalize sumO m k tt Stt.lo m.ss.length = S at *
        generalize sumO m k tt Stt.hi m.ss.length = T at *
        go_wp2_with fail
        refine (bwithin_any _ _ _ _).mono ?_
        rintro e w' ⟨rfl, rfl⟩
        cases hz : inB x S T
        · have HOK := hid (show conM m = false by
            unfold conM
            rw [List.all_eq_false]
            exact ⟨k, List.mem_range.2 hlt, by rw [HCD.out, hz]; decide⟩)
          go_wp2
          refine leaves_marks (B := w.heap.size) (D :: Ds) _ HM.out (fun W' hk hb => ?_)
          exact ⟨.int .i64 9, results_tmp Try.results67 _ _ _, by rw [HR0.out, HOK.out]; rfl, HBW.out.trans hb⟩
        · have HOK := hid (show conD m k = true by rw [HCD.out, hz])
          go_wp2
          refine ⟨⟨k + 1, D :: Ds, ?_⟩, ?measure⟩
          · (repeat apply Exists.intro)
            exact ⟨⟨by omega, fun d hd => by
              by_cases e : d = k
              · rw [e]; exact HOK.out
              · exact HR.out.1 d (by omega), HBW.out, HBM.out, HM.out⟩, by go_num⟩
          case measure => first | (simp [intOf]; done) | (simp [intOf]; omega)
      case stop =>
        rintro D c W _ h _
        exact h.elim
    · have hkI : decide ((k : Int) < (m.old.length : Int)) = false := by simp; omega
      obtain rfl : k = m.old.length := by omega
      clear hok hbr hbm hmk
      go_wp2
      refine leaves_marks (B := w.heap.size) Ds _ HR.out.2.2.2 (fun W' hk hb => ?_)
      exact ⟨.int .i64 0, results_tmp Try.results67 _ _ _, by
        rw [HR0.out, show conM m = true from List.all_eq_true.2 fun d hd => HR.out.1 d (List.mem_range.1 hd)]; rfl, HR.out.2.1.trans hb⟩
  · have HR0 := hid (show cstM m = chkM m by unfold cstM; rw [if_neg hc])
    have hne : (chkM m != 0) = true := by simp [hc]
    obtain ⟨z, hz⟩ : ∃ z, chkM m = z := ⟨_, rfl⟩
    rw [hz] at KC hne HR0
    clear hc hz
    refine callsOf (ro := none) (n := 0) ?_
    refine callsIn_of_wp_marks Try.func67 rfl trivial ?_ rfl
    refine wpIn_wide.2 ?_
    simp only [Try.ntmps67, List.size_toArray, List.length_cons, List.length_nil, Nat.reduceAdd, Nat.reduceSub, Array.replicate_succ, Array.replicate_zero, List.push_toArray, List.append_toArray, List.nil_append, List.cons_append]
    go_wp2_with fail
    refine KC.out.mono ?_
    rintro e wc ⟨rfl, hb⟩
    have HBC := hid (HB.out.trans (hb.mono HB.out.size))
    clear hb KC t0 t1 t2 t3
    go_wp2
    exact ⟨.int .i64 z, results_tmp Try.results67 _ _ _, by rw [HR0.out], HBC.out⟩
end Go.Proofs.Ytoeabajigfdkaaa
/- smallest: the smallest of some numbers, at least one. -/
namespace Go.Proofs.Ytoeabajigfdkaaa
open Go.RowKit

def minTo (xs : List Int) (k : Nat) : Int := (xs.take k).foldl min (xs.getD 0 0)
def minOf (xs : List Int) : Int := xs.foldl min (xs.getD 0 0)
theorem minTo_succ {xs : List Int} {k : Nat} (h : k < xs.length) : minTo xs (k + 1) = min (minTo xs k) xs[k] := by
  unfold minTo; rw [List.take_succ_eq_append_getElem h, List.foldl_append]; rfl
theorem minTo_one {xs : List Int} (h : 0 < xs.length) : minTo xs 1 = xs[0] := by
  cases xs with
  | nil => simp at h
  | cons x l => simp [minTo]
theorem minTo_all (xs : List Int) : minTo xs xs.length = minOf xs := by unfold minTo minOf; rw [List.take_length]
theorem minOf_two (x y : Int) : minOf [x, y] = min x y := by simp [minOf]

set_option maxRecDepth 100000 in
set_option maxHeartbeats 1000000 in
theorem min_any (A : Option Addr) (c : Nat) (xs : List Int) (w : World) (h : IsInts w w.heap.size A xs) (h0 : 0 < xs.length) (hl : xs.length ≤ 1000000) :
    Calls Try.prog 112 #[.slice A xs.length c] w fun e w' => e = .returned (.int .i64 (minOf xs)) ∧ w = w' := by
  obtain ⟨a, rfl, hb0, hc0⟩ := h 0 xs[0] (List.getElem?_eq_getElem h0)
  have H1 := hid (minTo_one h0)
  have HA := hid (minTo_all xs)
  have hI : ¬ (xs.length : Int) < 1 := by omega
  have h0I : (0 : Int) < (xs.length : Int) := by omega
  generalize xs[0] = x0 at *
  have hc0' : w.cell? a = some (.int .i64 x0) := hc0
  have hc0'' : w.cell? ⟨a.block, a.off, none⟩ = some (.int .i64 x0) ∨ True := .inr trivial
  clear hc0''
  go_enter Try.func112, Try.ntmps112
  go_wp2
  go_loop [3, 4] (fun m i => ∃ k : Nat, 1 ≤ k ∧ k ≤ xs.length ∧ i = .int .i64 k ∧ m = .int .i64 (minTo xs k)) (fun _ i => xs.length - (intOf i).toNat)
  case atStart => exact ⟨1, Nat.le_refl _, h0, rfl, by rw [H1.out]⟩
  case round =>
    obtain ⟨k, hk1, hk, rfl, rfl⟩ := hrel
    by_cases hlt : k < xs.length
    · obtain ⟨a2, e2, hb2, hc2⟩ := h k xs[k] (List.getElem?_eq_getElem hlt)
      injection e2 with e2
      subst e2
      have HS := hid (minTo_succ hlt)
      have hkI : (k : Int) < (xs.length : Int) := by omega
      generalize xs[k] = x at *
      go_wp2
      all_goals
        go_round
        case rel => exact ⟨k + 1, by omega, by omega, by go_num, by rw [HS.out]; try (congr 1; omega)⟩
        case measure => simp [intOf]; omega
    · obtain rfl : k = xs.length := by omega
      go_wp2
      go_ret
      exact ⟨ret_int HA.out, rfl⟩

set_option maxHeartbeats 400000 in
theorem smallest_any (A : Option Addr) (c : Nat) (xs : List Int) (w : World) (h : IsInts w w.heap.size A xs) (h0 : 0 < xs.length) (hl : xs.length ≤ 1000000) :
    Calls Try.prog 103 #[.slice A xs.length c] w fun e w' => e = .returned (.int .i64 (minOf xs)) ∧ w = w' := by
  have K := hid (min_any A c xs w h h0 hl)
  clear h
  go_enter Try.func103, Try.ntmps103
  go_wp2_with (go_at_call 112; refine (K.out).mono ?_; rintro e w2 ⟨rfl, rfl⟩)
  go_ret
  exact ⟨rfl, rfl⟩
end Go.Proofs.Ytoeabajigfdkaaa
/- low, high, both; the tests of part. No condition. -/
namespace Go.Proofs.Ytoeabajigfdkaaa
open Go.RowKit Go.Shelf

set_option maxHeartbeats 400000 in
theorem blow_any (lo hi : Int) (w : World) : Calls Try.prog 110 #[.agg #[.int .i64 lo, .int .i64 hi]] w fun e w' => e = .returned (.int .i64 lo) ∧ Below w.heap.size w w' := by
  go_enter Try.func110, Try.ntmps110
  go_wp2
  go_ret
  exact ⟨rfl, below_box _ _⟩
set_option maxHeartbeats 400000 in
theorem bhigh_any (lo hi : Int) (w : World) : Calls Try.prog 111 #[.agg #[.int .i64 lo, .int .i64 hi]] w fun e w' => e = .returned (.int .i64 hi) ∧ Below w.heap.size w w' := by
  go_enter Try.func111, Try.ntmps111
  go_wp2
  go_ret
  exact ⟨rfl, below_box _ _⟩
set_option maxHeartbeats 400000 in
theorem bboth_any (w : World) : Calls Try.prog 102 #[] w fun e w' => e = .returned (.tuple #[.agg #[.func (.func 110) #[] #[]], .agg #[.func (.func 111) #[] #[]]]) ∧ Below w.heap.size w w' := by
  go_enter Try.func102, Try.ntmps102
  go_wp2
  exact bodyPost_ret (v := .tuple #[.agg #[.func (.func 110) #[] #[]], .agg #[.func (.func 111) #[] #[]]]) (by simp [results, Try.results102, go_sem]) rfl ⟨rfl, then_below (below_box _ _) (below_box _ _)⟩
set_option maxHeartbeats 400000 in
theorem alone_test (i k : Int) (B : Nat) (w : World) (h : Blk w B 3 #[.int .i64 i]) : Calls Try.prog 88 #[.int .i64 k, .pointer (some ⟨B, 0, none⟩)] w fun e w' => e = .returned (.bool (k == i)) ∧ Below w.heap.size w w' := by
  have c0 := h.c1
  go_enter Try.func88, Try.ntmps88
  go_wp2
  go_ret
  exact ⟨rfl, Below.refl _ _⟩
/-- borders in an array of eight cells -/
def liC (f : Nat → Int) : Array Value := #[.int .i64 (f 0), .int .i64 (f 1), .int .i64 (f 2), .int .i64 (f 3), .int .i64 (f 4), .int .i64 (f 5), .int .i64 (f 6), .int .i64 (f 7)]
theorem liC_get (f : Nat → Int) {i : Nat} (h : i < 8) : (liC f)[i]? = some (.int .i64 (f i)) := by
  rcases (by omega : i = 0 ∨ i = 1 ∨ i = 2 ∨ i = 3 ∨ i = 4 ∨ i = 5 ∨ i = 6 ∨ i = 7) with rfl | rfl | rfl | rfl | rfl | rfl | rfl | rfl <;> rfl
set_option maxHeartbeats 400000 in
theorem lies_test (f : Nat → Int) (d : Int) (i : Nat) (hi : i < 8) (B B2 : Nat) (w : World) (h : Blk w B 103 (liC f)) (h2 : Blk w B2 3 #[.int .i64 d]) :
    Calls Try.prog 98 #[.int .i64 (i : Int), .pointer (some ⟨B, 0, none⟩), .pointer (some ⟨B2, 0, none⟩)] w fun e w' => e = .returned (.bool (f i == d)) ∧ Below w.heap.size w w' := by
  have c0 := h2.c1
  have c1 := h.cell i
  rw [liC_get f hi] at c1
  have hiI : (i : Int) < 8 := by omega
  have s1 := xt_cell c0
  have s2 := xt_cell c1
  clear h h2 c0 c1
  go_enter Try.func98, Try.ntmps98
  go_wp2
  refine wp_region_quiet_xt (by kernel_rfl) (by kernel_rfl) ?_
  repeat (go_big_quiet_step (fail))
  refine wpQuiet_nil ?_
  intro W3 hw3
  replace hw3 := of_xt hw3
  go_wp2
  go_ret
  exact ⟨rfl, hw3⟩
end Go.Proofs.Ytoeabajigfdkaaa
/- The frame behind a statement whose order is open, written out. -/
namespace Go.Proofs.Ytoeabajigfdkaaa
open Go.RowKit

/-- a list in which some places are replaced -/
def mix (ds : List Nat) (g : Nat → Value) : Nat → List Value → List Value
  | _, [] => []
  | i, v :: vs => (bif ds.contains i then g i else v) :: mix ds g (i + 1) vs
theorem mix_get (ds : List Nat) (g : Nat → Value) : ∀ (vs : List Value) (i k : Nat), (mix ds g i vs)[k]? = (vs[k]?).map fun v => bif ds.contains (i + k) then g (i + k) else v
  | [], i, k => by simp [mix]
  | v :: vs, i, 0 => by simp [mix]
  | v :: vs, i, k + 1 => by
    simp only [mix, List.getElem?_cons_succ]
    rw [mix_get ds g vs (i + 1) k, Nat.add_assoc, Nat.add_comm 1 k]
theorem act_mix {a a' : Act} (ds : List Nat) (hs : a'.tmps.size = a.tmps.size) (hd : a'.defers = a.defers) (h : ∀ i, i < a.tmps.size → ds.contains i = false → a'.tmps.getD i undef = a.tmps.getD i undef) :
    a' = { tmps := (mix ds (fun i => a'.tmps.getD i undef) 0 a.tmps.toList).toArray, defers := a.defers } := by
  obtain ⟨t', d'⟩ := a'
  obtain ⟨t, d⟩ := a
  simp only at hs hd h ⊢
  subst hd
  congr 1
  apply Array.ext_getElem?
  intro i
  show t'[i]? = (mix ds (fun i => t'.getD i undef) 0 t.toList).toArray[i]?
  rw [show (mix ds (fun i => t'.getD i undef) 0 t.toList).toArray[i]? = (mix ds (fun i => t'.getD i undef) 0 t.toList)[i]? from by simp, mix_get, Nat.zero_add]
  by_cases hi : i < t.size
  · have h1 : t.toList[i]? = some t[i] := by simp [hi]
    rw [h1]
    simp only [Option.map_some]
    have h2 : t'[i]? = some (t'.getD i undef) := by simp [Array.getD, hs, hi]
    rw [h2]
    cases hc : ds.contains i
    · simp only [cond_false]
      rw [h i hi hc]
      simp [Array.getD, hi]
    · simp only [cond_true]
  · have h1 : t.toList[i]? = none := by simp; omega
    rw [h1]
    simp only [Option.map_none]
    exact Array.getElem?_eq_none (by omega)
def dstsIn (l : List Oper) (n : Nat) (ds : List Nat) : Bool := (List.range n).all fun i => ((l.toArray[i]?).bind (·.dst)).all fun d => ds.contains d
section
variable {l : List Oper} {n : Nat} {R : Nat → Value → World → Prop} {St : World → World → Prop} {G : Array Bool → World → Prop} {a : Act} {w : World} {li : Array Bool} {a' : Act} {W : World}
theorem Done.act (h : Done l n R St G a w li a' W) (ds : List Nat) (hds : dstsIn l n ds = true) :
    a' = { tmps := (mix ds (fun i => a'.tmps.getD i undef) 0 a.tmps.toList).toArray, defers := a.defers } := by
  refine act_mix ds h.size h.defers fun i hi hc => h.rest i fun k hk e => ?_
  have h1 := List.all_eq_true.1 hds k (List.mem_range.2 hk)
  rw [e] at h1
  simp only [Option.all_some] at h1
  rw [h1] at hc
  cases hc
theorem Done.act_then (h : Done l n R St G a w li a' W) (ds : List Nat) (hds : dstsIn l n ds = true) {a4 : Act} {d : Nat} (hs : a4.tmps.size = a'.tmps.size) (hd : a4.defers = a'.defers) (ho : ∀ d', d' ≠ d → a4.tmps.getD d' undef = a'.tmps.getD d' undef) (hdd : ds.contains d = true) :
    a4 = { tmps := (mix ds (fun i => a4.tmps.getD i undef) 0 a.tmps.toList).toArray, defers := a.defers } := by
  refine act_mix ds (hs.trans h.size) (hd.trans h.defers) fun i hi hc => (ho i (fun e => by rw [e, hdd] at hc; cases hc)).trans (h.rest i fun k hk e => ?_)
  have h1 := List.all_eq_true.1 hds k (List.mem_range.2 hk)
  rw [e] at h1
  simp only [Option.all_some] at h1
  rw [h1] at hc
  cases hc
theorem Done.keeps (h : Done l n R St G a w li a' W) {ds : List Nat} (hds : dstsIn l n ds = true) : ∀ i, ds.contains i = false → a'.tmps.getD i undef = a.tmps.getD i undef := fun i hc => h.rest i fun k hk e => by
  have h1 := List.all_eq_true.1 hds k (List.mem_range.2 hk)
  rw [e] at h1
  simp only [Option.all_some] at h1
  rw [h1] at hc
  cases hc
theorem keeps_then {ds : List Nat} {b b' : Act} {d : Nat} (h : ∀ i, ds.contains i = false → b.tmps.getD i undef = a.tmps.getD i undef) (ho : ∀ d', d' ≠ d → b'.tmps.getD d' undef = b.tmps.getD d' undef) (hdd : ds.contains d = true) :
    ∀ i, ds.contains i = false → b'.tmps.getD i undef = a.tmps.getD i undef := fun i hc => (ho i (fun e => by rw [e, hdd] at hc; cases hc)).trans (h i hc)
end
end Go.Proofs.Ytoeabajigfdkaaa
/- A statement whose order is open: the law, with a phase that sees the activation. -/
namespace Go.Proofs.Ytoeabajigfdkaaa
open Go.RowKit

structure Known2 (ops : Array Oper) (n : Nat) (R : Nat → Value → World → Prop) (St : World → World → Prop) (G : Array Bool → Act → World → Prop) (a : Act) (w : World) (listed : Array Bool) (a' : Act) (W : World) : Prop where
  inv : HeadInv .any ops n listed
  st : St w W
  ph : G listed a' W
  defers : a'.defers = a.defers
  size : a'.tmps.size = a.tmps.size
  rest : ∀ d, (∀ i, i < n → (ops[i]?).bind (·.dst) ≠ some d) → a'.tmps.getD d undef = a.tmps.getD d undef
  rel : ∀ i, i < n → listed.getD i false = true → ∀ d, (ops[i]?).bind (·.dst) = some d → R i (a'.tmps.getD d undef) W

theorem wpAnyIn_rel2 {F : Fence} {m : Nat} {P : Program} {ops : Array Oper} {n : Nat} {Q : Exit → Act → World → Prop} {a : Act} {w : World} {R : Nat → Value → World → Prop} {St : World → World → Prop} {G : Array Bool → Act → World → Prop}
    (hB : relB ops n = true) (hR : ∀ i v W W', St W W' → R i v W → R i v W') (hT : ∀ {A B C : World}, St A B → St B C → St A C)
    (hds : ∀ i, i < n → ∀ d, (ops[i]?).bind (·.dst) = some d → d < a.tmps.size)
    (hstep : ∀ i o (listed : Array Bool) (a' : Act) (W : World), i < n → ops[i]? = some o → listed.size = ops.size → listed.getD i false = false →
      (∀ j oj, ops[j]? = some oj → listed.getD j false = true → ∀ e ∈ oj.after, Region.binds .any e = true → listed.getD e.on false = true) →
      G listed a' W → St w W → a'.defers = a.defers → a'.tmps.size = a.tmps.size →
      (∀ d, (∀ i, i < n → (ops[i]?).bind (·.dst) ≠ some d) → a'.tmps.getD d undef = a.tmps.getD d undef) →
      (∀ j, (∃ e, e ∈ o.after ∧ Region.binds .any e = true ∧ e.on = j) → listed.getD j false = true ∧ ∀ d, (ops[j]?).bind (·.dst) = some d → R j (a'.tmps.getD d undef) W) →
      ∀ K : Act → World → Prop, (∀ v W', R i v W' → St W W' → G (listed.setIfInBounds i true) (a'.put o.dst v) W' → K (a'.put o.dst v) W') → wpOpIn F m P ops Q i K a' W)
    (hend : ∀ (listed : Array Bool) (a' : Act) (W : World), (∀ i, i < n → listed.getD i false = true) → G listed a' W → St w W → a'.defers = a.defers → a'.tmps.size = a.tmps.size →
      (∀ d, (∀ i, i < n → (ops[i]?).bind (·.dst) ≠ some d) → a'.tmps.getD d undef = a.tmps.getD d undef) →
      (∀ i, i < n → ∀ d, (ops[i]?).bind (·.dst) = some d → R i (a'.tmps.getD d undef) W) → wpListIn F m P ops Q (ops.toList.drop n) a' W) :
    ∀ (f : Nat) (listed : Array Bool) (a' : Act) (W : World), (unlistedOf n listed).length = f → Known2 ops n R St G a w listed a' W → wpAnyIn F m P .any ops Q (f + (ops.size - n)) listed a' W := by
  simp only [relB, Bool.and_eq_true, decide_eq_true_eq] at hB
  obtain ⟨⟨⟨⟨⟨hdeps, hdst⟩, hn⟩, hs⟩, hc⟩, hseq⟩ := hB
  intro f
  induction f with
  | zero =>
    intro listed a' W hf hk
    have hnone : ∀ i, i < n → listed.getD i false = true := by
      intro i hi
      cases hl : listed.getD i false with
      | true => rfl
      | false =>
        have : i ∈ unlistedOf n listed := List.mem_filter.2 ⟨List.mem_range.2 hi, by simp [hl]⟩
        rw [List.eq_nil_of_length_eq_zero hf] at this
        cases this
    have hcan : listed = Array.replicate n true ++ Array.replicate (ops.size - n) false := by
      apply Array.ext
      · simp [hk.inv.size]; omega
      · intro i h1 h2
        by_cases hi : i < n
        · have := hnone i hi
          rw [Array.getElem_append_left (by simpa using hi)]
          simpa [Array.getD_eq_getD_getElem?, h1] using this
        · have := hk.inv.tail i (by omega) (by rw [← hk.inv.size]; exact h1)
          rw [Array.getElem_append_right (by simpa using hi)]
          simpa [Array.getD_eq_getD_getElem?, h1] using this
    have hl : (ops.toList.drop n).length = ops.size - n := by simp
    rw [Nat.zero_add, ← hl]
    refine wpAnyIn_of_seq (ops.toList.drop n) n listed a' W (fun j => by simp [List.getElem?_drop]) (by rw [hl, hcan]; exact hseq) ?_
    exact hend listed a' W hnone hk.ph hk.st hk.defers hk.size hk.rest (fun i hi d hd => hk.rel i hi (hnone i hi) d hd)
  | succ f ih =>
    intro listed a' W hf hk
    have hne : unlistedOf n listed ≠ [] := fun h => by rw [h] at hf; cases hf
    obtain ⟨i0, hi0⟩ := List.exists_mem_of_ne_nil _ hne
    have hi0n : i0 < n := List.mem_range.1 (List.mem_filter.1 hi0).1
    have hi0f : listed.getD i0 false = false := by simpa using (List.mem_filter.1 hi0).2
    have hhead : ∀ i ∈ Region.ready .any ops listed, i < n := by
      intro i hi
      rcases Nat.lt_or_ge i n with h | h
      · exact h
      · exact absurd hi (tail_waits hs hc hn hk.inv (n - i0) i0 rfl hi0n (getD_in (by rw [hk.inv.size]; omega) hi0f) i h)
    have hready : Region.ready .any ops listed ≠ [] := by
      have key : ∀ m i, i ≤ m → i < n → listed.getD i false = false → ∃ j, j ∈ Region.ready .any ops listed := by
        intro m
        induction m with
        | zero =>
          intro i hi hin hl
          obtain rfl : i = 0 := by omega
          have ho : ops[0]? = some (ops[0]'(by omega)) := Array.getElem?_eq_getElem _
          exact ⟨0, mem_ready.2 ⟨getD_in (by rw [hk.inv.size]; omega) hl, _, ho, fun e he hb => absurd (depsB_spec hdeps ho he hb) (Nat.not_lt_zero _)⟩⟩
        | succ m ihm =>
          intro i hi hin hl
          have ho : ops[i]? = some (ops[i]'(by omega)) := Array.getElem?_eq_getElem _
          by_cases hall : ∀ e ∈ (ops[i]'(by omega)).after, Region.binds .any e = true → listed.getD e.on false = true
          · exact ⟨i, mem_ready.2 ⟨getD_in (by rw [hk.inv.size]; omega) hl, _, ho, hall⟩⟩
          · simp only [Classical.not_forall] at hall
            obtain ⟨e, he, hb, hnl⟩ := hall
            have hlt := depsB_spec hdeps ho he hb
            exact ihm e.on (by omega) (by omega) (by simpa using hnl)
      obtain ⟨j, hj⟩ := key i0 i0 (Nat.le_refl _) hi0n hi0f
      exact List.ne_nil_of_mem hj
    rw [show f + 1 + (ops.size - n) = (f + (ops.size - n)) + 1 by omega]
    refine ⟨fun h => absurd h hready, fun i hi => ?_⟩
    have hin := hhead i hi
    obtain ⟨hlt, o, ho, hall⟩ := mem_ready.1 hi
    have hif : listed.getD i false = false := getD_both hlt
    refine hstep i o listed a' W hin ho hk.inv.size hif hk.inv.closed hk.ph hk.st hk.defers hk.size hk.rest (fun j ⟨e, he, hb, hj⟩ => by
      subst hj
      exact ⟨hall e he hb, fun d hd => hk.rel e.on (by have := depsB_spec hdeps ho he hb; omega) (hall e he hb) d hd⟩) _ ?_
    intro v W' hv hst hg
    refine ih _ _ _ ?_ ⟨hk.inv.set hi hin, hT hk.st hst, hg, by rw [put_defers]; exact hk.defers, by rw [put_size]; exact hk.size, fun d hd => ?_, fun j hj hl d hd => ?_⟩
    · have hsz : i < listed.size := by rw [hk.inv.size]; omega
      have : (unlistedOf n (listed.setIfInBounds i true)) = (unlistedOf n listed).filter (fun j => !(j == i)) := by
        unfold unlistedOf
        rw [List.filter_filter]
        apply List.filter_congr
        intro j _
        by_cases hji : j = i
        · subst hji; rw [getD_set_eq hsz]; simp
        · rw [getD_set_oth (fun h => hji h.symm)]; simp [hji]
      rw [this]
      have hnd : (unlistedOf n listed).Nodup := List.Nodup.sublist List.filter_sublist List.nodup_range
      have hmem : i ∈ unlistedOf n listed := List.mem_filter.2 ⟨List.mem_range.2 hin, by simp [hif]⟩
      have he : (unlistedOf n listed).filter (fun j => !(j == i)) = (unlistedOf n listed).erase i := by
        rw [hnd.erase_eq_filter]; rfl
      rw [he, List.length_erase_of_mem hmem, hf]; rfl
    · have hne' : o.dst ≠ some d := by
        have := hd i hin
        rw [ho] at this
        exact this
      cases hod : o.dst with
      | none => simpa [Act.put, hod] using hk.rest d hd
      | some d' =>
        rw [put_getD_other (by rintro rfl; exact hne' hod)]
        exact hk.rest d hd
    · by_cases hji : j = i
      · subst hji
        rw [ho] at hd
        have hod : o.dst = some d := hd
        rw [hod, put_getD_same (by rw [hk.size]; exact hds j hj d (by rw [ho]; exact hod))]
        exact hv
      · rw [getD_set_oth (fun h => hji h.symm)] at hl
        have hR' := hR j _ _ _ hst (hk.rel j hj hl d hd)
        cases hod : o.dst with
        | none => simpa [Act.put, hod] using hR'
        | some d' =>
          rw [put_getD_other (by
            rintro rfl
            exact dstsB_spec hdst hin hj (fun h => hji h.symm) (by rw [ho]; exact hod) hd)]
          exact hR'

theorem wpIn_region_rel2 {F : Fence} {m : Nat} {P : Program} {id : Nat} {Q : Exit → Act → World → Prop} {a : Act} {w : World} {l : List Oper} (n : Nat) (R : Nat → Value → World → Prop) (St : World → World → Prop) (G : Array Bool → Act → World → Prop) (hm : P.follows .mixedOrders = true)
    (hB : relB l.toArray n = true) (hR : ∀ i v W W', St W W' → R i v W → R i v W') (hT : ∀ {A B C : World}, St A B → St B C → St A C) (h0 : St w { w with drawn := w.drawn + 1 }) (hG : G (Array.replicate l.length false) a { w with drawn := w.drawn + 1 })
    (hds : (List.range n).all (fun i => (((l.toArray[i]?).bind (·.dst)).all fun d => decide (d < a.tmps.size))) = true)
    (hstep : ∀ i o (listed : Array Bool) (a' : Act) (W : World), i < n → l[i]? = some o → listed.size = l.length → listed.getD i false = false →
      (∀ j oj, l[j]? = some oj → listed.getD j false = true → ∀ e ∈ oj.after, Region.binds .any e = true → listed.getD e.on false = true) →
      G listed a' W → St w W → a'.defers = a.defers → a'.tmps.size = a.tmps.size →
      (∀ d, (∀ i, i < n → (l.toArray[i]?).bind (·.dst) ≠ some d) → a'.tmps.getD d undef = a.tmps.getD d undef) →
      (∀ j, (∃ e, e ∈ o.after ∧ Region.binds .any e = true ∧ e.on = j) → listed.getD j false = true ∧ ∀ d, (l.toArray[j]?).bind (·.dst) = some d → R j (a'.tmps.getD d undef) W) →
      ∀ K : Act → World → Prop, (∀ v W', R i v W' → St W W' → G (listed.setIfInBounds i true) (a'.put o.dst v) W' → K (a'.put o.dst v) W') → wpOpIn F m P l.toArray Q i K a' W)
    (hend : ∀ (listed : Array Bool) (a' : Act) (W : World), (∀ i, i < n → listed.getD i false = true) → G listed a' W → St w W → a'.defers = a.defers → a'.tmps.size = a.tmps.size →
      (∀ d, (∀ i, i < n → (l.toArray[i]?).bind (·.dst) ≠ some d) → a'.tmps.getD d undef = a.tmps.getD d undef) →
      (∀ i, i < n → ∀ d, (l.toArray[i]?).bind (·.dst) = some d → R i (a'.tmps.getD d undef) W) → wpListIn F m P l.toArray Q (l.drop n) a' W) :
    (Code.region id l.toArray true).wpIn F m P Q a w := by
  refine wpIn_region_any hm ?_
  have hn : n < l.toArray.size := by
    simp only [relB, Bool.and_eq_true, decide_eq_true_eq] at hB
    exact hB.1.1.1.2
  have hu : (unlistedOf n (Array.replicate l.toArray.size false)).length = n := by
    have : unlistedOf n (Array.replicate l.toArray.size false) = List.range n := by
      unfold unlistedOf
      rw [List.filter_eq_self]
      intro i _
      rw [getD_replicate_false]; rfl
    rw [this, List.length_range]
  have hds' : ∀ i, i < n → ∀ d, (l.toArray[i]?).bind (·.dst) = some d → d < a.tmps.size := by
    intro i hi d hd
    have := List.all_eq_true.1 hds i (List.mem_range.2 hi)
    rw [hd] at this
    simpa using this
  have H := wpAnyIn_rel2 (F := F) (m := m) (P := P) (ops := l.toArray) (n := n) (Q := Q) (a := a) (w := w) (R := R) (St := St) (G := G) hB hR hT hds' (fun i o listed a' W hi ho hs h1 h2 => hstep i o listed a' W hi (by simpa using ho) (by simpa using hs) h1 (fun j oj hj => h2 j oj (by simpa using hj)))
    (fun listed a' W h0 h1 h2 h3 h4 h5 h6 => by simpa using hend listed a' W h0 h1 h2 h3 h4 h5 h6) n (Array.replicate l.toArray.size false) a { w with drawn := w.drawn + 1 } hu
    ⟨⟨by simp, fun j oj _ hl => (by rw [getD_replicate_false] at hl; cases hl), fun t _ ht => getD_in (by simpa using ht) (getD_replicate_false _ _)⟩, h0, by simpa using hG, rfl, rfl, fun _ _ => rfl, fun i _ hl => by rw [getD_replicate_false] at hl; cases hl⟩
  rwa [show n + (l.toArray.size - n) = l.toArray.size by omega] at H

structure At2 (l : List Oper) (n : Nat) (R : Nat → Value → World → Prop) (St : World → World → Prop) (G : Array Bool → Act → World → Prop) (a : Act) (w : World) (i : Nat) (o : Oper) (listed : Array Bool) (a' : Act) (W : World) : Prop where
  lsize : listed.size = l.length
  new : listed.getD i false = false
  closed : ∀ j oj, l[j]? = some oj → listed.getD j false = true → ∀ e ∈ oj.after, Region.binds .any e = true → listed.getD e.on false = true
  ph : G listed a' W
  st : St w W
  defers : a'.defers = a.defers
  size : a'.tmps.size = a.tmps.size
  rest : ∀ d, (∀ i, i < n → (l.toArray[i]?).bind (·.dst) ≠ some d) → a'.tmps.getD d undef = a.tmps.getD d undef
  dep : ∀ j, (∃ e, e ∈ o.after ∧ Region.binds .any e = true ∧ e.on = j) → listed.getD j false = true ∧ ∀ d, (l.toArray[j]?).bind (·.dst) = some d → R j (a'.tmps.getD d undef) W

structure Done2 (l : List Oper) (n : Nat) (R : Nat → Value → World → Prop) (St : World → World → Prop) (G : Array Bool → Act → World → Prop) (a : Act) (w : World) (listed : Array Bool) (a' : Act) (W : World) : Prop where
  all : ∀ i, i < n → listed.getD i false = true
  ph : G listed a' W
  st : St w W
  defers : a'.defers = a.defers
  size : a'.tmps.size = a.tmps.size
  rest : ∀ d, (∀ i, i < n → (l.toArray[i]?).bind (·.dst) ≠ some d) → a'.tmps.getD d undef = a.tmps.getD d undef
  dep : ∀ i, i < n → ∀ d, (l.toArray[i]?).bind (·.dst) = some d → R i (a'.tmps.getD d undef) W

section
variable {l : List Oper} {n : Nat} {R : Nat → Value → World → Prop} {St : World → World → Prop} {G : Array Bool → Act → World → Prop} {a : Act} {w : World} {i : Nat} {o : Oper} {listed : Array Bool} {a' : Act} {W : World}
theorem At2.val (h : At2 l n R St G a w i o listed a' W) (j d : Nat) (hj : edgeB o j = true) (hd : dstB l j d = true) : R j (a'.tmps.getD d undef) W := by
  refine (h.dep j (edgeB_spec hj)).2 d ?_
  simpa [dstB] using hd
theorem At2.has (h : At2 l n R St G a w i o listed a' W) (j : Nat) (hj : edgeB o j = true) : listed.getD j false = true := (h.dep j (edgeB_spec hj)).1
theorem At2.past (h : At2 l n R St G a w i o listed a' W) {j : Nat} (hl : listed.getD j false = true) (k : Nat) (hj : ((l[j]?).map fun o => edgeB o k).getD false = true) : listed.getD k false = true := by
  cases ho : l[j]? with
  | none => rw [ho] at hj; cases hj
  | some oj =>
    rw [ho] at hj
    obtain ⟨e, he, hb, hk⟩ := edgeB_spec (show edgeB oj k = true from hj)
    rw [← hk]
    exact h.closed j oj ho hl e he hb
theorem At2.par (h : At2 l n R St G a w i o listed a' W) (d : Nat) (hd : parB l n d = true) : a'.tmps.getD d undef = a.tmps.getD d undef := h.rest d (parB_spec hd)
theorem Done2.val (h : Done2 l n R St G a w listed a' W) (j d : Nat) (hj : decide (j < n) = true) (hd : dstB l j d = true) : R j (a'.tmps.getD d undef) W := by
  refine h.dep j (of_decide_eq_true hj) d ?_
  simpa [dstB] using hd
theorem Done2.par (h : Done2 l n R St G a w listed a' W) (d : Nat) (hd : parB l n d = true) : a'.tmps.getD d undef = a.tmps.getD d undef := h.rest d (parB_spec hd)
end
theorem wpIn_region_each2 {F : Fence} {m : Nat} {P : Program} {id : Nat} {Q : Exit → Act → World → Prop} {a : Act} {w : World} {l : List Oper} (n : Nat) (R : Nat → Value → World → Prop) (St : World → World → Prop) (G : Array Bool → Act → World → Prop) (hm : P.follows .mixedOrders = true)
    (hB : relB l.toArray n = true) (hR : ∀ i v W W', St W W' → R i v W → R i v W') (hT : ∀ {A B C : World}, St A B → St B C → St A C) (h0 : St w { w with drawn := w.drawn + 1 }) (hG : G (Array.replicate l.length false) a { w with drawn := w.drawn + 1 })
    (hds : (List.range n).all (fun i => (((l.toArray[i]?).bind (·.dst)).all fun d => decide (d < a.tmps.size))) = true)
    (hstep : AllI (fun i o => ∀ (listed : Array Bool) (a' : Act) (W : World), At2 l n R St G a w i o listed a' W →
      ∀ K : Act → World → Prop, (∀ v W', R i v W' → St W W' → G (listed.setIfInBounds i true) (a'.put o.dst v) W' → K (a'.put o.dst v) W') → wpOpIn F m P l.toArray Q i K a' W) 0 (l.take n))
    (hend : ∀ (listed : Array Bool) (a' : Act) (W : World), Done2 l n R St G a w listed a' W → wpListIn F m P l.toArray Q (l.drop n) a' W) :
    (Code.region id l.toArray true).wpIn F m P Q a w := by
  refine wpIn_region_rel2 n R St G hm hB hR hT h0 hG hds ?_ ?_
  · intro i o listed a' W hi ho h1 h2 h3 h4 h5 h6 h7 h8 h9 K hK
    have := hstep.get (i := i) (o := o) (by rw [List.getElem?_take_of_lt hi]; exact ho)
    rw [Nat.zero_add] at this
    exact this listed a' W ⟨h1, h2, h3, h4, h5, h6, h7, h8, h9⟩ K hK
  · intro listed a' W h1 h2 h3 h4 h5 h6 h7
    exact hend listed a' W ⟨h1, h2, h3, h4, h5, h6, h7⟩
section
variable {l : List Oper} {n : Nat} {R : Nat → Value → World → Prop} {St : World → World → Prop} {G : Array Bool → Act → World → Prop} {a : Act} {w : World} {li : Array Bool} {a' : Act} {W : World}
theorem Done2.act (h : Done2 l n R St G a w li a' W) (ds : List Nat) (hds : dstsIn l n ds = true) :
    a' = { tmps := (mix ds (fun i => a'.tmps.getD i undef) 0 a.tmps.toList).toArray, defers := a.defers } := by
  refine act_mix ds h.size h.defers fun i hi hc => h.rest i fun k hk e => ?_
  have h1 := List.all_eq_true.1 hds k (List.mem_range.2 hk)
  rw [e] at h1
  simp only [Option.all_some] at h1
  rw [h1] at hc
  cases hc
theorem Done2.act_then (h : Done2 l n R St G a w li a' W) (ds : List Nat) (hds : dstsIn l n ds = true) {a4 : Act} {d : Nat} (hs : a4.tmps.size = a'.tmps.size) (hd : a4.defers = a'.defers) (ho : ∀ d', d' ≠ d → a4.tmps.getD d' undef = a'.tmps.getD d' undef) (hdd : ds.contains d = true) :
    a4 = { tmps := (mix ds (fun i => a4.tmps.getD i undef) 0 a.tmps.toList).toArray, defers := a.defers } := by
  refine act_mix ds (hs.trans h.size) (hd.trans h.defers) fun i hi hc => (ho i (fun e => by rw [e, hdd] at hc; cases hc)).trans (h.rest i fun k hk e => ?_)
  have h1 := List.all_eq_true.1 hds k (List.mem_range.2 hk)
  rw [e] at h1
  simp only [Option.all_some] at h1
  rw [h1] at hc
  cases hc
theorem Done2.keeps (h : Done2 l n R St G a w li a' W) {ds : List Nat} (hds : dstsIn l n ds = true) : ∀ i, ds.contains i = false → a'.tmps.getD i undef = a.tmps.getD i undef := fun i hc => h.rest i fun k hk e => by
  have h1 := List.all_eq_true.1 hds k (List.mem_range.2 hk)
  rw [e] at h1
  simp only [Option.all_some] at h1
  rw [h1] at hc
  cases hc
end

end Go.Proofs.Ytoeabajigfdkaaa
/- bits.Mul at small numbers. -/
namespace Go.Proofs.Ytoeabajigfdkaaa
open Go.RowKit

end Go.Proofs.Ytoeabajigfdkaaa
/- Repeat: a row of ranges, all alike. -/
namespace Go.Proofs.Ytoeabajigfdkaaa
open Go.RowKit

theorem run_copy_sz {P : Program} (w : World) (dT sT ty elem : TypeId) (g o dLen dCap : Nat) (a : Addr) (sLen sCap sz : Nat) (cur : Array Value) (t : TypeId) (cs : List Value)
    (hu : P.underlying dT = some (.slice elem)) (hs : (P.info? elem).map (·.size) = some sz)
    (hg : w.heap[g]? = some (.cells cur t (0, 0))) (hn : cs.length = Nat.min sLen dLen * sz)
    (hsrc : ∀ j v, cs[j]? = some v → w.cell? (a.add j) = some v) (hfit : o + cs.length ≤ cur.size) (h1 : ∀ v ∈ cs, v.oneCell' = true) (new : Array Value) (hnew : cur.toList.take o ++ cs ++ cur.toList.drop (o + cs.length) = new.toList) :
    (Builtin.copy_ #[dT, sT] ty #[.slice (some ⟨g, o, none⟩) dLen dCap, .slice (some a) sLen sCap]).run P w =
      .ok (goInt (Nat.min sLen dLen)) (w.setRow g new) := by
  have hl := run_loadCells_list (P := P) w a cs hsrc
  have hst := run_storeCells_at P g o t cs 0 cur w hg (by simpa using hfit) h1
  have e : (cur.toList.take o ++ cs ++ cur.toList.drop (o + cs.length)).toArray = new := by rw [hnew]
  cases hq : P.info? elem with
  | none => simp [hq] at hs
  | some i =>
    have hi : i.size = sz := by simpa [hq] using hs
    simp only [Nat.add_zero, e] at hst
    simp [Builtin.copy_, run_underlying hu, Builtin.lenOf, Builtin.firstCells, sizeOf, typeInfo, hq, hi, ← hn, hl, hst]
theorem grown_setRow {w : World} {g : Nat} {cs : Array Value} : w.grownBy (w.setRow g cs) (some g) := ⟨rfl, rfl, rfl, by simp [World.setRow], fun k _ hn => setRow_other w g k cs (fun e => hn (by rw [e]))⟩

theorem wpList_copy_sz {P : Program} {w : World} {ops : Array Oper} {rest : List Oper} {o : Oper} {a : Act} {Q : Exit → Act → World → Prop} (hgd : o.guard = none) (d s : Operand) (dT sT : TypeId)
    (ho : o.op = .call { callee := .builtin .copy, args := #[d, s], argTypes := #[dT, sT] }) (elem sz : Nat) (hu : P.underlying dT = some (.slice elem)) (hsz : (P.info? elem).map (·.size) = some sz)
    (g off dLen dCap : Nat) (ad : Addr) (sLen sCap : Nat) (hd : a.eval d = .slice (some ⟨g, off, none⟩) dLen dCap) (hs : a.eval s = .slice (some ad) sLen sCap)
    (cur : Array Value) (t : TypeId) (hg : w.heap[g]? = some (.cells cur t (0, 0))) (cs : List Value) (hn : cs.length = Nat.min sLen dLen * sz)
    (hsrc : ∀ j v, cs[j]? = some v → w.cell? (ad.add j) = some v) (hfit : off + cs.length ≤ cur.size) (h1 : ∀ v ∈ cs, v.oneCell' = true) (new : Array Value) (hnew : cur.toList.take off ++ cs ++ cur.toList.drop (off + cs.length) = new.toList)
    (h : ∀ w', Hid (w'.heap[g]? = some (.cells new t (0, 0))) → w.grownBy w' (some g) → wpList P ops Q rest (a.put o.dst (goInt (Nat.min sLen dLen))) w') : wpList P ops Q (o :: rest) a w := by
  refine wpList_plain hgd fun K hK => ?_
  have hrun := run_copy_sz (P := P) w dT sT o.type elem g off dLen dCap ad sLen sCap sz cur t cs hu hsz hg hn hsrc hfit h1 new hnew
  unfold Oper.wp
  simp [execOp, ho, resolve, invoke, builtin, hd, hs, hrun, Result.andThen]
  exact hK _ _ (h _ (hid (setRow_heap w g _ _ t _ hg)) grown_setRow)

theorem range_info : (Try.prog.info? 49).map (·.size) = some 2 := by kernel_rfl
/-- a row of c ranges, the first k of which are filled -/
def rptL (x y : Int) (c k : Nat) : List Value := (List.replicate k [Value.int .i64 x, .int .i64 y] ++ List.replicate (c - k) [Value.int .i64 0, .int .i64 0]).flatten
theorem range_info3 : (Try.prog.info? 49).map (fun i => (i.zero, i.size, i.bytes)) = some (some (.agg #[.int .i64 0, .int .i64 0]), 2, 16) := by kernel_rfl
theorem rpt_made (x y : Int) {c : Nat} (hc : 1 ≤ c ∧ c ≤ 4) : madeCells #[.int .i64 0, .int .i64 0] (c * 2) = (rptL x y c 0).toArray := by
  have : c = 1 ∨ c = 2 ∨ c = 3 ∨ c = 4 := by omega
  rcases this with rfl | rfl | rfl | rfl <;> (rw [madeCells, ← List.toArray_range]; simp [rptL, List.range, List.range.loop, List.replicate])
theorem rpt_len {x y : Int} {c k : Nat} (hk : k ≤ c) : (rptL x y c k).length = c * 2 := by
  simp [rptL, List.length_flatten]; omega
theorem rpt_fill {x y : Int} {c k : Nat} (hc : c ≤ 4) (hk : k < c) : (rptL x y c k).take (k * 2) ++ (List.replicate (Nat.min (if k = 0 then 1 else k) (c - k)) [Value.int .i64 x, .int .i64 y]).flatten ++ (rptL x y c k).drop (k * 2 + (List.replicate (Nat.min (if k = 0 then 1 else k) (c - k)) [Value.int .i64 x, .int .i64 y]).flatten.length) = rptL x y c (k + Nat.min (if k = 0 then 1 else k) (c - k)) := by
  have h1 : c = 1 ∨ c = 2 ∨ c = 3 ∨ c = 4 := by omega
  have h2 : k = 0 ∨ k = 1 ∨ k = 2 ∨ k = 3 := by omega
  rcases h1 with rfl | rfl | rfl | rfl <;> rcases h2 with rfl | rfl | rfl | rfl <;> first | omega | rfl
theorem rpt_cell {x y : Int} {c k : Nat} : ∀ (j : Nat) (v : Value), (List.replicate (Nat.min k (c - k)) [Value.int .i64 x, Value.int .i64 y]).flatten[j]? = some v → (rptL x y c k)[j]? = some v := by
  intro j v h
  unfold rptL
  obtain ⟨d, hd⟩ : ∃ d, k = Nat.min k (c - k) + d := ⟨k - Nat.min k (c - k), by have : Nat.min k (c - k) ≤ k := Nat.min_le_left k (c - k); omega⟩
  have e : List.replicate k [Value.int .i64 x, Value.int .i64 y] = List.replicate (Nat.min k (c - k)) [Value.int .i64 x, Value.int .i64 y] ++ List.replicate d [Value.int .i64 x, Value.int .i64 y] := by
    rw [List.replicate_append_replicate, ← hd]
  rw [e, List.append_assoc, List.flatten_append, List.getElem?_append_left (List.getElem?_eq_some_iff.1 h).1]
  exact h
theorem rpt_one {x y : Int} {n : Nat} : ∀ v ∈ (List.replicate n [Value.int .i64 x, .int .i64 y]).flatten, v.oneCell' = true := by
  intro v hv
  rw [List.mem_flatten] at hv
  obtain ⟨l, hl, hv⟩ := hv
  obtain rfl := (List.mem_replicate.1 hl).2
  simp at hv
  rcases hv with rfl | rfl <;> rfl

theorem add_blk (g j : Nat) : (⟨g, 0, none⟩ : Addr).add j = ⟨g, j, none⟩ := by unfold Addr.add; split <;> simp_all
theorem rpt_first {x y : Int} {c : Nat} (hc : 1 ≤ c ∧ c ≤ 4) : (rptL x y c 0).toArray.toList.take 0 ++ [Value.int .i64 x, .int .i64 y] ++ (rptL x y c 0).toArray.toList.drop (0 + [Value.int .i64 x, .int .i64 y].length) = (rptL x y c 1).toArray.toList := by
  have : c = 1 ∨ c = 2 ∨ c = 3 ∨ c = 4 := by omega
  rcases this with rfl | rfl | rfl | rfl <;> rfl
theorem rpt_next {x y : Int} {c k : Nat} (hc : c ≤ 4) (h1 : 1 ≤ k) (hk : k < c) : (rptL x y c k).toArray.toList.take (k * 2) ++ (List.replicate (Nat.min k (c - k)) [Value.int .i64 x, .int .i64 y]).flatten ++ (rptL x y c k).toArray.toList.drop (k * 2 + (List.replicate (Nat.min k (c - k)) [Value.int .i64 x, .int .i64 y]).flatten.length) = (rptL x y c (k + Nat.min k (c - k))).toArray.toList := by
  have := rpt_fill (x := x) (y := y) hc hk
  rw [if_neg (by omega)] at this
  exact this

theorem grown_same {A B C : World} {m : Option Nat} (h : A.grownBy B m) (k : B.grownBy C m) : A.grownBy C m :=
  ⟨k.os.trans h.os, k.tape.trans h.tape, k.output.trans h.output, Nat.le_trans h.size k.size, fun i hi hn => (k.block i (Nat.lt_of_lt_of_le hi h.size) hn).trans (h.block i hi hn)⟩
def RptPh (x y : Int) (c k g : Nat) (li : Array Bool) (W : World) : Prop := Blk W g 49 (if li.getD 7 false = true then rptL x y c (k + Nat.min k (c - k)) else rptL x y c k).toArray
theorem rpt_ph {x y : Int} {c k g i : Nat} {li : Array Bool} {W : World} (h : RptPh x y c k g li W) (hi : i ≠ 7) : RptPh x y c k g (li.setIfInBounds i true) W := by unfold RptPh; rw [getD_set_oth hi]; exact h
/-- a row of ranges, in memory of its own -/
def GivesRanges (x y : Int) (c : Nat) (w : World) (e : Ending) (w' : World) : Prop := ∃ g, e = .returned (.slice (some ⟨g, 0, none⟩) c c) ∧ w.heap.size ≤ g ∧ Blk w' g 49 (rptL x y c c).toArray ∧ Below w.heap.size w w'

end Go.Proofs.Ytoeabajigfdkaaa
