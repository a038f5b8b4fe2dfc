/- The walks and the plain laws of this part of the program, part 12: what each computes. Conditions stand at each theorem. -/
import Derived.DeepKeys3
import Derived.WideKeyEntry
import Derived.Test.YtlnamjhgbdacbaaGreatG6
import Derived.Test.YtlnamjhgbdacbaaGreatG9
import Derived.Test.YtlnamjhgbdacbaaGreatG10
import Derived.Test.YtlnamjhgbdacbaaGreatG11
/- The carried counts in plain words: the parts of each old district add up to its count; sums by districts; what the counts depend on. Conditions stand at each theorem. -/
namespace Go.Proofs.YtlnamjhgbdacbaaGreat

theorem atTo_inc (m : MapD) (d : Nat) : ∀ k, (atTo m d k).Pairwise (· < ·)
  | 0 => List.Pairwise.nil
  | k + 1 => by
    rw [atTo]
    refine List.pairwise_append.2 ⟨atTo_inc m d k, ?_, fun a ha b hb => ?_⟩
    · split
      · exact List.pairwise_singleton _ _
      · exact List.Pairwise.nil
    · have h1 := (atTo_mem.1 ha).1
      split at hb
      · rw [List.mem_singleton] at hb; omega
      · simp at hb
theorem atTo_sum (m : MapD) (d : Nat) (f : Nat → Int) : ∀ k, sumN (fun i => if (m.S i).o = (d : Int) then f i else 0) k = ((atTo m d k).map f).sum
  | 0 => rfl
  | k + 1 => by
    rw [sumN_succ, atTo_sum m d f k, atTo, List.map_append, List.sum_append]
    split <;> simp
theorem set_getD_ne {xs : List Int} {i j : Nat} {v : Int} (h : i ≠ j) : (xs.set i v).getD j 0 = xs.getD j 0 := by
  rw [List.getD, List.getD, List.getElem?_set_ne h]
theorem set_getD_eq {xs : List Int} {i : Nat} {v : Int} (h : i < xs.length) : (xs.set i v).getD i 0 = v := by
  rw [List.getD, List.getElem?_set_self h]; rfl
theorem putTo_miss {out : List Int} {at_ : List Nat} {ps : List Int} {i : Nat} (hi : i ∉ at_) : ∀ j, j ≤ at_.length → (putTo out at_ ps j).getD i 0 = out.getD i 0
  | 0, _ => rfl
  | j + 1, hj => by
    rw [putTo, set_getD_ne, putTo_miss hi j (by omega)]
    intro e
    refine hi (e ▸ ?_)
    rw [List.getD, List.getElem?_eq_getElem (by omega)]
    exact List.getElem_mem _
theorem putTo_hit {out : List Int} {at_ : List Nat} {ps : List Int} (hp : at_.Pairwise (· < ·)) (ho : ∀ i ∈ at_, i < out.length) {t : Nat} : ∀ j, t < j → j ≤ at_.length → (putTo out at_ ps j).getD (at_.getD t 0) 0 = ps.getD t 0
  | 0, h, _ => by omega
  | j + 1, h, hj => by
    rw [putTo]
    by_cases e : t = j
    · subst e
      refine set_getD_eq ?_
      rw [putTo_len]
      refine ho _ ?_
      rw [List.getD, List.getElem?_eq_getElem (by omega)]
      exact List.getElem_mem _
    · rw [set_getD_ne, putTo_hit hp ho j (by omega) (by omega)]
      rw [List.getD, List.getD, List.getElem?_eq_getElem (by omega), List.getElem?_eq_getElem (show t < at_.length by omega)]
      have := List.pairwise_iff_getElem.1 hp t j (by omega) (by omega) (by omega)
      simp only [Option.getD_some]
      omega
theorem carTo_parts {m : MapD} {d : Nat} : ∀ D, d < D → (atTo m d m.ss.length).map (fun i => (carTo m D).getD i 0) = parts m d
  | 0, h => by omega
  | D + 1, h => by
    rw [carTo]
    by_cases e : d = D
    · subst e
      refine List.ext_getElem? fun t => ?_
      rw [List.getElem?_map]
      by_cases ht : t < (atTo m d m.ss.length).length
      · have h1 := putTo_hit (out := carTo m d) (ps := parts m d) (atTo_inc m d m.ss.length) (fun i hi => by rw [carTo_len]; exact (atTo_mem.1 hi).1) _ ht (Nat.le_refl _)
        rw [List.getElem?_eq_getElem ht, List.getElem?_eq_getElem (by rw [parts_len]; exact ht)]
        rw [List.getD_eq_getElem?_getD (l := atTo m d m.ss.length), List.getElem?_eq_getElem ht, List.getD_eq_getElem?_getD (l := parts m d), List.getElem?_eq_getElem (by rw [parts_len]; exact ht)] at h1
        exact congrArg some h1
      · rw [List.getElem?_eq_none (by omega), List.getElem?_eq_none (by rw [parts_len]; omega)]; rfl
    · refine Eq.trans ?_ (carTo_parts (d := d) D (by omega))
      refine List.map_congr_left fun i hi => ?_
      refine putTo_miss (fun h' => ?_) _ (Nat.le_refl _)
      have h1 := (atTo_mem.1 hi).2
      have h2 := (atTo_mem.1 h').2
      omega
theorem car_parts {m : MapD} {d : Nat} (hd : d < m.old.length) : (atTo m d m.ss.length).map (fun i => (car m).getD i 0) = parts m d := carTo_parts _ hd
theorem parts_sum {m : MapD} (ok : OkM m) {d : Nat} (hd : d < m.old.length) : (parts m d).sum = m.at_ d := by
  obtain ⟨dok, hne, _, _⟩ := div_ok (ok.divE hd)
  exact div_sum dok hne
/-- the carried counts of an old district add up to its count -/
theorem car_sum {m : MapD} (ok : OkM m) {d : Nat} (hd : d < m.old.length) : sumN (fun i => if (m.S i).o = (d : Int) then (car m).getD i 0 else 0) m.ss.length = m.at_ d := by
  rw [atTo_sum, car_parts hd, parts_sum ok hd]
/-- sums by districts are sums -/
theorem smTo_get {nw : Nat} {l : Nat → Int} {xs : List Int} {q : Nat} (hq : q < nw) : ∀ {k : Nat}, (∀ i, i < k → 0 ≤ l i) → (smTo nw l xs k).getD q 0 = sumN (fun i => if l i = (q : Int) then xs.getD i 0 else 0) k
  | 0, _ => by simp [smTo, sumN, List.getD, hq]
  | k + 1, hl => by
    have ih := smTo_get hq (l := l) (xs := xs) (k := k) fun i hi => hl i (by omega)
    have h0 := hl k (by omega)
    rw [smTo, sumN_succ]
    by_cases e : l k = (q : Int)
    · rw [if_pos e, ← ih, e, Int.toNat_natCast]
      exact set_getD_eq (by rw [smTo_len]; exact hq)
    · rw [if_neg e, set_getD_ne (by omega), ih, Int.add_zero]
theorem smD_get {m : MapD} {l : Nat → Int} {xs : List Int} {q : Nat} (hq : q < m.nw.toNat) (hl : ∀ i, i < xs.length → 0 ≤ l i) : (smD m l xs).getD q 0 = sumN (fun i => if l i = (q : Int) then xs.getD i 0 else 0) xs.length := smTo_get hq hl
/-- the counts depend on the old districts, their counts, and the parts by the weights -/
theorem atTo_congr {m x : MapD} {d : Nat} : ∀ {k : Nat}, (∀ i, i < k → (m.S i).o = (x.S i).o) → atTo m d k = atTo x d k
  | 0, _ => rfl
  | k + 1, h => by rw [atTo, atTo, atTo_congr (k := k) fun i hi => h i (by omega), h k (by omega)]
theorem wsTo_congr {m x : MapD} {d : Nat} : ∀ {k : Nat}, (∀ i, i < k → (m.S i).o = (x.S i).o ∧ (m.S i).wt = (x.S i).wt) → wsTo m d k = wsTo x d k
  | 0, _ => rfl
  | k + 1, h => by rw [wsTo, wsTo, wsTo_congr (k := k) fun i hi => h i (by omega), (h k (by omega)).1, (h k (by omega)).2]
theorem wsTo_times {m x : MapD} {d : Nat} {n : Int} : ∀ {k : Nat}, (∀ i, i < k → (m.S i).o = (x.S i).o ∧ (x.S i).wt = n * (m.S i).wt) → wsTo x d k = (wsTo m d k).map fun w => n * w
  | 0, _ => rfl
  | k + 1, h => by
    rw [wsTo, wsTo, wsTo_times (k := k) fun i hi => h i (by omega), ← (h k (by omega)).1, (h k (by omega)).2, List.map_append]
    split <;> rfl
theorem carTo_congr {m x : MapD} (hs : m.ss.length = x.ss.length) (ho : ∀ i, i < m.ss.length → (m.S i).o = (x.S i).o) (hp : ∀ d, parts m d = parts x d) : ∀ d, carTo m d = carTo x d
  | 0 => by rw [carTo, carTo, hs]
  | d + 1 => by rw [carTo, carTo, carTo_congr hs ho hp d, hp, ← hs, atTo_congr ho]
theorem car_congr {m x : MapD} (hd : m.old = x.old) (hs : m.ss.length = x.ss.length) (ho : ∀ i, i < m.ss.length → (m.S i).o = (x.S i).o ∧ (m.S i).wt = (x.S i).wt) : car m = car x := by
  unfold car
  rw [hd]
  refine carTo_congr hs (fun i hi => (ho i hi).1) (fun d => ?_) _
  unfold parts MapD.at_
  rw [hd, ← hs, wsTo_congr ho]
theorem car_times {m x : MapD} {n : Int} (hn : 1 ≤ n) (hd : m.old = x.old) (hs : m.ss.length = x.ss.length) (ho : ∀ i, i < m.ss.length → (m.S i).o = (x.S i).o ∧ (x.S i).wt = n * (m.S i).wt) : car m = car x := by
  unfold car
  rw [hd]
  refine carTo_congr hs (fun i hi => (ho i hi).1) (fun d => ?_) _
  unfold parts MapD.at_
  rw [hd, ← hs, wsTo_times ho, div_times hn]
end Go.Proofs.YtlnamjhgbdacbaaGreat
/- The reference of layer 11: whether a number lies in a range. No condition. -/
namespace Go.Proofs.YtlnamjhgbdacbaaGreat
open Go.RowKit Go.Shelf

theorem qin_any (n lo hi : Int) (w : World) : Calls Tryz.prog 19 #[.int .i64 n, .int .i64 lo, .int .i64 hi] w fun e w' => e = .returned (.bool (inB n lo hi)) ∧ w = w' := by
  by_cases h1 : lo ≤ n
  · have hd : inB n lo hi = decide (n ≤ hi) := by simp [inB, h1]
    go_enter Tryz.func19, Tryz.ntmps19
    go_wp2
    go_ret
    exact ⟨ret_bool hd.symm, rfl⟩
  · have hd : inB n lo hi = false := by simp [inB, h1]
    have hd1 : decide (lo ≤ n) = false := by simp; omega
    have HD := hid hd
    clear hd
    go_enter Tryz.func19, Tryz.ntmps19
    go_wp2
    go_ret
    exact ⟨ret_bool HD.out.symm, rfl⟩
end Go.Proofs.YtlnamjhgbdacbaaGreat
/- The reference of layer 11: the error of a map. No condition. -/
namespace Go.Proofs.YtlnamjhgbdacbaaGreat
open Go.RowKit Go.Shelf

theorem take_snoc9 {α : Type} {l : List α} {k : Nat} {x : α} (h : l[k]? = some x) : l.take (k + 1) = l.take k ++ [x] := by
  obtain ⟨hk, rfl⟩ := List.getElem?_eq_some_iff.1 h
  exact List.take_succ_eq_append_getElem hk
theorem chk3 {m : MapD} (h : 4 < m.old.length ∨ 8 < m.ss.length ∨ 20 < m.js.length) : chkM m = 3 := by
  unfold chkM
  rw [if_pos]
  simp only [Bool.or_eq_true, decide_eq_true_eq]
  omega
theorem chk1 {m : MapD} (h : m.old.length ≤ 4 ∧ m.ss.length ≤ 8 ∧ m.js.length ≤ 20) (hn : ¬ OkM m) : chkM m = 1 := by
  rcases chkM_cases m with e | e | e
  · exact absurd (chk_okm e) hn
  · exact e
  · exfalso
    unfold chkM at e
    rw [if_neg (by simp only [Bool.or_eq_true, decide_eq_true_eq]; omega)] at e
    split at e <;> cases e
set_option maxRecDepth 100000 in
set_option maxHeartbeats 4000000 in
theorem qfault_any (m : MapD) (A : Option Addr) (c : Nat) (A2 : Option Addr) (c2 : Nat) (A3 : Option Addr) (c3 : Nat) (w : World) (h : MIn m A c A2 c2 A3 c3 w) :
    Calls Tryz.prog 6 #[.agg #[.slice A m.old.length c, .int .i64 m.nw, .slice A2 m.ss.length c2, .slice A3 m.js.length c3]] w fun e w' => e = .returned (.int .i64 (chkM m)) ∧ Below w.heap.size w w' := by
  have hm1 := h.m1
  have hl1 := h.l1
  have hm2 := h.m2
  have hl2 := h.l2
  have hm3 := h.m3
  have hl3 := h.l3
  unfold maxLen at hm1 hm2 hm3
  have hB := below_box (w := w) #[.slice A m.old.length c, .int .i64 m.nw, .slice A2 m.ss.length c2, .slice A3 m.js.length c3] 26
  have hT := Blk.new w 26 #[.slice A m.old.length c, .int .i64 m.nw, .slice A2 m.ss.length c2, .slice A3 m.js.length c3]
  have HB := hid hB
  have HT := hid hT
  have HA := hid h
  obtain ⟨t0, t1, t2, t3⟩ := hT.c4
  clear hB hT h
  by_cases ho : 4 < m.old.length
  · have HE := hid (chk3 (m := m) (.inl ho))
    have hoB : decide (4 < (m.old.length : Int)) = true := by simp; omega
    clear ho
    go_enter Tryz.func6, Tryz.ntmps6
    go_wp2
    go_ret
    exact ⟨by rw [HE.out]; rfl, HB.out⟩
  have hoB : decide (4 < (m.old.length : Int)) = false := by simp; omega
  by_cases hs : 8 < m.ss.length
  · have HE := hid (chk3 (m := m) (.inr (.inl hs)))
    have hsB : decide (8 < (m.ss.length : Int)) = true := by simp; omega
    clear ho hs
    go_enter Tryz.func6, Tryz.ntmps6
    go_wp2
    go_ret
    exact ⟨by rw [HE.out]; rfl, HB.out⟩
  have hsB : decide (8 < (m.ss.length : Int)) = false := by simp; omega
  by_cases hj : 20 < m.js.length
  · have HE := hid (chk3 (m := m) (.inr (.inr hj)))
    have hjB : decide (20 < (m.js.length : Int)) = true := by simp; omega
    clear ho hs hj
    go_enter Tryz.func6, Tryz.ntmps6
    go_wp2
    go_ret
    exact ⟨by rw [HE.out]; rfl, HB.out⟩
  have hjB : decide (20 < (m.js.length : Int)) = false := by simp; omega
  have HL := hid (show m.old.length ≤ 4 ∧ m.ss.length ≤ 8 ∧ m.js.length ≤ 20 by omega)
  have ho4 : m.old.length ≤ 4 := by omega
  have hs8 : m.ss.length ≤ 8 := by omega
  have hj20 : m.js.length ≤ 20 := by omega
  clear ho hs hj
  go_enter Tryz.func6, Tryz.ntmps6
  by_cases hq0 : 1 ≤ m.old.length
  · have hzB : ((m.old.length : Int) == 0) = false := beq_eq_false_iff_ne.2 (by omega)
    by_cases hq1 : 1 ≤ m.nw ∧ m.nw ≤ 4
    · have hnB : inB m.nw 1 4 = true := inB_iff.2 hq1
      by_cases hq2 : 1 ≤ m.ss.length
      · have hyB : ((m.ss.length : Int) == 0) = false := beq_eq_false_iff_ne.2 (by omega)
        go_wp2_with fail
        refine (qin_any _ _ _ _).mono ?_
        rintro e w2 ⟨rfl, rfl⟩
        have HN := hid (And.intro hq0 (And.intro hq1 hq2))
        have hn1 := hq1.1
        have hn4 := hq1.2
        clear hq0 hq1 hq2
        go_wp2
        clear hoB hsB hjB hzB hnB hyB t0 t1 t2 t3
        go_loopw [3] (fun i W => ∃ k : Nat, k ≤ m.ss.length ∧ i = .int .i64 k ∧ (m.ss.take k).all (sttOk m) = true ∧ Below w.heap.size w W ∧ Blk W w.heap.size 26 #[.slice A m.old.length c, .int .i64 m.nw, .slice A2 m.ss.length c2, .slice A3 m.js.length c3]) (fun i _ => m.ss.length - (intOf i).toNat)
        case atStart => exact ⟨0, Nat.zero_le _, rfl, rfl, HB.out, HT.out⟩
        case round =>
          obtain ⟨k, hk, rfl, hall, hbr, hbt⟩ := hrel
          obtain ⟨t0, t1, t2, t3⟩ := hbt.c4
          have htl := hbt.lt
          have HR := hid (And.intro hall (And.intro hbr hbt))
          clear hall hbr hbt HB HT
          by_cases hlt : k < m.ss.length
          · have hkI : (k : Int) < (m.ss.length : Int) := by omega
            obtain ⟨s, hs⟩ : ∃ s, m.ss[k]? = some s := ⟨_, List.getElem?_eq_getElem hlt⟩
            obtain ⟨aa, eA, g1, f0, f1, f2, f3, f4⟩ := (HA.out.at_ HR.out.2.1).is k s hs
            subst eA
            have HS := hid hs
            have HB := hid (HR.out.2.1.trans ((below_box (w := wr) #[.int .i64 s.o, .int .i64 s.n, .int .i64 s.wt, .int .i64 s.lo, .int .i64 s.hi] 45).mono HR.out.2.1.size))
            have HT := hid (HR.out.2.2.alloc (.cells #[.int .i64 s.o, .int .i64 s.n, .int .i64 s.wt, .int .i64 s.lo, .int .i64 s.hi] 45))
            have HMS := hid (List.mem_of_getElem? hs)
            clear hs g1
            by_cases hq0 : inB s.o 0 ((m.old.length : Int) - 1) = true
            · have HQ0 := hid hq0
              by_cases hq1 : inB s.n 0 (m.nw - 1) = true
              · have HQ1 := hid hq1
                by_cases hq2 : inB s.wt 0 1000 = true
                · have HQ2 := hid hq2
                  by_cases hq3 : inB s.lo 0 s.hi = true
                  · have HQ3 := hid hq3
                    by_cases hq4 : s.hi ≤ 10000
                    · have hhB : decide (10000 < s.hi) = false := by simp; omega
                      go_wp2_with fail
                      refine (qin_any _ _ _ _).mono ?_
                      rintro e w2 ⟨rfl, rfl⟩
                      go_wp2_with fail
                      refine (qin_any _ _ _ _).mono ?_
                      rintro e w2 ⟨rfl, rfl⟩
                      go_wp2_with fail
                      refine (qin_any _ _ _ _).mono ?_
                      rintro e w2 ⟨rfl, rfl⟩
                      go_wp2_with fail
                      refine (qin_any _ _ _ _).mono ?_
                      rintro e w2 ⟨rfl, rfl⟩
                      have HNX := hid (show (m.ss.take (k + 1)).all (sttOk m) = true by
                        rw [take_snoc9 HS.out, List.all_append, HR.out.1]
                        simp only [List.all_cons, List.all_nil, Bool.and_true, Bool.true_and]
                        have a1 := inB_iff.1 HQ0.out
                        have a2 := inB_iff.1 HQ1.out
                        have a3 := inB_iff.1 HQ2.out
                        have a4 := inB_iff.1 HQ3.out
                        exact sttOk_iff.2 (by omega))
                      clear hq4
                      go_wp2
                      go_roundw
                      case rel => exact ⟨k + 1, by omega, by go_num, HNX.out, HB.out, HT.out⟩
                      case measure => first | (simp [intOf]; done) | (simp [intOf]; omega)
                    · have hhB : decide (10000 < s.hi) = true := by simp; omega
                      have hhC : ¬ s.hi ≤ 10000 := hq4
                      clear hq4
                      have HE := hid (show chkM m = 1 from chk1 HL.out (fun ok => hhC (by have := ok.stt s HMS.out; omega)))
                      clear hhC
                      go_wp2_with fail
                      refine (qin_any _ _ _ _).mono ?_
                      rintro e w2 ⟨rfl, rfl⟩
                      go_wp2_with fail
                      refine (qin_any _ _ _ _).mono ?_
                      rintro e w2 ⟨rfl, rfl⟩
                      go_wp2_with fail
                      refine (qin_any _ _ _ _).mono ?_
                      rintro e w2 ⟨rfl, rfl⟩
                      go_wp2_with fail
                      refine (qin_any _ _ _ _).mono ?_
                      rintro e w2 ⟨rfl, rfl⟩
                      go_wp2
                      go_ret
                      exact ⟨by rw [HE.out]; rfl, HB.out⟩
                  · have hq3 : inB s.lo 0 s.hi = false := by simpa using hq3
                    have HE := hid (show chkM m = 1 from chk1 HL.out (fun ok => by rw [show inB s.lo 0 s.hi = true from inB_iff.2 (by have := ok.stt s HMS.out; omega)] at hq3; cases hq3))
                    go_wp2_with fail
                    refine (qin_any _ _ _ _).mono ?_
                    rintro e w2 ⟨rfl, rfl⟩
                    go_wp2_with fail
                    refine (qin_any _ _ _ _).mono ?_
                    rintro e w2 ⟨rfl, rfl⟩
                    go_wp2_with fail
                    refine (qin_any _ _ _ _).mono ?_
                    rintro e w2 ⟨rfl, rfl⟩
                    go_wp2_with fail
                    refine (qin_any _ _ _ _).mono ?_
                    rintro e w2 ⟨rfl, rfl⟩
                    go_wp2
                    go_ret
                    exact ⟨by rw [HE.out]; rfl, HB.out⟩
                · have hq2 : inB s.wt 0 1000 = false := by simpa using hq2
                  have HE := hid (show chkM m = 1 from chk1 HL.out (fun ok => by rw [show inB s.wt 0 1000 = true from inB_iff.2 (by have := ok.stt s HMS.out; omega)] at hq2; cases hq2))
                  go_wp2_with fail
                  refine (qin_any _ _ _ _).mono ?_
                  rintro e w2 ⟨rfl, rfl⟩
                  go_wp2_with fail
                  refine (qin_any _ _ _ _).mono ?_
                  rintro e w2 ⟨rfl, rfl⟩
                  go_wp2_with fail
                  refine (qin_any _ _ _ _).mono ?_
                  rintro e w2 ⟨rfl, rfl⟩
                  go_wp2
                  go_ret
                  exact ⟨by rw [HE.out]; rfl, HB.out⟩
              · have hq1 : inB s.n 0 (m.nw - 1) = false := by simpa using hq1
                have HE := hid (show chkM m = 1 from chk1 HL.out (fun ok => by rw [show inB s.n 0 (m.nw - 1) = true from inB_iff.2 (by have := ok.stt s HMS.out; omega)] at hq1; cases hq1))
                go_wp2_with fail
                refine (qin_any _ _ _ _).mono ?_
                rintro e w2 ⟨rfl, rfl⟩
                go_wp2_with fail
                refine (qin_any _ _ _ _).mono ?_
                rintro e w2 ⟨rfl, rfl⟩
                go_wp2
                go_ret
                exact ⟨by rw [HE.out]; rfl, HB.out⟩
            · have hq0 : inB s.o 0 ((m.old.length : Int) - 1) = false := by simpa using hq0
              have HE := hid (show chkM m = 1 from chk1 HL.out (fun ok => by rw [show inB s.o 0 ((m.old.length : Int) - 1) = true from inB_iff.2 ⟨(ok.stt s HMS.out).1, by have := (ok.stt s HMS.out).2.1; omega⟩] at hq0; cases hq0))
              go_wp2_with fail
              refine (qin_any _ _ _ _).mono ?_
              rintro e w2 ⟨rfl, rfl⟩
              go_wp2
              go_ret
              exact ⟨by rw [HE.out]; rfl, HB.out⟩
          · have hkI : decide ((k : Int) < (m.ss.length : Int)) = false := by simp; omega
            obtain rfl : k = m.ss.length := by omega
            have HSO := hid (show ∀ s ∈ m.ss, sttOk m s = true by have := HR.out.1; rw [List.take_length] at this; exact List.all_eq_true.1 this)
            have HB := hid HR.out.2.1
            have HT := hid HR.out.2.2
            clear HR htl
            go_wp2
            clear t0 t1 t2 t3
            generalize wr = w5 at *
            go_loopw [5] (fun i W => ∃ k : Nat, k ≤ m.old.length ∧ i = .int .i64 k ∧ (∀ d, d < k → cntOk (m.at_ d) = true ∧ wghOk m d = true) ∧ Below w.heap.size w W ∧ Blk W w.heap.size 26 #[.slice A m.old.length c, .int .i64 m.nw, .slice A2 m.ss.length c2, .slice A3 m.js.length c3]) (fun i _ => m.old.length - (intOf i).toNat)
            case atStart => exact ⟨0, Nat.zero_le _, rfl, fun d hd => by omega, HB.out, HT.out⟩
            case round =>
              obtain ⟨d, hd, rfl, hall, hbr, hbt⟩ := hrel
              obtain ⟨t0, t1, t2, t3⟩ := hbt.c4
              have HR := hid (And.intro hall (And.intro hbr hbt))
              clear hall hbr hbt HB HT
              by_cases hlt : d < m.old.length
              · have hkI : (d : Int) < (m.old.length : Int) := by omega
                obtain ⟨x, hx⟩ : ∃ x, m.old[d]? = some x := ⟨_, List.getElem?_eq_getElem hlt⟩
                obtain ⟨ao, eO, go1, go2⟩ := (HA.out.at_ HR.out.2.1).io d x hx
                subst eO
                have HX := hid (And.intro (MapD.at_eq hx) (List.mem_of_getElem? hx))
                have HB := hid HR.out.2.1
                clear hx go1
                generalize wr = w6 at *
                go_wp2
                go_loop [6, 7] (fun v i => ∃ k : Nat, k ≤ m.ss.length ∧ i = .int .i64 k ∧ v = .int .i64 (sumO m d tt Stt.wt k)) (fun _ i => m.ss.length - (intOf i).toNat)
                case atStart => exact ⟨0, Nat.zero_le _, rfl, rfl⟩
                case round =>
                  obtain ⟨k, hk, rfl, rfl⟩ := hrel
                  have hbd := sumO_bounds (m := m) (g := Stt.wt) (M := 1000) (by omega) d tt k (fun i hi => by
                    have h1 := sttOk_iff.1 (HSO.out _ (List.getElem_mem (show i < m.ss.length by omega)))
                    rw [MapD.S_eq (List.getElem?_eq_getElem (show i < m.ss.length by omega))]
                    omega)
                  by_cases hlk : k < m.ss.length
                  · have hkJ : (k : Int) < (m.ss.length : Int) := by omega
                    obtain ⟨s, hs⟩ : ∃ s, m.ss[k]? = some s := ⟨_, List.getElem?_eq_getElem hlk⟩
                    obtain ⟨aa, eA, g1, f0, f1, f2, f3, f4⟩ := (HA.out.at_ HR.out.2.1).is k s hs
                    subst eA
                    have hsb := sttOk_iff.1 (HSO.out s (List.mem_of_getElem? hs))
                    obtain ⟨b1, b2⟩ := hbd
                    have hw1 : 0 ≤ s.wt := hsb.2.2.2.2.1
                    have hw2 : s.wt ≤ 1000 := hsb.2.2.2.2.2.1
                    by_cases hod : s.o = (d : Int)
                    · have hoB : (s.o == (d : Int)) = true := by simp [hod]
                      have HST := hid (sumO_take (p := tt) (g := Stt.wt) hs hod rfl)
                      clear hod hs g1 hsb
                      generalize sumO m d tt Stt.wt k = S at *
                      go_wp2
                      go_round
                      case rel => exact ⟨k + 1, by omega, by go_num, by rw [HST.out]⟩
                      case measure => first | (simp [intOf]; done) | (simp [intOf]; omega)
                    · have hoB : (s.o == (d : Int)) = false := by simp [hod]
                      have HST := hid (sumO_skip (p := tt) (g := Stt.wt) hs hod)
                      clear hod hs g1 hsb
                      generalize sumO m d tt Stt.wt k = S at *
                      go_wp2
                      go_round
                      case rel => exact ⟨k + 1, by omega, by go_num, by rw [HST.out]⟩
                      case measure => first | (simp [intOf]; done) | (simp [intOf]; omega)
                  · have hkJ : decide ((k : Int) < (m.ss.length : Int)) = false := by simp; omega
                    obtain rfl : k = m.ss.length := by omega
                    clear hbd
                    by_cases hq0 : inB x 0 10000 = true
                    · by_cases hq1 : sumO m d tt Stt.wt m.ss.length = 0
                      · have HE := hid (show chkM m = 1 from chk1 HL.out (fun ok => ok.wgh d hlt hq1))
                        have hzB : (sumO m d tt Stt.wt m.ss.length == 0) = true := by simp [hq1]
                        clear hq1
                        generalize sumO m d tt Stt.wt m.ss.length = S at *
                        go_wp2_with fail
                        refine (qin_any _ _ _ _).mono ?_
                        rintro e w2 ⟨rfl, rfl⟩
                        go_wp2
                        go_ret
                        exact ⟨by rw [HE.out]; rfl, HB.out⟩
                      · have hzB : (sumO m d tt Stt.wt m.ss.length == 0) = false := by simp [hq1]
                        have HNX := hid (show ∀ e, e < d + 1 → cntOk (m.at_ e) = true ∧ wghOk m e = true from fun e he => by
                          by_cases h : e = d
                          · subst h
                            exact ⟨by rw [HX.out.1]; exact hq0, by unfold wghOk; simp [hq1]⟩
                          · exact HR.out.1 e (by omega))
                        clear hq1
                        generalize sumO m d tt Stt.wt m.ss.length = S at *
                        go_wp2_with fail
                        refine (qin_any _ _ _ _).mono ?_
                        rintro e w2 ⟨rfl, rfl⟩
                        go_wp2
                        go_roundw
                        case rel => exact ⟨d + 1, by omega, by go_num, HNX.out, HR.out.2⟩
                        case measure => first | (simp [intOf]; done) | (simp [intOf]; omega)
                    · have HE := hid (show chkM m = 1 from chk1 HL.out (fun ok => hq0 (inB_iff.2 (ok.cnt x HX.out.2))))
                      have hq1 : inB x 0 10000 = false := by simpa using hq0
                      clear hq0
                      generalize sumO m d tt Stt.wt m.ss.length = S at *
                      go_wp2_with fail
                      refine (qin_any _ _ _ _).mono ?_
                      rintro e w2 ⟨rfl, rfl⟩
                      go_wp2
                      go_ret
                      exact ⟨by rw [HE.out]; rfl, HB.out⟩
              · have hkI : decide ((d : Int) < (m.old.length : Int)) = false := by simp; omega
                obtain rfl : d = m.old.length := by omega
                have HDO := hid HR.out.1
                have HB := hid HR.out.2.1
                have HT := hid HR.out.2.2
                clear HR
                go_wp2
                clear t0 t1 t2 t3
                generalize wr = w6 at *
                go_loopw [8] (fun i W => ∃ k : Nat, k ≤ m.js.length ∧ i = .int .i64 k ∧ (m.js.take k).all (jnOk m) = true ∧ Below w.heap.size w W ∧ Blk W w.heap.size 26 #[.slice A m.old.length c, .int .i64 m.nw, .slice A2 m.ss.length c2, .slice A3 m.js.length c3]) (fun i _ => m.js.length - (intOf i).toNat)
                case atStart => exact ⟨0, Nat.zero_le _, rfl, rfl, HB.out, HT.out⟩
                case round =>
                  obtain ⟨k, hk, rfl, hall, hbr, hbt⟩ := hrel
                  obtain ⟨t0, t1, t2, t3⟩ := hbt.c4
                  have HR := hid (And.intro hall (And.intro hbr hbt))
                  have htl := hbt.lt
                  clear hall hbr hbt HB HT
                  by_cases hlt : k < m.js.length
                  · have hkI : (k : Int) < (m.js.length : Int) := by omega
                    obtain ⟨j, hj⟩ : ∃ j, m.js[k]? = some j := ⟨_, List.getElem?_eq_getElem hlt⟩
                    obtain ⟨aa, eA, g1, f0, f1⟩ := (HA.out.at_ HR.out.2.1).ij k j hj
                    subst eA
                    have HS := hid hj
                    have HB := hid (HR.out.2.1.trans ((below_box (w := wr) #[.int .i64 j.a, .int .i64 j.b] 84).mono HR.out.2.1.size))
                    have HT := hid (HR.out.2.2.alloc (.cells #[.int .i64 j.a, .int .i64 j.b] 84))
                    have HMS := hid (List.mem_of_getElem? hj)
                    clear hj g1
                    by_cases hq0 : inB j.a 0 ((m.ss.length : Int) - 1) = true
                    · have HQ0 := hid hq0
                      by_cases hq1 : inB j.b 0 ((m.ss.length : Int) - 1) = true
                      · have HQ1 := hid hq1
                        by_cases hq2 : j.a ≠ j.b
                        · have heB : (j.a == j.b) = false := by simp [hq2]
                          have HQ2 := hid hq2
                          clear hq2
                          go_wp2_with fail
                          refine (qin_any _ _ _ _).mono ?_
                          rintro e w2 ⟨rfl, rfl⟩
                          go_wp2_with fail
                          refine (qin_any _ _ _ _).mono ?_
                          rintro e w2 ⟨rfl, rfl⟩
                          have HNX := hid (show (m.js.take (k + 1)).all (jnOk m) = true by
                            rw [take_snoc9 HS.out, List.all_append, HR.out.1]
                            simp only [List.all_cons, List.all_nil, Bool.and_true, Bool.true_and]
                            have a1 := inB_iff.1 HQ0.out
                            have a2 := inB_iff.1 HQ1.out
                            exact jnOk_iff.2 ⟨by omega, by omega, by omega, by omega, HQ2.out⟩)
                          go_wp2
                          go_roundw
                          case rel => exact ⟨k + 1, by omega, by go_num, HNX.out, HB.out, HT.out⟩
                          case measure => first | (simp [intOf]; done) | (simp [intOf]; omega)
                        · have hq2 : j.a = j.b := by simpa using hq2
                          have heB : (j.a == j.b) = true := by simp [hq2]
                          have HQ2 := hid hq2
                          clear hq2
                          have HE := hid (show chkM m = 1 from chk1 HL.out (fun ok => (ok.jn j HMS.out).2.2.2.2 HQ2.out))
                          go_wp2_with fail
                          refine (qin_any _ _ _ _).mono ?_
                          rintro e w2 ⟨rfl, rfl⟩
                          go_wp2_with fail
                          refine (qin_any _ _ _ _).mono ?_
                          rintro e w2 ⟨rfl, rfl⟩
                          go_wp2
                          go_ret
                          exact ⟨by rw [HE.out]; rfl, HB.out⟩
                      · have hq1 : inB j.b 0 ((m.ss.length : Int) - 1) = false := by simpa using hq1
                        have HE := hid (show chkM m = 1 from chk1 HL.out (fun ok => by rw [show inB j.b 0 ((m.ss.length : Int) - 1) = true from inB_iff.2 (by have := ok.jn j HMS.out; omega)] at hq1; cases hq1))
                        go_wp2_with fail
                        refine (qin_any _ _ _ _).mono ?_
                        rintro e w2 ⟨rfl, rfl⟩
                        go_wp2_with fail
                        refine (qin_any _ _ _ _).mono ?_
                        rintro e w2 ⟨rfl, rfl⟩
                        go_wp2
                        go_ret
                        exact ⟨by rw [HE.out]; rfl, HB.out⟩
                    · have hq0 : inB j.a 0 ((m.ss.length : Int) - 1) = false := by simpa using hq0
                      have HE := hid (show chkM m = 1 from chk1 HL.out (fun ok => by rw [show inB j.a 0 ((m.ss.length : Int) - 1) = true from inB_iff.2 (by have := ok.jn j HMS.out; omega)] at hq0; cases hq0))
                      go_wp2_with fail
                      refine (qin_any _ _ _ _).mono ?_
                      rintro e w2 ⟨rfl, rfl⟩
                      go_wp2
                      go_ret
                      exact ⟨by rw [HE.out]; rfl, HB.out⟩
                  · have hkI : decide ((k : Int) < (m.js.length : Int)) = false := by simp; omega
                    obtain rfl : k = m.js.length := by omega
                    have HJO := hid (show ∀ j ∈ m.js, jnOk m j = true by have := HR.out.1; rw [List.take_length] at this; exact List.all_eq_true.1 this)
                    have HE := hid (show chkM m = 0 from okm_chk ⟨HN.out.1, ho4, HN.out.2.2, hs8, hj20, fun x hx => by
                      obtain ⟨d, hd⟩ := List.getElem?_of_mem hx
                      have := (HDO.out d (List.getElem?_eq_some_iff.1 hd).1).1
                      rw [MapD.at_eq hd] at this
                      exact inB_iff.1 this, HN.out.2.1.1, HN.out.2.1.2, fun s hs => sttOk_iff.1 (HSO.out s hs), fun d hd => by
                      have := (HDO.out d hd).2
                      unfold wghOk at this
                      simpa using this, fun j hj => jnOk_iff.1 (HJO.out j hj)⟩)
                    go_wp2
                    go_ret
                    exact ⟨by rw [HE.out]; rfl, HR.out.2.1⟩
      · have hyB : ((m.ss.length : Int) == 0) = true := beq_iff_eq.2 (by omega)
        have HE := hid (show chkM m = 1 from chk1 HL.out (fun ok => hq2 ok.s1))
        clear hq0 hq1 hq2
        go_wp2_with fail
        refine (qin_any _ _ _ _).mono ?_
        rintro e w2 ⟨rfl, rfl⟩
        go_wp2
        go_ret
        exact ⟨by rw [HE.out]; rfl, HB.out⟩
    · have hnB : inB m.nw 1 4 = false := by simpa [inB] using hq1
      have HE := hid (show chkM m = 1 from chk1 HL.out (fun ok => hq1 ⟨ok.n1, ok.n4⟩))
      clear hq0 hq1
      go_wp2_with fail
      refine (qin_any _ _ _ _).mono ?_
      rintro e w2 ⟨rfl, rfl⟩
      go_wp2
      go_ret
      exact ⟨by rw [HE.out]; rfl, HB.out⟩
  · have hzB : ((m.old.length : Int) == 0) = true := beq_iff_eq.2 (by omega)
    have HE := hid (show chkM m = 1 from chk1 HL.out (fun ok => hq0 ok.d1))
    clear hq0
    go_wp2
    go_ret
    exact ⟨by rw [HE.out]; rfl, HB.out⟩
end Go.Proofs.YtlnamjhgbdacbaaGreat
/- Which streets of a district can be reached from its first one, in plain words. No condition. -/
namespace Go.Proofs.YtlnamjhgbdacbaaGreat

def meet (m : MapD) (a b : Int) : Bool := m.js.any fun j => (j.a == a && j.b == b) || (j.a == b && j.b == a)
theorem meet_iff {m : MapD} {a b : Int} : meet m a b = true ↔ ∃ j ∈ m.js, (j.a = a ∧ j.b = b) ∨ (j.a = b ∧ j.b = a) := by simp [meet]
/-- the first k streets that lie in a district of borders -/
def mem (l : Nat → Int) (d : Int) (k : Nat) : List Int := ((List.range k).filter (inD l d)).map fun i : Nat => (i : Int)
theorem mem_iff {l : Nat → Int} {d : Int} {k : Nat} {y : Int} : y ∈ mem l d k ↔ ∃ i : Nat, i < k ∧ l i = d ∧ y = (i : Int) := by
  simp only [mem, List.mem_map, List.mem_filter, List.mem_range, inD, beq_iff_eq]
  constructor
  · rintro ⟨i, ⟨h1, h2⟩, rfl⟩; exact ⟨i, h1, h2, rfl⟩
  · rintro ⟨i, h1, h2, rfl⟩; exact ⟨i, ⟨h1, h2⟩, rfl⟩
theorem mem_succ_in {l : Nat → Int} {d : Int} {k : Nat} (h : l k = d) : mem l d (k + 1) = mem l d k ++ [(k : Int)] := by
  simp [mem, List.range_succ, inD, h]
theorem mem_succ_out {l : Nat → Int} {d : Int} {k : Nat} (h : l k ≠ d) : mem l d (k + 1) = mem l d k := by
  simp [mem, List.range_succ, inD, h]
theorem mem_len {l : Nat → Int} {d : Int} (k : Nat) : (mem l d k).length ≤ k := by
  have := List.length_filter_le (inD l d) (List.range k)
  simp [mem] at this ⊢
  exact this
theorem mem_nodup (l : Nat → Int) (d : Int) (k : Nat) : (mem l d k).Nodup := by
  unfold mem
  exact (List.Pairwise.filter _ List.nodup_range).map _ (fun a b h e => h (by omega))
inductive Rch (m : MapD) (ms : List Int) (f : Int) : Int → Prop
  | base : Rch m ms f f
  | step {x y : Int} : Rch m ms f x → y ∈ ms → meet m x y = true → Rch m ms f y
def clo (m : MapD) (ms : List Int) : Nat → List Int → List Int
  | 0, rs => rs
  | n + 1, rs => clo m ms n (rs ++ ms.filter fun y => !rs.contains y && rs.any fun x => meet m x y)
def conL (m : MapD) (ms : List Int) : Bool :=
  match ms with
  | [] => false
  | f :: t => (f :: t).all fun y => (clo m (f :: t) (t.length + 1) [f]).contains y
/-- whether a new district is connected, in borders -/
def conB (m : MapD) (l : Nat → Int) (d : Int) : Bool := conL m (mem l d m.ss.length)
theorem clo_sound {m : MapD} {ms : List Int} {f : Int} : ∀ (n : Nat) (rs : List Int), (∀ y ∈ rs, Rch m ms f y) → ∀ y ∈ clo m ms n rs, Rch m ms f y
  | 0, _, h => h
  | n + 1, rs, h => by
    refine clo_sound n _ fun y hy => ?_
    rcases List.mem_append.1 hy with hy | hy
    · exact h y hy
    · simp only [List.mem_filter, Bool.and_eq_true, List.any_eq_true] at hy
      obtain ⟨h1, _, x, hx, h3⟩ := hy
      exact .step (h x hx) h1 h3
theorem clo_mono {m : MapD} {ms : List Int} : ∀ (n : Nat) (rs : List Int) (y : Int), y ∈ rs → y ∈ clo m ms n rs
  | 0, _, _, h => h
  | n + 1, _, y, h => clo_mono n _ y (List.mem_append.2 (.inl h))
theorem clo_still {m : MapD} {ms : List Int} : ∀ (n : Nat) (rs : List Int), (ms.filter fun y => !rs.contains y && rs.any fun x => meet m x y) = [] → clo m ms n rs = rs
  | 0, _, _ => rfl
  | n + 1, rs, h => by
    show clo m ms n (rs ++ _) = rs
    rw [h, List.append_nil]
    exact clo_still n rs h
def Closed (m : MapD) (ms rs : List Int) : Prop := ∀ x ∈ rs, ∀ y ∈ ms, meet m x y = true → y ∈ rs
theorem flt_le {p q : Int → Bool} (h : ∀ y, p y = true → q y = true) : ∀ l : List Int, (l.filter p).length ≤ (l.filter q).length
  | [] => by simp
  | a :: l => by
    have ih := flt_le h l
    cases hp : p a <;> cases hq : q a
    · simp [hp, hq]; exact ih
    · simp [hp, hq]; omega
    · have := h a hp
      rw [hq] at this; cases this
    · simp [hp, hq]; exact ih
theorem flt_lt {p q : Int → Bool} (h : ∀ y, p y = true → q y = true) : ∀ {l : List Int} {z : Int}, z ∈ l → q z = true → p z = false → (l.filter p).length < (l.filter q).length
  | a :: l, z, hz, h1, h2 => by
    rcases List.mem_cons.1 hz with rfl | hz
    · have ih := flt_le h l
      simp [h1, h2]; omega
    · have ih := flt_lt h hz h1 h2
      cases hp : p a <;> cases hq : q a
      · simp [hp, hq]; exact ih
      · simp [hp, hq]; omega
      · have := h a hp
        rw [hq] at this; cases this
      · simp [hp, hq]; exact ih
theorem clo_closed {m : MapD} {ms : List Int} : ∀ (n : Nat) (rs : List Int), (ms.filter fun y => !rs.contains y).length ≤ n → Closed m ms (clo m ms n rs)
  | 0, rs, h => by
    intro x hx y hy _
    have h0 := List.eq_nil_of_length_eq_zero (Nat.le_zero.1 h)
    have := List.filter_eq_nil_iff.1 h0 y hy
    show y ∈ rs
    simpa using this
  | n + 1, rs, h => by
    by_cases hn : (ms.filter fun y => !rs.contains y && rs.any fun x => meet m x y) = []
    · rw [clo_still _ _ hn]
      intro x hx y hy hm
      have := List.filter_eq_nil_iff.1 hn y hy
      simp only [Bool.and_eq_true, Bool.not_eq_true', not_and, List.any_eq_true] at this
      by_cases hc : rs.contains y = true
      · simpa using hc
      · exact absurd ⟨x, hx, hm⟩ (this (by simpa using hc))
    · refine clo_closed n _ ?_
      obtain ⟨z, hz⟩ := List.exists_mem_of_ne_nil _ hn
      have hz' := hz
      simp only [List.mem_filter, Bool.and_eq_true] at hz'
      have hlt : (ms.filter fun y => !(rs ++ ms.filter fun y => !rs.contains y && rs.any fun x => meet m x y).contains y).length < (ms.filter fun y => !rs.contains y).length := by
        refine flt_lt (fun y h1 => ?_) hz'.1 hz'.2.1 ?_
        · simp only [List.contains_append, Bool.not_eq_true', Bool.or_eq_false_iff] at h1
          rw [h1.1]; rfl
        · have : (rs ++ ms.filter fun y => !rs.contains y && rs.any fun x => meet m x y).contains z = true := by
            rw [List.contains_iff_mem]
            exact List.mem_append.2 (.inr hz)
          rw [this]; rfl
      omega
theorem rch_in {m : MapD} {ms : List Int} {f : Int} (S : Int → Prop) (h0 : S f) (hc : ∀ x y, S x → y ∈ ms → meet m x y = true → S y) {y : Int} (h : Rch m ms f y) : S y := by
  induction h with
  | base => exact h0
  | step _ h2 h3 ih => exact hc _ _ ih h2 h3
theorem conL_iff {m : MapD} {ms : List Int} : conL m ms = true ↔ ∃ f t, ms = f :: t ∧ ∀ y ∈ ms, Rch m ms f y := by
  cases ms with
  | nil => simp [conL]
  | cons f t =>
    have hcl := clo_closed (m := m) (ms := f :: t) (t.length + 1) [f] (by simpa using List.length_filter_le (fun y => ![f].contains y) (f :: t))
    have hso := clo_sound (m := m) (ms := f :: t) (f := f) (t.length + 1) [f] (fun y hy => by simp at hy; subst hy; exact .base)
    have hmo := clo_mono (m := m) (ms := f :: t) (t.length + 1) [f] f (by simp)
    simp only [conL, List.all_eq_true, List.contains_iff_mem]
    constructor
    · intro h
      exact ⟨f, t, rfl, fun y hy => hso y (h y hy)⟩
    · rintro ⟨f', t', e, h⟩ y hy
      cases e
      exact rch_in (fun y => y ∈ clo m (f :: t) (t.length + 1) [f]) hmo (fun x y hx hy hm => hcl x hx y hy hm) (h y hy)
end Go.Proofs.YtlnamjhgbdacbaaGreat
/- Maps whose keys are joins. Conditions stand at each theorem. -/
namespace Go.Proofs.YtlnamjhgbdacbaaGreat
open Go.RowKit Go.Shelf

def jnV (a b : Int) : Value := .agg #[.int .i64 a, .int .i64 b]
theorem jn_law : WideMaps.KeyLaw Tryz.prog 77 := deep_law (m := 2) (by decide) (by kernel_rfl) (by kernel_rfl) (by kernel_rfl)
theorem mwf64 {x : Int} (h : -1000000000 ≤ x) (h2 : x ≤ 1000000000) : (Lit.int .i64 x).wf = true := by
  have h3 : IntKind.i64.min = -9223372036854775808 := by rfl
  have h4 : IntKind.i64.max = 9223372036854775807 := by rfl
  simp [Lit.wf, h3, h4]; omega
theorem mtwo_fields {P : Program} {t : TypeId} {n0 n1 : String} {t0 t1 o0 o1 : Nat} (h1 : (P.fieldsOf t).toList.map (fun f => (f.name, f.type, f.offset)) = [(n0, t0, o0), (n1, t1, o1)]) (h2 : P.underlying t = some (.struct (P.fieldsOf t))) :
    ∃ f0 f1 : Field, P.underlying t = some (.struct #[f0, f1]) ∧ f0.name = n0 ∧ f0.type = t0 ∧ f0.offset = o0 ∧ f1.name = n1 ∧ f1.type = t1 ∧ f1.offset = o1 := by
  revert h1 h2
  generalize P.fieldsOf t = fs
  intro h1 h2
  obtain ⟨l⟩ := fs
  match l, h1 with
  | [f0, f1], h1 =>
    simp only [List.map_cons, List.map_nil, List.cons.injEq, Prod.mk.injEq, and_true] at h1
    obtain ⟨⟨a, b, c⟩, d, e, f⟩ := h1
    exact ⟨f0, f1, h2, a, b, c, d, e, f⟩
theorem jn_fields : ∃ f0 f1 : Field, Tryz.prog.underlying 77 = some (.struct #[f0, f1]) ∧ f0.name = "A" ∧ f0.type = 3 ∧ f0.offset = 0 ∧ f1.name = "B" ∧ f1.type = 3 ∧ f1.offset = 1 :=
  mtwo_fields (by kernel_rfl) (by kernel_rfl)
theorem jn_cells : Tryz.prog.cellsOf 77 = 2 ∧ Tryz.prog.cellsOf 3 = 1 := ⟨by kernel_rfl, by kernel_rfl⟩
theorem mint_lits (d : Nat) {x : Int} (h : (Lit.int .i64 x).wf = true) : Tryz.prog.keyLits (d + 1) 3 [.int .i64 x] = some [.int .i64 x] := by
  simp [Program.keyLits, Tryz.underlying3, h]
def Ix (a : Int) : Prop := 0 ≤ a ∧ a ≤ 1000
theorem jn_key {a b : Int} (ha : Ix a) (hb : Ix b) : ∃ l, keyOf Tryz.prog 77 (jnV a b) = some l := by
  obtain ⟨f0, f1, h0, h1, h2, h3, h4, h5, h6⟩ := jn_fields
  unfold Ix at ha hb
  have hkt : Tryz.prog.keyType 77 = true := by kernel_rfl
  have hsz : decide (2 ≤ Tryz.prog.types.size) = true := by kernel_rfl
  obtain ⟨m, hm⟩ : ∃ m, Tryz.prog.types.size + 1 = m + 3 := ⟨Tryz.prog.types.size - 2, by have := of_decide_eq_true hsz; omega⟩
  have hfm : (jnV a b).formed Tryz.prog 77 = true := by
    simp only [jnV, Value.formed, h0, jn_cells.1]; rfl
  unfold keyOf
  simp only [h0, hkt, hfm, Bool.and_self, if_true, hm]
  unfold Program.keyLits
  have hnm : (#[f0, f1].all fun x => x.name != "_") = true := by simp [h1, h4]
  simp only [h0, jn_cells.1, jnV, Value.cells, List.length_cons, List.length_nil, Nat.zero_add, Nat.reduceAdd, hnm, and_self, if_true]
  simp only [List.mapM_cons, List.mapM_nil, h2, h3, h5, h6, jn_cells.2, List.drop_zero, List.drop_succ_cons, List.take_succ_cons, List.take_zero]
  rw [mint_lits (m + 1) (mwf64 (by omega) (by omega)), mint_lits (m + 1) (mwf64 (by omega) (by omega))]
  exact ⟨_, rfl⟩
theorem jnV_inj {a b a' b' : Int} (h : jnV a b = jnV a' b') : a = a' ∧ b = b' := by
  simp [jnV] at h
  exact h

theorem set_getElem_same {α : Type} {l : List α} {j : Nat} {a : α} (h : l[j]? = some a) : l.set j a = l := WideElems.set_self _ _ _ h
/-- the keys are the pairs of K; the value of each is true, but for those of U -/
structure JW (K U : Int → Int → Prop) (es : Array MapEntry) (clock : Nat) : Prop where
  keys : ∀ e ∈ es.toList, ∃ a b, e.key = jnV a b ∧ Ix a ∧ Ix b ∧ K a b ∧ (U a b ∨ e.val = .bool true)
  has : ∀ a b, K a b → ∃ e ∈ es.toList, e.key = jnV a b
  lt : ∀ e ∈ es.toList, e.born < clock
  nd : (es.toList.map (·.born)).Nodup
  kd : (es.toList.map (·.key)).Nodup
def MapAt (K U : Int → Int → Prop) (b : Nat) (W : World) : Prop := ∃ es clock, W.heap[b]? = some (.map es clock) ∧ JW K U es clock
/-- an entry of a map that stays where it is -/
def EntAt (b : Nat) (x y : Int) (st : Nat) (W : World) : Prop := ∃ es clock, W.heap[b]? = some (.map es clock) ∧ ∃ e ∈ es.toList, e.key = jnV x y ∧ e.born = st
/-- what may change: one map, and its entries stay -/
structure StM (b : Nat) (A B : World) : Prop where
  chg : MChg (fun q => q = b) A B
  ent : ∀ x y st, EntAt b x y st A → EntAt b x y st B
theorem StM.refl {b : Nat} {A : World} : StM b A A := ⟨MChg.refl, fun _ _ _ h => h⟩
theorem StM.trans {b : Nat} {A B D : World} (h : StM b A B) (k : StM b B D) : StM b A D := ⟨h.chg.trans k.chg, fun x y st e => k.ent x y st (h.ent x y st e)⟩
theorem MapAt.congr {K U K' U' : Int → Int → Prop} {b : Nat} {W : World} (h : MapAt K U b W) (hK : ∀ x y, K' x y ↔ K x y) (hU : ∀ x y, U x y → U' x y) : MapAt K' U' b W := by
  obtain ⟨es, c, h1, h2⟩ := h
  refine ⟨es, c, h1, ⟨fun e he => ?_, fun x y hxy => h2.has x y ((hK x y).1 hxy), h2.lt, h2.nd, h2.kd⟩⟩
  obtain ⟨x, y, a1, a2, a3, a4, a5⟩ := h2.keys e he
  exact ⟨x, y, a1, a2, a3, (hK x y).2 a4, a5.imp (hU x y) id⟩
theorem JW.ok {K U : Int → Int → Prop} {es : Array MapEntry} {clock : Nat} (h : JW K U es clock) : ∀ e ∈ es.toList, ∃ l, keyOf Tryz.prog 77 e.key = some l := fun e he => by
  obtain ⟨a, b, e1, h1, h2, _, _⟩ := h.keys e he
  rw [e1]; exact jn_key h1 h2
theorem MChg.putObj {Z : Nat → Prop} {A B : World} (h : MChg Z A B) {b : Nat} (hz : Z b) (o : Obj) : MChg Z A (B.putObj b o) :=
  ⟨h.os, h.tape, h.output, by simp [World.putObj]; exact h.size, fun k hk hn => by
    have hne : b ≠ k := fun e => hn (e ▸ hz)
    simp only [World.putObj]
    rw [Array.getElem?_setIfInBounds_ne hne]
    exact h.block k hk hn⟩
theorem putObj_at {W : World} {b : Nat} {o o' : Obj} (hb : W.heap[b]? = some o) : (W.putObj b o').heap[b]? = some o' := by
  have hlt := (Array.getElem?_eq_some_iff.1 hb).1
  simp [World.putObj, hlt]
section
variable {W : World} {b t e : Nat} {K U : Int → Int → Prop} {x y : Int}
theorem jn_look (ht : Tryz.prog.underlying t = some (.map 77 e)) (hz : (zeroValue e).run Tryz.prog W = .ok (.bool false) W) (h : MapAt K (fun _ _ => False) b W) (hx : Ix x) (hy : Ix y) {r : Bool} (hr : r = true ↔ K x y) :
    (Instr.lookup t (.map (some b)) (jnV x y) false).run Tryz.prog W = .ok (.bool r) W := by
  obtain ⟨es, clock, hb, hj⟩ := h
  obtain ⟨l, hk⟩ := jn_key hx hy
  rcases jn_law.find W hk es.toList hj.ok with ⟨h1, h2⟩ | ⟨j, e0, h1, h2, h3⟩
  · have : r = false := by
      cases r with
      | false => rfl
      | true =>
        obtain ⟨e1, he1, hk1⟩ := hj.has x y (hr.1 rfl)
        exact absurd hk1 (h2 e1 he1)
    rw [this]
    simp [Instr.lookup, run_underlying ht, MapKept.run_getObj_map hb, jn_law.check W _ hk, h1, hz, Result.andThen]
  · have hm := List.mem_of_getElem? h2
    obtain ⟨a', b', e1, _, _, hK, hv⟩ := hj.keys e0 hm
    rw [h3] at e1
    obtain ⟨rfl, rfl⟩ := jnV_inj e1
    have : r = true := hr.2 hK
    rw [this]
    have hv' : e0.val = .bool true := hv.resolve_left id
    simp [Instr.lookup, run_underlying ht, MapKept.run_getObj_map hb, jn_law.check W _ hk, h1, hv', Result.andThen]
theorem jn_entry (ht : Tryz.prog.underlying t = some (.map 77 e)) (hz : (zeroValue e).run Tryz.prog W = .ok (.bool false) W) (h : MapAt K (fun _ _ => False) b W) (hx : Ix x) (hy : Ix y) :
    ∃ (v : Value) (st : Nat) (W' : World), (Instr.mapEntry t (.map (some b)) (jnV x y)).run Tryz.prog W = .ok (.tuple #[v, goInt st]) W' ∧ StM b W W' ∧ EntAt b x y st W' ∧ MapAt (fun p q => K p q ∨ (p = x ∧ q = y)) (fun p q => p = x ∧ q = y) b W' := by
  obtain ⟨es, clock, hb, hj⟩ := h
  obtain ⟨l, hk⟩ := jn_key hx hy
  rcases jn_law.find W hk es.toList hj.ok with ⟨h1, h2⟩ | ⟨j, e0, h1, h2, h3⟩
  · refine ⟨.bool false, clock, W.putObj b (.map (es.push ⟨jnV x y, .bool false, clock⟩) (clock + 1)), ?_, ⟨MChg.putObj (Z := fun q => q = b) MChg.refl rfl _, ?_⟩, ⟨_, _, putObj_at hb, ⟨jnV x y, .bool false, clock⟩, by simp, rfl, rfl⟩, _, _, putObj_at hb, ?_⟩
    · simp [Instr.mapEntry, run_underlying ht, MapKept.run_getObj_map hb, jn_law.check W false hk, h1, hz, MapKept.run_setObj_map _ hb, Result.andThen, World.putObj]
    · rintro p q st ⟨es', c', hb', e', he', hk', hs'⟩
      rw [hb] at hb'
      cases hb'
      exact ⟨_, _, putObj_at hb, e', by simp [he'], hk', hs'⟩
    · refine ⟨fun e' he' => ?_, fun p q hpq => ?_, fun e' he' => ?_, ?_, ?_⟩
      · simp only [Array.toList_push, List.mem_append, List.mem_singleton] at he'
        rcases he' with he' | rfl
        · obtain ⟨p, q, a1, a2, a3, a4, a5⟩ := hj.keys e' he'
          exact ⟨p, q, a1, a2, a3, .inl a4, .inr (a5.resolve_left id)⟩
        · exact ⟨x, y, rfl, hx, hy, .inr ⟨rfl, rfl⟩, .inl ⟨rfl, rfl⟩⟩
      · rcases hpq with hpq | ⟨rfl, rfl⟩
        · obtain ⟨e1, he1, hk1⟩ := hj.has p q hpq
          exact ⟨e1, by simp [he1], hk1⟩
        · exact ⟨⟨jnV p q, .bool false, clock⟩, by simp, rfl⟩
      · simp only [Array.toList_push, List.mem_append, List.mem_singleton] at he'
        rcases he' with he' | rfl
        · have := hj.lt e' he'; omega
        · exact Nat.lt_succ_self _
      · simp only [Array.toList_push, List.map_append, List.map_cons, List.map_nil]
        refine List.nodup_append.2 ⟨hj.nd, by simp, fun p hp q hq e1 => ?_⟩
        simp only [List.mem_singleton] at hq
        obtain ⟨e1', he1, rfl⟩ := List.mem_map.1 hp
        have := hj.lt e1' he1
        omega
      · simp only [Array.toList_push, List.map_append, List.map_cons, List.map_nil]
        refine List.nodup_append.2 ⟨hj.kd, by simp, fun p hp q hq e1 => ?_⟩
        simp only [List.mem_singleton] at hq
        obtain ⟨e1', he1, rfl⟩ := List.mem_map.1 hp
        exact h2 e1' he1 (e1.trans hq)
  · have hj' : es[j]? = some e0 := by simpa using h2
    have hsame : es.modify j (fun e => { e with key := jnV x y }) = es := by
      apply Array.ext'
      rw [Array.toList_modify, ChangeMaps.modify_eq_set _ _ _ _ h2]
      have : ({ e0 with key := jnV x y } : MapEntry) = e0 := by rw [← h3]
      rw [this]
      exact WideElems.set_self _ _ _ h2
    have hm := List.mem_of_getElem? h2
    refine ⟨e0.val, e0.born, W.putObj b (.map es clock), ?_, ⟨MChg.putObj (Z := fun q => q = b) MChg.refl rfl _, ?_⟩, ⟨_, _, putObj_at hb, e0, hm, h3, rfl⟩, _, _, putObj_at hb, ?_⟩
    · simp [Instr.mapEntry, run_underlying ht, MapKept.run_getObj_map hb, jn_law.check W false hk, h1, hj', h3, jn_law.stays W hk, hsame, MapKept.run_setObj_map _ hb, Result.andThen, World.putObj]
    · rintro p q st ⟨es', c', hb', e', he', hk', hs'⟩
      rw [hb] at hb'
      cases hb'
      exact ⟨_, _, putObj_at hb, e', he', hk', hs'⟩
    · obtain ⟨a', b', e1, _, _, hK, hv⟩ := hj.keys e0 hm
      rw [h3] at e1
      obtain ⟨rfl, rfl⟩ := jnV_inj e1
      refine ⟨fun e' he' => ?_, fun p q hpq => ?_, hj.lt, hj.nd, hj.kd⟩
      · obtain ⟨p, q, a1, a2, a3, a4, a5⟩ := hj.keys e' he'
        exact ⟨p, q, a1, a2, a3, .inl a4, .inr (a5.resolve_left id)⟩
      · rcases hpq with hpq | ⟨rfl, rfl⟩
        · exact hj.has p q hpq
        · exact hj.has _ _ hK
theorem jn_store (h : MapAt K (fun p q => p = x ∧ q = y) b W) {st : Nat} (he : EntAt b x y st W) :
    ∃ W', (Instr.entryStore t (.map (some b)) (goInt st) (.bool true)).run Tryz.prog W = .ok () W' ∧ StM b W W' ∧ MapAt K (fun _ _ => False) b W' := by
  obtain ⟨es, clock, hb, hj⟩ := h
  obtain ⟨es', c', hb', e0, hm, hk0, hs0⟩ := he
  rw [hb] at hb'
  cases hb'
  obtain ⟨j, h2⟩ := List.getElem?_of_mem hm
  have hj' : es[j]? = some e0 := by simpa using h2
  have hidx : es.findIdx? (fun e => ((e.born : Nat) : Int) == ((st : Nat) : Int)) = some j := by
    rw [WideElems.findIdx_arr, ← hs0]
    exact WideElems.findIdx_born hj.nd h2
  have hmod : (es.modify j fun e => { e with val := .bool true }).toList = es.toList.set j { e0 with val := .bool true } := by
    rw [Array.toList_modify, ChangeMaps.modify_eq_set _ _ _ _ h2]
  have hjl : j < es.toList.length := (List.getElem?_eq_some_iff.1 h2).1
  have hmem : ∀ z ∈ (es.modify j fun e => { e with val := .bool true }).toList, z = { e0 with val := .bool true } ∨ (z ∈ es.toList ∧ z.key ≠ e0.key) := by
    intro z hz
    rw [hmod] at hz
    obtain ⟨i, hi⟩ := List.getElem?_of_mem hz
    by_cases e : j = i
    · subst e
      rw [List.getElem?_set_self hjl] at hi
      cases hi
      exact .inl rfl
    · rw [List.getElem?_set_ne e] at hi
      refine .inr ⟨List.mem_of_getElem? hi, fun ek => e ?_⟩
      have hil : i < es.toList.length := (List.getElem?_eq_some_iff.1 hi).1
      have h1 : (es.toList.map (·.key))[i]? = some z.key := by rw [List.getElem?_map, hi]; rfl
      have h3 : (es.toList.map (·.key))[j]? = some z.key := by rw [List.getElem?_map, h2, ek]; rfl
      exact (List.getElem?_inj (by simpa using hjl) hj.kd).1 (h3.trans h1.symm)
  have hkeys : (es.modify j fun e => { e with val := .bool true }).toList.map (·.key) = es.toList.map (·.key) := by
    rw [hmod, List.map_set, set_getElem_same (by rw [List.getElem?_map, h2]; rfl)]
  have hborn : (es.modify j fun e => { e with val := .bool true }).toList.map (·.born) = es.toList.map (·.born) := by
    rw [hmod, List.map_set, set_getElem_same (by rw [List.getElem?_map, h2]; rfl)]
  have hback : ∀ z ∈ es.toList, ∃ z' ∈ (es.modify j fun e => { e with val := .bool true }).toList, z'.key = z.key ∧ z'.born = z.born := by
    intro z hz
    obtain ⟨i, hi⟩ := List.getElem?_of_mem hz
    by_cases e : j = i
    · subst e
      rw [h2] at hi
      cases hi
      exact ⟨{ e0 with val := .bool true }, by rw [hmod]; exact List.mem_of_getElem? (List.getElem?_set_self hjl), rfl, rfl⟩
    · exact ⟨z, by rw [hmod]; exact List.mem_of_getElem? (by rw [List.getElem?_set_ne e]; exact hi), rfl, rfl⟩
  refine ⟨W.putObj b (.map (es.modify j fun e => { e with val := .bool true }) clock), ?_, ⟨MChg.putObj (Z := fun q => q = b) MChg.refl rfl _, ?_⟩, _, _, putObj_at hb, ?_⟩
  · simp [Instr.entryStore, MapKept.run_getObj_map hb, asInt, asIntOf, goInt, hidx, MapKept.run_setObj_map _ hb, Result.andThen, World.putObj]
  · rintro p q st' ⟨es', c', hb', e', he', hk', hs'⟩
    rw [hb] at hb'
    cases hb'
    obtain ⟨z', hz1, hz2, hz3⟩ := hback e' he'
    exact ⟨_, _, putObj_at hb, z', hz1, hz2.trans hk', hz3.trans hs'⟩
  · obtain ⟨a0, b0, k0, i1, i2, K0, _⟩ := hj.keys e0 hm
    refine ⟨fun z hz => ?_, fun p q hpq => ?_, fun z hz => ?_, by rw [hborn]; exact hj.nd, by rw [hkeys]; exact hj.kd⟩
    · rcases hmem z hz with rfl | ⟨h1, h3⟩
      · exact ⟨a0, b0, k0, i1, i2, K0, .inr rfl⟩
      · obtain ⟨p, q, a1, a2, a3, a4, a5⟩ := hj.keys z h1
        refine ⟨p, q, a1, a2, a3, a4, .inr (a5.resolve_left ?_)⟩
        rintro ⟨rfl, rfl⟩
        exact h3 (a1.trans hk0.symm)
    · obtain ⟨e1, he1, hk1⟩ := hj.has p q hpq
      obtain ⟨z', hz1, hz2, _⟩ := hback e1 he1
      exact ⟨z', hz1, hz2.trans hk1⟩
    · rcases hmem z hz with rfl | ⟨h1, _⟩
      · exact hj.lt e0 hm
      · exact hj.lt z h1
end
end Go.Proofs.YtlnamjhgbdacbaaGreat
/- A map at work: its joins, in both directions, as a map. Conditions stand at each theorem. -/
namespace Go.Proofs.YtlnamjhgbdacbaaGreat
open Go.RowKit Go.Shelf

theorem mbool_zero (W : World) : (zeroValue 4).run Tryz.prog W = .ok (.bool false) W := by kernel_rfl
theorem MapAt.lt {K U : Int → Int → Prop} {b : Nat} {W : World} (h : MapAt K U b W) : b < W.heap.size := by
  obtain ⟨es, ck, h, _⟩ := h
  exact (Array.getElem?_eq_some_iff.1 h).1
theorem MapAt.ne {K U : Int → Int → Prop} {b g t : Nat} {us : Array Value} {W : World} (h : MapAt K U b W) (hg : Blk W g t us) : g ≠ b := fun e => by
  obtain ⟨es, ck, hm, _⟩ := h
  subst e
  unfold Blk at hg
  rw [hg] at hm
  cases hm
theorem MapAt.chg {K U : Int → Int → Prop} {b : Nat} {Z : Nat → Prop} {W W' : World} (h : MapAt K U b W) (hc : MChg Z W W') (hz : ¬ Z b) : MapAt K U b W' := by
  obtain ⟨es, ck, hm, hj⟩ := h
  exact ⟨es, ck, (hc.block b (Array.getElem?_eq_some_iff.1 hm).1 hz).trans hm, hj⟩
theorem MapAt.below {K U : Int → Int → Prop} {b : Nat} {W W' : World} (h : MapAt K U b W) (hb : Below W.heap.size W W') : MapAt K U b W' := h.chg (Z := fun _ => False) (MChg.of_below hb) id
theorem MapAt.new (W : World) : MapAt (fun _ _ => False) (fun _ _ => False) W.heap.size (W.alloc (.map #[] 0)) :=
  ⟨#[], 0, World.alloc_heap_new W _, ⟨fun e h => by simp at h, fun a b h => h.elim, fun e h => by simp at h, by simp, by simp⟩⟩
/-- the joins of the first k, in both directions -/
def kTo (m : MapD) (k : Nat) (x y : Int) : Prop := ∃ (i : Nat) (j : Jn), i < k ∧ m.js[i]? = some j ∧ ((j.a = x ∧ j.b = y) ∨ (j.b = x ∧ j.a = y))
theorem kTo_zero {m : MapD} {x y : Int} : kTo m 0 x y ↔ False := ⟨fun ⟨i, _, h, _⟩ => by omega, False.elim⟩
theorem kTo_succ {m : MapD} {k : Nat} {j : Jn} (h : m.js[k]? = some j) (x y : Int) : kTo m (k + 1) x y ↔ (kTo m k x y ∨ (x = j.a ∧ y = j.b)) ∨ (x = j.b ∧ y = j.a) := by
  constructor
  · rintro ⟨i, j', h1, h2, h3⟩
    by_cases e : i = k
    · subst e
      rw [h] at h2
      cases h2
      rcases h3 with ⟨e1, e2⟩ | ⟨e1, e2⟩
      · exact .inl (.inr ⟨e1.symm, e2.symm⟩)
      · exact .inr ⟨e1.symm, e2.symm⟩
    · exact .inl (.inl ⟨i, j', by omega, h2, h3⟩)
  · rintro ((⟨i, j', h1, h2, h3⟩ | ⟨e1, e2⟩) | ⟨e1, e2⟩)
    · exact ⟨i, j', by omega, h2, h3⟩
    · exact ⟨k, j, by omega, h, .inl ⟨e1.symm, e2.symm⟩⟩
    · exact ⟨k, j, by omega, h, .inr ⟨e1.symm, e2.symm⟩⟩
theorem kTo_all {m : MapD} {x y : Int} : kTo m m.js.length x y ↔ meet m x y = true := by
  rw [meet_iff]
  constructor
  · rintro ⟨i, j, _, h2, h3⟩
    exact ⟨j, List.mem_of_getElem? h2, h3.imp id fun ⟨a, b⟩ => ⟨b, a⟩⟩
  · rintro ⟨j, hj, h3⟩
    obtain ⟨i, hi⟩ := List.getElem?_of_mem hj
    exact ⟨i, j, (List.getElem?_eq_some_iff.1 hi).1, hi, h3.imp id fun ⟨a, b⟩ => ⟨b, a⟩⟩
/-- the map of joins, before and behind the first entry (operation 14) and its value (operation 16) -/
def PhJ (K : Int → Int → Prop) (x y : Int) (b : Nat) (li : Array Bool) (W : World) : Prop :=
  if li.getD 16 false = true then MapAt (fun p q => K p q ∨ (p = x ∧ q = y)) (fun _ _ => False) b W else
  if li.getD 14 false = true then MapAt (fun p q => K p q ∨ (p = x ∧ q = y)) (fun p q => p = x ∧ q = y) b W else MapAt K (fun _ _ => False) b W
theorem PhJ.other {K : Int → Int → Prop} {x y : Int} {b i : Nat} {li : Array Bool} {W : World} (h : PhJ K x y b li W) (h1 : i ≠ 14) (h2 : i ≠ 16) : PhJ K x y b (li.setIfInBounds i true) W := by
  unfold PhJ at *
  rw [getD_set_oth h1, getD_set_oth h2]
  exact h
/-- a map at work lies in memory: its struct at g, its joins at b -/
structure WAt (m : MapD) (A : Option Addr) (c : Nat) (A2 : Option Addr) (c2 : Nat) (A3 : Option Addr) (c3 : Nat) (g b : Nat) (W : World) : Prop where
  blk : Blk W g 159 #[.slice A m.old.length c, .int .i64 m.nw, .slice A2 m.ss.length c2, .slice A3 m.js.length c3, .map (some b)]
  mp : MapAt (fun x y => meet m x y = true) (fun _ _ => False) b W
theorem WAt.keep {m : MapD} {A : Option Addr} {c : Nat} {A2 : Option Addr} {c2 : Nat} {A3 : Option Addr} {c3 : Nat} {g b : Nat} {W W' : World} (h : WAt m A c A2 c2 A3 c3 g b W) (hb : Below W.heap.size W W') : WAt m A c A2 c2 A3 c3 g b W' := ⟨h.blk.keep hb, h.mp.below hb⟩

set_option maxRecDepth 100000 in
set_option maxHeartbeats 2000000 in
theorem bwork_any (m : MapD) (A : Option Addr) (c : Nat) (A2 : Option Addr) (c2 : Nat) (A3 : Option Addr) (c3 : Nat) (w : World) (h : MIn m A c A2 c2 A3 c3 w) (ok : OkM m) :
    Calls Tryz.prog 38 #[.agg #[.slice A m.old.length c, .int .i64 m.nw, .slice A2 m.ss.length c2, .slice A3 m.js.length c3]] w fun e w' => ∃ g b, e = .returned (.pointer (some ⟨g, 0, none⟩)) ∧ w.heap.size ≤ g ∧ w.heap.size ≤ b ∧ WAt m A c A2 c2 A3 c3 g b w' ∧ Below w.heap.size w w' := by
  have hm3 := h.m3
  have hl3 := h.l3
  unfold maxLen at hm3
  have hs8 := ok.s8
  have hj20 := ok.j20
  have hB := below_box (w := w) #[.slice A m.old.length c, .int .i64 m.nw, .slice A2 m.ss.length c2, .slice A3 m.js.length c3] 36
  have hT := Blk.new w 36 #[.slice A m.old.length c, .int .i64 m.nw, .slice A2 m.ss.length c2, .slice A3 m.js.length c3]
  obtain ⟨t0, t1, t2, t3⟩ := hT.c4
  have k1 := (hT.alloc (.map #[] 0)).alloc (.cells #[.slice A m.old.length c, .int .i64 m.nw, .slice A2 m.ss.length c2, .slice A3 m.js.length c3, .map (some (w.heap.size + 1))] 159)
  have k2 := Blk.new ((w.alloc (.cells #[.slice A m.old.length c, .int .i64 m.nw, .slice A2 m.ss.length c2, .slice A3 m.js.length c3] 36)).alloc (.map #[] 0)) 159 #[.slice A m.old.length c, .int .i64 m.nw, .slice A2 m.ss.length c2, .slice A3 m.js.length c3, .map (some (w.heap.size + 1))]
  have k3 := (MapAt.new (w.alloc (.cells #[.slice A m.old.length c, .int .i64 m.nw, .slice A2 m.ss.length c2, .slice A3 m.js.length c3] 36))).below (below_box #[.slice A m.old.length c, .int .i64 m.nw, .slice A2 m.ss.length c2, .slice A3 m.js.length c3, .map (some (w.heap.size + 1))] 159)
  have hb := (hB.alloc hB.size (.map #[] 0)).alloc (by simp; omega) (.cells #[.slice A m.old.length c, .int .i64 m.nw, .slice A2 m.ss.length c2, .slice A3 m.js.length c3, .map (some (w.heap.size + 1))] 159)
  simp only [World.size_alloc] at k2 k3
  have HS := hid (And.intro k1 (And.intro k2 (And.intro k3 hb)))
  have HH := hid h
  have OK := hid ok
  have hmm := @run_makeMap Tryz.prog
  clear h ok hB hT k1 k2 k3 hb
  go_enter Tryz.func38, Tryz.ntmps38
  go_wp2
  clear t0 t1 t2 t3 hmm
  generalize hW1 : (((w.alloc (.cells #[.slice A m.old.length c, .int .i64 m.nw, .slice A2 m.ss.length c2, .slice A3 m.js.length c3] 36)).alloc (.map #[] 0)).alloc (.cells #[.slice A m.old.length c, .int .i64 m.nw, .slice A2 m.ss.length c2, .slice A3 m.js.length c3, .map (some (w.heap.size + 1))] 159)) = w1 at *
  clear hW1
  go_loopw [13] (fun i W => ∃ k : Nat, k ≤ m.js.length ∧ i = .int .i64 k ∧ MapAt (kTo m k) (fun _ _ => False) (w.heap.size + 1) W ∧ MChg (fun q => q = w.heap.size + 1) w1 W) (fun i _ => m.js.length - (intOf i).toNat)
  case atStart => exact ⟨0, Nat.zero_le _, rfl, HS.out.2.2.1.congr (fun x y => kTo_zero) (fun _ _ h => h), MChg.refl⟩
  case round =>
    obtain ⟨k, hk, rfl, hmp, hcg⟩ := hrel
    have hbr : Below w.heap.size w wr := HS.out.2.2.2.trans (hcg.below (n := w.heap.size) (fun q e => by omega) HS.out.2.2.2.size)
    have hg1 := hcg.blk HS.out.2.1 (fun e => by omega)
    have HR := hid (And.intro hmp (And.intro hcg (And.intro hbr hg1)))
    clear hmp hcg hbr hg1
    by_cases hlt : k < m.js.length
    · have hkI : (k : Int) < (m.js.length : Int) := by omega
      obtain ⟨j, hj⟩ : ∃ j, m.js[k]? = some j := ⟨_, List.getElem?_eq_getElem hlt⟩
      obtain ⟨a, rfl, g1, g2, g3⟩ := (HH.out.at_ HR.out.2.2.1).ij k j hj
      have hjb := OK.out.jn j (List.mem_of_getElem? hj)
      have HIA := hid (show Ix j.a ∧ Ix j.b by unfold Ix; omega)
      have HJ := hid hj
      have hz := Blk.new wr 77 #[.int .i64 j.a, .int .i64 j.b]
      have hzb := below_box (w := wr) #[.int .i64 j.a, .int .i64 j.b] 77
      have HZ := hid (And.intro hz (And.intro (HR.out.1.below hzb) (And.intro (HR.out.2.2.2.keep hzb) (HR.out.2.1.trans (MChg.of_below hzb)))))
      have HN := hid (And.intro ((HR.out.1.below hzb).ne hz) (show w.heap.size + 1 + 1 ≠ w.heap.size + 1 by omega))
      clear hj hjb hz hzb g1
      go_wp2
      clear g2 g3
      generalize (wr.alloc (.cells #[.int .i64 j.a, .int .i64 j.b] 77)) = w2 at *
      generalize wr.heap.size = z at *
      obtain ⟨ja, hja⟩ : ∃ x, j.a = x := ⟨_, rfl⟩
      obtain ⟨jb, hjb⟩ : ∃ x, j.b = x := ⟨_, rfl⟩
      rw [hja, hjb] at HIA HZ
      have HJE := hid (And.intro hja hjb)
      clear hja hjb
      refine (wpIn_wide (n := 0)).1 ?_
      refine wpIn_region_each 17 (fun i v W' => match i with | 0 => v = .pointer (some ⟨w.heap.size + 1 + 1, 0, none⟩) | 1 => v = .pointer (some ⟨w.heap.size + 1 + 1, 0, none⟩) | 2 => v = .pointer (some ⟨w.heap.size + 1 + 1, 4, none⟩) | 3 => v = .map (some (w.heap.size + 1)) | 4 => v = .agg #[.int .i64 ja, .int .i64 jb] | 5 => v = .pointer (some ⟨w.heap.size + 1 + 1, 0, none⟩) | 6 => v = .pointer (some ⟨w.heap.size + 1 + 1, 0, none⟩) | 7 => v = .pointer (some ⟨w.heap.size + 1 + 1, 4, none⟩) | 8 => v = .map (some (w.heap.size + 1)) | 9 => v = .pointer (some ⟨z, 1, none⟩) | 10 => v = .int .i64 jb | 11 => v = .pointer (some ⟨z, 0, none⟩) | 12 => v = .int .i64 ja | 13 => v = .agg #[.int .i64 jb, .int .i64 ja] | 14 => ∃ q : Nat × Value, v = .tuple #[q.2, .int .i64 (q.1 : Int)] ∧ EntAt (w.heap.size + 1) ja jb q.1 W' | 15 => ∃ st : Nat, v = .int .i64 (st : Int) ∧ EntAt (w.heap.size + 1) ja jb st W' | 16 => ∃ v4, v = v4 ∧ True | _ => True) (StM (w.heap.size + 1)) (PhJ (kTo m k) ja jb (w.heap.size + 1)) (by kernel_rfl) (by kernel_rfl) ?_ (fun h k => h.trans k) ⟨⟨rfl, rfl, rfl, Nat.le_refl _, fun _ _ _ => rfl⟩, fun _ _ _ h => h⟩ (by unfold PhJ; rw [getD_replicate_false, getD_replicate_false]; simp only [Bool.false_eq_true, if_false]; exact HZ.out.2.1) (by kernel_rfl) ?_ ?_
      · intro i v W1 W2 hb h
        match i, h with
        | 0, h => exact h
        | 1, h => exact h
        | 2, h => exact h
        | 3, h => exact h
        | 4, h => exact h
        | 5, h => exact h
        | 6, h => exact h
        | 7, h => exact h
        | 8, h => exact h
        | 9, h => exact h
        | 10, h => exact h
        | 11, h => exact h
        | 12, h => exact h
        | 13, h => exact h
        | 14, h =>
          obtain ⟨q, rfl, h1⟩ := h
          exact ⟨_, rfl, hb.ent _ _ _ h1⟩
        | 15, h =>
          obtain ⟨st, rfl, h1⟩ := h
          exact ⟨_, rfl, hb.ent _ _ _ h1⟩
        | 16, h =>
          obtain ⟨v4, rfl, h1⟩ := h
          exact ⟨_, rfl, trivial⟩
        | i + 17, h => trivial
      · refine ⟨?_, ?_, ?_, ?_, ?_, ?_, ?_, ?_, ?_, ?_, ?_, ?_, ?_, ?_, ?_, ?_, ?_, trivial⟩
        · -- 0
          intro li a1 W2 hA K hK
          have e3 := hA.par 3 (by kernel_rfl)
          refine opStep none 0 rfl rfl (fun c hc => by cases hc) ?_
          go_simp
          exact hK _ _ rfl StM.refl (hA.ph.other (by decide) (by decide))
        · -- 1
          intro li a1 W2 hA K hK
          have e17 : a1.tmps.getD 17 undef = .pointer (some ⟨w.heap.size + 1 + 1, 0, none⟩) := hA.val 0 17 (by kernel_rfl) (by kernel_rfl)
          refine opStep none 0 rfl rfl (fun c hc => by cases hc) ?_
          go_simp
          exact hK _ _ rfl StM.refl (hA.ph.other (by decide) (by decide))
        · -- 2
          intro li a1 W2 hA K hK
          have e18 : a1.tmps.getD 18 undef = .pointer (some ⟨w.heap.size + 1 + 1, 0, none⟩) := hA.val 1 18 (by kernel_rfl) (by kernel_rfl)
          refine opStep none 0 rfl rfl (fun c hc => by cases hc) ?_
          go_simp
          exact hK _ _ rfl StM.refl (hA.ph.other (by decide) (by decide))
        · -- 3
          intro li a1 W2 hA K hK
          have e19 : a1.tmps.getD 19 undef = .pointer (some ⟨w.heap.size + 1 + 1, 4, none⟩) := hA.val 2 19 (by kernel_rfl) (by kernel_rfl)
          obtain ⟨_, _, _, _, q1⟩ := (hA.st.chg.blk HZ.out.2.2.1 HN.out.2).c5
          refine opStep none 0 rfl rfl (fun c hc => by cases hc) ?_
          go_simp
          exact hK _ _ rfl StM.refl (hA.ph.other (by decide) (by decide))
        · -- 4
          intro li a1 W2 hA K hK
          have e5 := hA.par 5 (by kernel_rfl)
          obtain ⟨q1, q2⟩ := (hA.st.chg.blk HZ.out.1 HN.out.1).c2
          refine opStep none 0 rfl rfl (fun c hc => by cases hc) ?_
          go_simp
          exact hK _ _ rfl StM.refl (hA.ph.other (by decide) (by decide))
        · -- 5
          intro li a1 W2 hA K hK
          have e3 := hA.par 3 (by kernel_rfl)
          refine opStep none 0 rfl rfl (fun c hc => by cases hc) ?_
          go_simp
          exact hK _ _ rfl StM.refl (hA.ph.other (by decide) (by decide))
        · -- 6
          intro li a1 W2 hA K hK
          have e22 : a1.tmps.getD 22 undef = .pointer (some ⟨w.heap.size + 1 + 1, 0, none⟩) := hA.val 5 22 (by kernel_rfl) (by kernel_rfl)
          refine opStep none 0 rfl rfl (fun c hc => by cases hc) ?_
          go_simp
          exact hK _ _ rfl StM.refl (hA.ph.other (by decide) (by decide))
        · -- 7
          intro li a1 W2 hA K hK
          have e23 : a1.tmps.getD 23 undef = .pointer (some ⟨w.heap.size + 1 + 1, 0, none⟩) := hA.val 6 23 (by kernel_rfl) (by kernel_rfl)
          refine opStep none 0 rfl rfl (fun c hc => by cases hc) ?_
          go_simp
          exact hK _ _ rfl StM.refl (hA.ph.other (by decide) (by decide))
        · -- 8
          intro li a1 W2 hA K hK
          have e24 : a1.tmps.getD 24 undef = .pointer (some ⟨w.heap.size + 1 + 1, 4, none⟩) := hA.val 7 24 (by kernel_rfl) (by kernel_rfl)
          obtain ⟨_, _, _, _, q1⟩ := (hA.st.chg.blk HZ.out.2.2.1 HN.out.2).c5
          refine opStep none 0 rfl rfl (fun c hc => by cases hc) ?_
          go_simp
          exact hK _ _ rfl StM.refl (hA.ph.other (by decide) (by decide))
        · -- 9
          intro li a1 W2 hA K hK
          have e5 := hA.par 5 (by kernel_rfl)
          refine opStep none 0 rfl rfl (fun c hc => by cases hc) ?_
          go_simp
          exact hK _ _ rfl StM.refl (hA.ph.other (by decide) (by decide))
        · -- 10
          intro li a1 W2 hA K hK
          have e26 : a1.tmps.getD 26 undef = .pointer (some ⟨z, 1, none⟩) := hA.val 9 26 (by kernel_rfl) (by kernel_rfl)
          obtain ⟨q1, q2⟩ := (hA.st.chg.blk HZ.out.1 HN.out.1).c2
          refine opStep none 0 rfl rfl (fun c hc => by cases hc) ?_
          go_simp
          exact hK _ _ rfl StM.refl (hA.ph.other (by decide) (by decide))
        · -- 11
          intro li a1 W2 hA K hK
          have e5 := hA.par 5 (by kernel_rfl)
          refine opStep none 0 rfl rfl (fun c hc => by cases hc) ?_
          go_simp
          exact hK _ _ rfl StM.refl (hA.ph.other (by decide) (by decide))
        · -- 12
          intro li a1 W2 hA K hK
          have e28 : a1.tmps.getD 28 undef = .pointer (some ⟨z, 0, none⟩) := hA.val 11 28 (by kernel_rfl) (by kernel_rfl)
          obtain ⟨q1, q2⟩ := (hA.st.chg.blk HZ.out.1 HN.out.1).c2
          refine opStep none 0 rfl rfl (fun c hc => by cases hc) ?_
          go_simp
          exact hK _ _ rfl StM.refl (hA.ph.other (by decide) (by decide))
        · -- 13
          intro li a1 W2 hA K hK
          have e27 : a1.tmps.getD 27 undef = .int .i64 jb := hA.val 10 27 (by kernel_rfl) (by kernel_rfl)
          have e29 : a1.tmps.getD 29 undef = .int .i64 ja := hA.val 12 29 (by kernel_rfl) (by kernel_rfl)
          have e27' := e27
          have e29' := e29
          rw [Array.getD_eq_getD_getElem?] at e27' e29'
          refine opStep none 0 rfl rfl (fun c hc => by cases hc) ?_
          go_simp
          exact hK _ _ rfl StM.refl (hA.ph.other (by decide) (by decide))
        · -- 14
          intro li a1 W2 hA K hK
          have e20 : a1.tmps.getD 20 undef = .map (some (w.heap.size + 1)) := hA.val 3 20 (by kernel_rfl) (by kernel_rfl)
          have e21 : a1.tmps.getD 21 undef = .agg #[.int .i64 ja, .int .i64 jb] := hA.val 4 21 (by kernel_rfl) (by kernel_rfl)
          have hl16 : li.getD 16 false = false := by
            cases hl : li.getD 16 false
            · rfl
            · have := hA.past hl 14 (by kernel_rfl); rw [hA.new] at this; cases this
          have hp := hA.ph
          unfold PhJ at hp
          rw [hl16, show li.getD 14 false = false from hA.new] at hp
          simp only [Bool.false_eq_true, if_false] at hp
          obtain ⟨v, st, W', hrun, hs, he, hm'⟩ := jn_entry (t := 157) Tryz.underlying157 (mbool_zero _) hp HIA.out.1 HIA.out.2
          unfold jnV goInt at hrun
          refine opValue none 0 rfl rfl (fun c hc => by cases hc) (v := .tuple #[v, .int .i64 (st : Int)]) (W' := W') (by simp [execOp, Act.eval, e20, e21, hrun, Result.andThen]) ?_
          refine hK _ W' ⟨(st, v), rfl, he⟩ hs ?_
          unfold PhJ
          rw [getD_set_oth (by decide), hl16, getD_set_eq (by rw [hA.lsize]; decide)]
          simp only [Bool.false_eq_true, if_false, if_true]
          exact hm'
        · -- 15
          intro li a1 W2 hA K hK
          obtain ⟨q, e31, h31⟩ := hA.val 14 31 (by kernel_rfl) (by kernel_rfl)
          refine opStep none 0 rfl rfl (fun c hc => by cases hc) ?_
          go_simp
          exact hK _ _ ⟨q.1, rfl, h31⟩ StM.refl (hA.ph.other (by decide) (by decide))
        · -- 16
          intro li a1 W2 hA K hK
          have e20 : a1.tmps.getD 20 undef = .map (some (w.heap.size + 1)) := hA.val 3 20 (by kernel_rfl) (by kernel_rfl)
          obtain ⟨st, e32, h32⟩ := hA.val 15 32 (by kernel_rfl) (by kernel_rfl)
          have hp := hA.ph
          unfold PhJ at hp
          rw [show li.getD 16 false = false from hA.new, hA.has 14 (by kernel_rfl)] at hp
          simp only [Bool.false_eq_true, if_false, if_true] at hp
          obtain ⟨W', hrun, hs, hm'⟩ := jn_store (t := 157) hp h32
          unfold goInt at hrun
          refine opStep none 0 rfl rfl (fun c hc => by cases hc) ?_
          unfold Oper.wp
          rw [show (execOp a1.eval _).run Tryz.prog W2 = .ok .skip W' by simp [execOp, Act.eval, e20, e32, hrun, Result.andThen]]
          refine hK undef W' ⟨undef, rfl, trivial⟩ hs ?_
          unfold PhJ
          rw [getD_set_eq (by rw [hA.lsize]; decide)]
          simp only [if_true]
          exact hm'
      · intro li a1 W2 hD
        have hp := hD.ph
        unfold PhJ at hp
        rw [hD.all 16 (by decide)] at hp
        simp only [if_true] at hp
        have e25 : a1.tmps.getD 25 undef = .map (some (w.heap.size + 1)) := hD.val 8 25 (by kernel_rfl) (by kernel_rfl)
        have e30 : a1.tmps.getD 30 undef = .agg #[.int .i64 jb, .int .i64 ja] := hD.val 13 30 (by kernel_rfl) (by kernel_rfl)
        obtain ⟨v, st, w5, hrun, hs5, he, hm5⟩ := jn_entry (t := 157) Tryz.underlying157 (mbool_zero _) hp HIA.out.2 HIA.out.1
        unfold jnV goInt at hrun
        obtain ⟨w6, hrun2, hs6, hm6⟩ := jn_store (t := 157) hm5 he
        unfold goInt at hrun2
        have HNX := hid (show MapAt (kTo m (k + 1)) (fun _ _ => False) (w.heap.size + 1) w6 ∧ MChg (fun q => q = w.heap.size + 1) w1 w6 from ⟨hm6.congr (fun x y => by rw [kTo_succ HJ.out, HJE.out.1, HJE.out.2]) (fun _ _ h => h), HZ.out.2.2.2.trans (hD.st.chg.trans (hs5.chg.trans hs6.chg))⟩)
        have hkp2 := hD.keeps (ds := [17, 18, 19, 20, 21, 22, 23, 24, 25, 26, 27, 28, 29, 30, 31, 32, 33, 34]) (by kernel_rfl)
        have hds := hD.size
        have hsz : a1.tmps.size = 37 := hD.size
        have hdd := hD.defers
        clear hp hs5 he hm5 hs6 hm6
        refine tail_val (i := 17) (v := .tuple #[v, .int .i64 (st : Int)]) (W' := w5) none 0 rfl rfl rfl (fun c hc => by cases hc) (by simp [execOp, Act.eval, e25, e30, hrun, Result.andThen]) (by rw [hsz]; decide) ?_
        intro a3 s3 d3 f3 o3
        have hkp3 := keeps_then hkp2 o3 (by decide)
        refine tail_val (i := 18) (v := .int .i64 (st : Int)) (W' := w5) none 0 rfl rfl rfl (fun c hc => by cases hc) (by go_simp) (by rw [s3, hsz]; decide) ?_
        intro a4 s4 d4 f4 o4
        have hkp4 := keeps_then hkp3 o4 (by decide)
        have e25' := (o4 25 (by decide)).trans ((o3 25 (by decide)).trans e25)
        refine tail_store (i := 19) (W' := w6) none 0 rfl rfl rfl (fun c hc => by cases hc) (by simp [execOp, Act.eval, e25', f4, hrun2, Result.andThen]) ?_
        have e := act_mix [17, 18, 19, 20, 21, 22, 23, 24, 25, 26, 27, 28, 29, 30, 31, 32, 33, 34] (s4.trans (s3.trans hds)) (d4.trans (d3.trans hdd)) (fun i _ hc => hkp4 i hc)
        generalize (fun i => a4.tmps.getD i undef) = g' at e
        refine wpListIn_nil ?_
        rw [e]
        clear e hD hkp2 hkp3 hkp4 s3 s4 d3 d4 f3 f4 o3 o4 e25 e25' e30 hds hdd hsz hrun hrun2 HZ HN HJ HJE
        simp only [mix, List.contains_cons, List.contains_nil, Nat.reduceAdd, Nat.reduceBEq, Bool.or_false, Bool.or_true, cond_true, cond_false]
        go_wp2
        go_roundw
        case rel => exact ⟨k + 1, by omega, by go_num, HNX.out⟩
        case measure => first | (simp [intOf]; done) | (simp [intOf]; omega)
    · have hkI : decide ((k : Int) < (m.js.length : Int)) = false := by simp; omega
      obtain rfl : k = m.js.length := by omega
      have HF := hid (show WAt m A c A2 c2 A3 c3 (w.heap.size + 1 + 1) (w.heap.size + 1) wr ∧ Below w.heap.size w wr from ⟨⟨HR.out.2.2.2, HR.out.1.congr (fun x y => kTo_all.symm) (fun _ _ h => h)⟩, HR.out.2.2.1⟩)
      go_wp2
      go_ret
      exact ⟨w.heap.size + 1 + 1, w.heap.size + 1, rfl, by omega, by omega, HF.out⟩
end Go.Proofs.YtlnamjhgbdacbaaGreat
