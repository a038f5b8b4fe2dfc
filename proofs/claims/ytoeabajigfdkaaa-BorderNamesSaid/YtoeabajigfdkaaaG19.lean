/- The walks and the plain laws of this part of the program, part 19: what each computes. Conditions stand at each theorem. -/
import Derived.Test.YtoeabajigfdkaaaG3
import Derived.Test.YtoeabajigfdkaaaG12
import Derived.Test.YtoeabajigfdkaaaG18
/- The reference of layer 11: the best borders, by trying all. Conditions stand at the theorem. -/
namespace Go.Proofs.Ytoeabajigfdkaaa
open Go.RowKit Go.Shelf

set_option maxRecDepth 100000 in
set_option maxHeartbeats 4000000 in
theorem qbest_any (m : MapD) (A : Option Addr) (c : Nat) (A2 : Option Addr) (c2 : Nat) (A3 : Option Addr) (c3 : Nat) (lo hi : Int) (w : World) (h : MIn m A c A2 c2 A3 c3 w) (ok : OkM m) :
    Calls Try.prog 43 #[.agg #[.slice A m.old.length c, .int .i64 m.nw, .slice A2 m.ss.length c2, .slice A3 m.js.length c3], .agg #[.int .i64 lo, .int .i64 hi]] w fun e w' => ∃ y : Option Addr × Nat, e = .returned (.tuple #[.slice y.1 (bqL m (bqT m lo hi (m.nw.toNat ^ m.ss.length))).length y.2, .bool (decide (0 < (bqL m (bqT m lo hi (m.nw.toNat ^ m.ss.length))).length))]) ∧ IntsAt y (bqL m (bqT m lo hi (m.nw.toNat ^ m.ss.length))) w' ∧ Below w.heap.size w w' := by
  have hs8 := ok.s8
  have hs1 := ok.s1
  obtain ⟨N, hN⟩ : ∃ N : Nat, m.nw = (N : Int) := ⟨m.nw.toNat, by have := ok.n1; omega⟩
  have hN4 : N ≤ 4 := by have := ok.n4; omega
  have hNT : m.nw.toNat = N := by omega
  obtain ⟨M, hM⟩ : ∃ M, N ^ m.ss.length = M := ⟨_, rfl⟩
  have hM6 : M ≤ 65536 := by rw [← hM]; exact pow_le N _ hN4 hs8
  simp only [hNT, hM]
  have HM := hid hM
  have hB := (below_box (w := w) #[.slice A m.old.length c, .int .i64 m.nw, .slice A2 m.ss.length c2, .slice A3 m.js.length c3] 26).alloc (below_box (w := w) #[.slice A m.old.length c, .int .i64 m.nw, .slice A2 m.ss.length c2, .slice A3 m.js.length c3] 26).size (.cells #[.int .i64 lo, .int .i64 hi] 43)
  have hT := (Blk.new w 26 #[.slice A m.old.length c, .int .i64 m.nw, .slice A2 m.ss.length c2, .slice A3 m.js.length c3]).alloc (.cells #[.int .i64 lo, .int .i64 hi] 43)
  have hR := Blk.new (w.alloc (.cells #[.slice A m.old.length c, .int .i64 m.nw, .slice A2 m.ss.length c2, .slice A3 m.js.length c3] 26)) 43 #[.int .i64 lo, .int .i64 hi]
  rw [World.size_alloc] at hR
  have HT := hid hT
  have HL := hid hR
  have HB0 := hid hB
  have HA := hid h
  have OK := hid ok
  have HN := hid hN
  clear hB hT hR h ok hN hNT hM
  go_enter Try.func43, Try.ntmps43
  go_wp2
  generalize hW1 : (w.alloc (.cells #[.slice A m.old.length c, .int .i64 m.nw, .slice A2 m.ss.length c2, .slice A3 m.js.length c3] 26)).alloc (.cells #[.int .i64 lo, .int .i64 hi] 43) = w1 at *
  clear hW1
  go_loopw [6, 7] (fun v i W => ∃ k : Nat, k ≤ m.ss.length ∧ i = .int .i64 k ∧ v = .int .i64 ((N ^ k : Nat) : Int) ∧ W = w1) (fun _ i _ => m.ss.length - (intOf i).toNat)
  case atStart => exact ⟨0, Nat.zero_le _, rfl, rfl, rfl⟩
  case round =>
    obtain ⟨k, hk, rfl, rfl, rfl⟩ := hrel
    obtain ⟨t0, t1, t2, t3⟩ := HT.out.c4
    rw [HN.out] at t1
    by_cases hlt : k < m.ss.length
    · have hkI : (k : Int) < (m.ss.length : Int) := by omega
      have hp := pow_le N (k + 1) hN4 (by omega)
      have HNX := hid (show ((N ^ k : Nat) : Int) * (N : Int) = ((N ^ (k + 1) : Nat) : Int) by rw [Nat.pow_succ, Int.natCast_mul])
      have hw : IntKind.i64.wrap (((N ^ k : Nat) : Int) * (N : Int)) = ((N ^ (k + 1) : Nat) : Int) := by rw [HNX.out]; exact IntWalk.i64_in _ (by omega)
      clear hp
      generalize hg1 : ((N ^ k : Nat) : Int) = v1 at *
      generalize hg2 : ((N ^ (k + 1) : Nat) : Int) = v2 at *
      go_wp2
      go_roundw
      case rel => exact ⟨k + 1, by omega, by go_num, by rw [hg2], trivial⟩
      case measure => first | (simp [intOf]; done) | (simp [intOf]; omega)
    · have hkI : decide ((k : Int) < (m.ss.length : Int)) = false := by simp; omega
      obtain rfl : k = m.ss.length := by omega
      rw [HM.out]
      generalize wr = w1 at *
      go_wp2
      clear t0 t1 t2 t3
      go_loopw [8, 9, 10] (fun v i _ W => ∃ k : Nat, k ≤ M ∧ i = .int .i64 k ∧ (∃ y : Option Addr × Nat, v = .slice y.1 (bqL m (bqT m lo hi k)).length y.2 ∧ IntsAt y (bqL m (bqT m lo hi k)) W) ∧ Below w1.heap.size w1 W) (fun _ i _ _ => M - (intOf i).toNat)
      case atStart => exact ⟨0, Nat.zero_le _, rfl, ⟨(none, 0), rfl, (fun k x hk => by simp [bqL, bqT] at hk), Nat.le_refl _, Nat.zero_le _⟩, Below.refl _ _⟩
      case round =>
        obtain ⟨k, hk, rfl, ⟨y, hv, hy⟩, hbr⟩ := hrel
        have HR := hid hbr
        have HBR := hid (HB0.out.trans (hbr.mono HB0.out.size))
        have HTR := hid (HT.out.keep hbr)
        have HLR := hid (HL.out.keep hbr)
        obtain ⟨t0, t1, t2, t3⟩ := HTR.out.c4
        clear hbr
        by_cases hlt : k < M
        · have hkI : (k : Int) < (M : Int) := by omega
          have K1 := hid ((qnth_any m A c A2 c2 A3 c3 (k : Int) wr (HA.out.at_ HBR.out) OK.out (by omega) (by omega)).mono fun _ _ => GivesInts.i)
          rw [show nthL m (k : Int) m.ss.length = nthA m k from rfl] at K1
          cases hq : bqT m lo hi k with
          | none =>
            rw [hq] at hv hy
            replace hv : u8 = .slice y.1 0 y.2 := hv
            subst hv
            go_wp2_with fail
            refine K1.out.mono ?_
            rintro e w2 ⟨z, rfl, hz, hb⟩
            have HZ := hid hz
            have HB2 := hid (HR.out.trans (hb.mono HR.out.size))
            have HBW := hid (HBR.out.trans (hb.mono HBR.out.size))
            have HT2 := hid (HTR.out.keep hb)
            have HL2 := hid (HLR.out.keep hb)
            have HY2 := hid (hy.at_ hb)
            clear hz hb K1 t0 t1 t2 t3 hy
            rw [nthA_len]
            cases hg : nthG m lo hi k with
            | true =>
              have HG := hid hg
              have HST := hid (show bqT m lo hi (k + 1) = some k by rw [bqT, hq]; simp [hg])
              clear hg
              go_wp2
              refine (wpIn_wide (n := 0)).1 ?_
              refine wpIn_region_each 17 (fun i v W' => match i with | 0 => v = .slice y.1 0 y.2 | 1 => v = .int .i64 0 | 2 => v = .bool true | 3 => v = .bool true | 4 => v = undef | 5 => v = undef | 6 => v = undef | 7 => v = undef | 8 => v = undef | 9 => v = undef | 10 => v = undef | 11 => v = .bool true | 12 => v = .bool true | 13 => v = .agg #[.slice A m.old.length c, .int .i64 m.nw, .slice A2 m.ss.length c2, .slice A3 m.js.length c3] | 14 => v = .slice z.1 m.ss.length z.2 | 15 => v = .agg #[.int .i64 lo, .int .i64 hi] | 16 => v = .bool true | _ => True) (fun A B => Below A.heap.size A B) (fun _ _ => True) (by kernel_rfl) (by kernel_rfl) ?_ (fun h k => h.trans (k.mono h.size)) ⟨rfl, rfl, rfl, Nat.le_refl _, fun _ _ => rfl⟩ trivial (by kernel_rfl) ?_ ?_
              · intro i v W1 W2 hb h
                match i, h with
                | 0, h => exact h
                | 1, h => exact h
                | 2, h => exact h
                | 3, h => exact h
                | 4, h => exact h
                | 5, h => exact h
                | 6, h => exact h
                | 7, h => exact h
                | 8, h => exact h
                | 9, h => exact h
                | 10, h => exact h
                | 11, h => exact h
                | 12, h => exact h
                | 13, h => exact h
                | 14, h => exact h
                | 15, h => exact h
                | 16, h => exact h
                | i + 17, h => trivial
              · refine ⟨?_, ?_, ?_, ?_, ?_, ?_, ?_, ?_, ?_, ?_, ?_, ?_, ?_, ?_, ?_, ?_, ?_, trivial⟩
                · -- 0
                  intro li a1 W2 hA K hK
                  have e8 := hA.par 8 (by kernel_rfl)
                  refine opStep none 0 rfl rfl (fun c hc => by cases hc) ?_
                  go_simp
                  exact hK _ _ rfl (Below.refl _ _) trivial
                · -- 1
                  intro li a1 W2 hA K hK
                  have e30 : a1.tmps.getD 30 undef = .slice y.1 0 y.2 := hA.val 0 30 (by kernel_rfl) (by kernel_rfl)
                  refine opStep none 0 rfl rfl (fun c hc => by cases hc) ?_
                  go_simp
                  exact hK _ _ rfl (Below.refl _ _) trivial
                · -- 2
                  intro li a1 W2 hA K hK
                  have e31 : a1.tmps.getD 31 undef = .int .i64 0 := hA.val 1 31 (by kernel_rfl) (by kernel_rfl)
                  refine opStep none 0 rfl rfl (fun c hc => by cases hc) ?_
                  go_simp
                  exact hK _ _ (by first | rfl | exact congrArg Value.bool hz0) (Below.refl _ _) trivial
                · -- 3
                  intro li a1 W2 hA K hK
                  have e32 : a1.tmps.getD 32 undef = .bool true := hA.val 2 32 (by kernel_rfl) (by kernel_rfl)
                  refine opStep none 0 rfl rfl (fun c hc => by cases hc) ?_
                  go_simp
                  exact hK _ _ rfl (Below.refl _ _) trivial
                · -- 4
                  intro li a1 W2 hA K hK
                  have eg33 : a1.tmps.getD 33 undef = .bool true := hA.val 3 33 (by kernel_rfl) (by kernel_rfl)
                  refine opSkip none 0 rfl (wanted_no (j := 3) (d := 33) (b := false) rfl (by kernel_rfl) eg33 (by decide)) ?_
                  exact hK _ _ rfl (Below.refl _ _) trivial
                · -- 5
                  intro li a1 W2 hA K hK
                  have eg33 : a1.tmps.getD 33 undef = .bool true := hA.val 3 33 (by kernel_rfl) (by kernel_rfl)
                  refine opSkip none 0 rfl (wanted_no (j := 3) (d := 33) (b := false) rfl (by kernel_rfl) eg33 (by decide)) ?_
                  exact hK _ _ rfl (Below.refl _ _) trivial
                · -- 6
                  intro li a1 W2 hA K hK
                  have eg33 : a1.tmps.getD 33 undef = .bool true := hA.val 3 33 (by kernel_rfl) (by kernel_rfl)
                  refine opSkip none 0 rfl (wanted_no (j := 3) (d := 33) (b := false) rfl (by kernel_rfl) eg33 (by decide)) ?_
                  exact hK _ _ rfl (Below.refl _ _) trivial
                · -- 7
                  intro li a1 W2 hA K hK
                  have eg33 : a1.tmps.getD 33 undef = .bool true := hA.val 3 33 (by kernel_rfl) (by kernel_rfl)
                  refine opSkip none 0 rfl (wanted_no (j := 3) (d := 33) (b := false) rfl (by kernel_rfl) eg33 (by decide)) ?_
                  exact hK _ _ rfl (Below.refl _ _) trivial
                · -- 8
                  intro li a1 W2 hA K hK
                  have eg33 : a1.tmps.getD 33 undef = .bool true := hA.val 3 33 (by kernel_rfl) (by kernel_rfl)
                  refine opSkip none 0 rfl (wanted_no (j := 3) (d := 33) (b := false) rfl (by kernel_rfl) eg33 (by decide)) ?_
                  exact hK _ _ rfl (Below.refl _ _) trivial
                · -- 9
                  intro li a1 W2 hA K hK
                  have eg33 : a1.tmps.getD 33 undef = .bool true := hA.val 3 33 (by kernel_rfl) (by kernel_rfl)
                  refine opSkip none 0 rfl (wanted_no (j := 3) (d := 33) (b := false) rfl (by kernel_rfl) eg33 (by decide)) ?_
                  exact hK _ _ rfl (Below.refl _ _) trivial
                · -- 10
                  intro li a1 W2 hA K hK
                  have eg33 : a1.tmps.getD 33 undef = .bool true := hA.val 3 33 (by kernel_rfl) (by kernel_rfl)
                  refine opSkip none 0 rfl (wanted_no (j := 3) (d := 33) (b := false) rfl (by kernel_rfl) eg33 (by decide)) ?_
                  exact hK _ _ rfl (Below.refl _ _) trivial
                · -- 11
                  intro li a1 W2 hA K hK
                  have e33 : a1.tmps.getD 33 undef = .bool true := hA.val 3 33 (by kernel_rfl) (by kernel_rfl)
                  refine opStep none 0 rfl rfl (fun c hc => by cases hc) ?_
                  go_simp
                  exact hK _ _ rfl (Below.refl _ _) trivial
                · -- 12
                  intro li a1 W2 hA K hK
                  have e41 : a1.tmps.getD 41 undef = .bool true := hA.val 11 41 (by kernel_rfl) (by kernel_rfl)
                  refine opStep none 0 rfl rfl (fun c hc => by cases hc) ?_
                  go_simp
                  exact hK _ _ rfl (Below.refl _ _) trivial
                · -- 13
                  intro li a1 W2 hA K hK
                  have eg42 : a1.tmps.getD 42 undef = .bool true := hA.val 12 42 (by kernel_rfl) (by kernel_rfl)
                  have e2 := hA.par 2 (by kernel_rfl)
                  obtain ⟨q1, q2, q3, q4⟩ := (HT2.out.keep hA.st).c4
                  refine opStep none 0 rfl (wanted_yes (j := 12) (d := 42) (b := true) rfl (by kernel_rfl) eg42) (fun c hc => by cases hc) ?_
                  go_simp
                  exact hK _ _ rfl (Below.refl _ _) trivial
                · -- 14
                  intro li a1 W2 hA K hK
                  have eg42 : a1.tmps.getD 42 undef = .bool true := hA.val 12 42 (by kernel_rfl) (by kernel_rfl)
                  have e10 := hA.par 10 (by kernel_rfl)
                  refine opStep none 0 rfl (wanted_yes (j := 12) (d := 42) (b := true) rfl (by kernel_rfl) eg42) (fun c hc => by cases hc) ?_
                  go_simp
                  exact hK _ _ rfl (Below.refl _ _) trivial
                · -- 15
                  intro li a1 W2 hA K hK
                  have eg42 : a1.tmps.getD 42 undef = .bool true := hA.val 12 42 (by kernel_rfl) (by kernel_rfl)
                  have e3 := hA.par 3 (by kernel_rfl)
                  obtain ⟨q1, q2⟩ := (HL2.out.keep hA.st).c2
                  refine opStep none 0 rfl (wanted_yes (j := 12) (d := 42) (b := true) rfl (by kernel_rfl) eg42) (fun c hc => by cases hc) ?_
                  go_simp
                  exact hK _ _ rfl (Below.refl _ _) trivial
                · -- 16
                  intro li a1 W2 hA K hK
                  have eg42 : a1.tmps.getD 42 undef = .bool true := hA.val 12 42 (by kernel_rfl) (by kernel_rfl)
                  have e43 : a1.tmps.getD 43 undef = .agg #[.slice A m.old.length c, .int .i64 m.nw, .slice A2 m.ss.length c2, .slice A3 m.js.length c3] := hA.val 13 43 (by kernel_rfl) (by kernel_rfl)
                  have e44 : a1.tmps.getD 44 undef = .slice z.1 m.ss.length z.2 := hA.val 14 44 (by kernel_rfl) (by kernel_rfl)
                  have e45 : a1.tmps.getD 45 undef = .agg #[.int .i64 lo, .int .i64 hi] := hA.val 15 45 (by kernel_rfl) (by kernel_rfl)
                  refine opStep none 0 rfl (wanted_yes (j := 12) (d := 42) (b := true) rfl (by kernel_rfl) eg42) (fun c hc => by cases hc) ?_
                  go_simp
                  have KM := qright_any m A c A2 c2 A3 c3 z.1 z.2 (nthA m k) lo hi W2 (HA.out.at_ (HBW.out.trans (hA.st.mono HBW.out.size))) OK.out (HZ.out.at_ hA.st).1 (nthA_len m k) (HZ.out.at_ hA.st).2.1 (HZ.out.at_ hA.st).2.2
                  rw [nthA_len, show rightB m (fnO (nthA m k)) lo hi = true from HG.out] at KM
                  refine KM.mono ?_
                  rintro e W3 ⟨rfl, hb3⟩
                  exact hK _ _ rfl hb3 trivial
              · intro li a1 W2 hD
                have e42 : a1.tmps.getD 42 undef = .bool true := hD.val 12 42 (by kernel_rfl) (by kernel_rfl)
                have e46 : a1.tmps.getD 46 undef = .bool true := hD.val 16 46 (by kernel_rfl) (by kernel_rfl)
                have hkp2 := hD.keeps (ds := [30, 31, 32, 33, 34, 35, 36, 37, 38, 39, 40, 41, 42, 43, 44, 45, 46, 47]) (by kernel_rfl)
                have hds := hD.size
                have hsz9 : a1.tmps.size = 53 := hD.size
                have hdd := hD.defers
                have hst := hD.st
                refine tail_val (i := 17) (v := .bool true) (W' := W2) none 0 rfl rfl rfl (fun c hc => by cases hc) (by go_simp) (by rw [hsz9]; decide) ?_
                intro a3 s3 d3 f3 o3
                have hkp3 := keeps_then hkp2 o3 (by decide)
                have e := act_mix [30, 31, 32, 33, 34, 35, 36, 37, 38, 39, 40, 41, 42, 43, 44, 45, 46, 47] (s3.trans hds) (d3.trans hdd) (fun i _ hc => hkp3 i hc)
                have hg9 : (fun i => a3.tmps.getD i undef) 47 = .bool true := f3
                generalize (fun i => a3.tmps.getD i undef) = g' at e hg9
                refine wpListIn_nil ?_
                rw [e]
                clear e hD hkp2 hkp3 s3 d3 f3 o3 hds hdd hsz9 e42 e46
                simp only [mix, List.contains_cons, List.contains_nil, Nat.reduceAdd, Nat.reduceBEq, Bool.or_false, Bool.or_true, cond_true, cond_false, hg9]
                clear hg9
                have HNX := hid (HB2.out.trans (hst.mono HB2.out.size))
                have HNY := hid (HZ.out.at_ hst)
                clear hst HZ HB2 HBW HT2 HL2 HY2 HR HBR HTR HLR
                go_wp2
                go_roundw
                case rel => exact ⟨k + 1, by omega, by go_num, ⟨z, by rw [HST.out]; first | rfl | (show Value.slice _ _ _ = Value.slice _ (nthA m _).length _; rw [nthA_len]), by rw [HST.out]; exact HNY.out⟩, HNX.out⟩
                case measure => first | (simp [intOf]; done) | (simp [intOf]; omega)
            | false =>
              have HG := hid hg
              have HST := hid (show bqT m lo hi (k + 1) = none by rw [bqT, hq]; simp [hg])
              clear hg
              go_wp2
              refine (wpIn_wide (n := 0)).1 ?_
              refine wpIn_region_each 17 (fun i v W' => match i with | 0 => v = .slice y.1 0 y.2 | 1 => v = .int .i64 0 | 2 => v = .bool true | 3 => v = .bool true | 4 => v = undef | 5 => v = undef | 6 => v = undef | 7 => v = undef | 8 => v = undef | 9 => v = undef | 10 => v = undef | 11 => v = .bool true | 12 => v = .bool true | 13 => v = .agg #[.slice A m.old.length c, .int .i64 m.nw, .slice A2 m.ss.length c2, .slice A3 m.js.length c3] | 14 => v = .slice z.1 m.ss.length z.2 | 15 => v = .agg #[.int .i64 lo, .int .i64 hi] | 16 => v = .bool false | _ => True) (fun A B => Below A.heap.size A B) (fun _ _ => True) (by kernel_rfl) (by kernel_rfl) ?_ (fun h k => h.trans (k.mono h.size)) ⟨rfl, rfl, rfl, Nat.le_refl _, fun _ _ => rfl⟩ trivial (by kernel_rfl) ?_ ?_
              · intro i v W1 W2 hb h
                match i, h with
                | 0, h => exact h
                | 1, h => exact h
                | 2, h => exact h
                | 3, h => exact h
                | 4, h => exact h
                | 5, h => exact h
                | 6, h => exact h
                | 7, h => exact h
                | 8, h => exact h
                | 9, h => exact h
                | 10, h => exact h
                | 11, h => exact h
                | 12, h => exact h
                | 13, h => exact h
                | 14, h => exact h
                | 15, h => exact h
                | 16, h => exact h
                | i + 17, h => trivial
              · refine ⟨?_, ?_, ?_, ?_, ?_, ?_, ?_, ?_, ?_, ?_, ?_, ?_, ?_, ?_, ?_, ?_, ?_, trivial⟩
                · -- 0
                  intro li a1 W2 hA K hK
                  have e8 := hA.par 8 (by kernel_rfl)
                  refine opStep none 0 rfl rfl (fun c hc => by cases hc) ?_
                  go_simp
                  exact hK _ _ rfl (Below.refl _ _) trivial
                · -- 1
                  intro li a1 W2 hA K hK
                  have e30 : a1.tmps.getD 30 undef = .slice y.1 0 y.2 := hA.val 0 30 (by kernel_rfl) (by kernel_rfl)
                  refine opStep none 0 rfl rfl (fun c hc => by cases hc) ?_
                  go_simp
                  exact hK _ _ rfl (Below.refl _ _) trivial
                · -- 2
                  intro li a1 W2 hA K hK
                  have e31 : a1.tmps.getD 31 undef = .int .i64 0 := hA.val 1 31 (by kernel_rfl) (by kernel_rfl)
                  refine opStep none 0 rfl rfl (fun c hc => by cases hc) ?_
                  go_simp
                  exact hK _ _ (by first | rfl | exact congrArg Value.bool hz0) (Below.refl _ _) trivial
                · -- 3
                  intro li a1 W2 hA K hK
                  have e32 : a1.tmps.getD 32 undef = .bool true := hA.val 2 32 (by kernel_rfl) (by kernel_rfl)
                  refine opStep none 0 rfl rfl (fun c hc => by cases hc) ?_
                  go_simp
                  exact hK _ _ rfl (Below.refl _ _) trivial
                · -- 4
                  intro li a1 W2 hA K hK
                  have eg33 : a1.tmps.getD 33 undef = .bool true := hA.val 3 33 (by kernel_rfl) (by kernel_rfl)
                  refine opSkip none 0 rfl (wanted_no (j := 3) (d := 33) (b := false) rfl (by kernel_rfl) eg33 (by decide)) ?_
                  exact hK _ _ rfl (Below.refl _ _) trivial
                · -- 5
                  intro li a1 W2 hA K hK
                  have eg33 : a1.tmps.getD 33 undef = .bool true := hA.val 3 33 (by kernel_rfl) (by kernel_rfl)
                  refine opSkip none 0 rfl (wanted_no (j := 3) (d := 33) (b := false) rfl (by kernel_rfl) eg33 (by decide)) ?_
                  exact hK _ _ rfl (Below.refl _ _) trivial
                · -- 6
                  intro li a1 W2 hA K hK
                  have eg33 : a1.tmps.getD 33 undef = .bool true := hA.val 3 33 (by kernel_rfl) (by kernel_rfl)
                  refine opSkip none 0 rfl (wanted_no (j := 3) (d := 33) (b := false) rfl (by kernel_rfl) eg33 (by decide)) ?_
                  exact hK _ _ rfl (Below.refl _ _) trivial
                · -- 7
                  intro li a1 W2 hA K hK
                  have eg33 : a1.tmps.getD 33 undef = .bool true := hA.val 3 33 (by kernel_rfl) (by kernel_rfl)
                  refine opSkip none 0 rfl (wanted_no (j := 3) (d := 33) (b := false) rfl (by kernel_rfl) eg33 (by decide)) ?_
                  exact hK _ _ rfl (Below.refl _ _) trivial
                · -- 8
                  intro li a1 W2 hA K hK
                  have eg33 : a1.tmps.getD 33 undef = .bool true := hA.val 3 33 (by kernel_rfl) (by kernel_rfl)
                  refine opSkip none 0 rfl (wanted_no (j := 3) (d := 33) (b := false) rfl (by kernel_rfl) eg33 (by decide)) ?_
                  exact hK _ _ rfl (Below.refl _ _) trivial
                · -- 9
                  intro li a1 W2 hA K hK
                  have eg33 : a1.tmps.getD 33 undef = .bool true := hA.val 3 33 (by kernel_rfl) (by kernel_rfl)
                  refine opSkip none 0 rfl (wanted_no (j := 3) (d := 33) (b := false) rfl (by kernel_rfl) eg33 (by decide)) ?_
                  exact hK _ _ rfl (Below.refl _ _) trivial
                · -- 10
                  intro li a1 W2 hA K hK
                  have eg33 : a1.tmps.getD 33 undef = .bool true := hA.val 3 33 (by kernel_rfl) (by kernel_rfl)
                  refine opSkip none 0 rfl (wanted_no (j := 3) (d := 33) (b := false) rfl (by kernel_rfl) eg33 (by decide)) ?_
                  exact hK _ _ rfl (Below.refl _ _) trivial
                · -- 11
                  intro li a1 W2 hA K hK
                  have e33 : a1.tmps.getD 33 undef = .bool true := hA.val 3 33 (by kernel_rfl) (by kernel_rfl)
                  refine opStep none 0 rfl rfl (fun c hc => by cases hc) ?_
                  go_simp
                  exact hK _ _ rfl (Below.refl _ _) trivial
                · -- 12
                  intro li a1 W2 hA K hK
                  have e41 : a1.tmps.getD 41 undef = .bool true := hA.val 11 41 (by kernel_rfl) (by kernel_rfl)
                  refine opStep none 0 rfl rfl (fun c hc => by cases hc) ?_
                  go_simp
                  exact hK _ _ rfl (Below.refl _ _) trivial
                · -- 13
                  intro li a1 W2 hA K hK
                  have eg42 : a1.tmps.getD 42 undef = .bool true := hA.val 12 42 (by kernel_rfl) (by kernel_rfl)
                  have e2 := hA.par 2 (by kernel_rfl)
                  obtain ⟨q1, q2, q3, q4⟩ := (HT2.out.keep hA.st).c4
                  refine opStep none 0 rfl (wanted_yes (j := 12) (d := 42) (b := true) rfl (by kernel_rfl) eg42) (fun c hc => by cases hc) ?_
                  go_simp
                  exact hK _ _ rfl (Below.refl _ _) trivial
                · -- 14
                  intro li a1 W2 hA K hK
                  have eg42 : a1.tmps.getD 42 undef = .bool true := hA.val 12 42 (by kernel_rfl) (by kernel_rfl)
                  have e10 := hA.par 10 (by kernel_rfl)
                  refine opStep none 0 rfl (wanted_yes (j := 12) (d := 42) (b := true) rfl (by kernel_rfl) eg42) (fun c hc => by cases hc) ?_
                  go_simp
                  exact hK _ _ rfl (Below.refl _ _) trivial
                · -- 15
                  intro li a1 W2 hA K hK
                  have eg42 : a1.tmps.getD 42 undef = .bool true := hA.val 12 42 (by kernel_rfl) (by kernel_rfl)
                  have e3 := hA.par 3 (by kernel_rfl)
                  obtain ⟨q1, q2⟩ := (HL2.out.keep hA.st).c2
                  refine opStep none 0 rfl (wanted_yes (j := 12) (d := 42) (b := true) rfl (by kernel_rfl) eg42) (fun c hc => by cases hc) ?_
                  go_simp
                  exact hK _ _ rfl (Below.refl _ _) trivial
                · -- 16
                  intro li a1 W2 hA K hK
                  have eg42 : a1.tmps.getD 42 undef = .bool true := hA.val 12 42 (by kernel_rfl) (by kernel_rfl)
                  have e43 : a1.tmps.getD 43 undef = .agg #[.slice A m.old.length c, .int .i64 m.nw, .slice A2 m.ss.length c2, .slice A3 m.js.length c3] := hA.val 13 43 (by kernel_rfl) (by kernel_rfl)
                  have e44 : a1.tmps.getD 44 undef = .slice z.1 m.ss.length z.2 := hA.val 14 44 (by kernel_rfl) (by kernel_rfl)
                  have e45 : a1.tmps.getD 45 undef = .agg #[.int .i64 lo, .int .i64 hi] := hA.val 15 45 (by kernel_rfl) (by kernel_rfl)
                  refine opStep none 0 rfl (wanted_yes (j := 12) (d := 42) (b := true) rfl (by kernel_rfl) eg42) (fun c hc => by cases hc) ?_
                  go_simp
                  have KM := qright_any m A c A2 c2 A3 c3 z.1 z.2 (nthA m k) lo hi W2 (HA.out.at_ (HBW.out.trans (hA.st.mono HBW.out.size))) OK.out (HZ.out.at_ hA.st).1 (nthA_len m k) (HZ.out.at_ hA.st).2.1 (HZ.out.at_ hA.st).2.2
                  rw [nthA_len, show rightB m (fnO (nthA m k)) lo hi = false from HG.out] at KM
                  refine KM.mono ?_
                  rintro e W3 ⟨rfl, hb3⟩
                  exact hK _ _ rfl hb3 trivial
              · intro li a1 W2 hD
                have e42 : a1.tmps.getD 42 undef = .bool true := hD.val 12 42 (by kernel_rfl) (by kernel_rfl)
                have e46 : a1.tmps.getD 46 undef = .bool false := hD.val 16 46 (by kernel_rfl) (by kernel_rfl)
                have hkp2 := hD.keeps (ds := [30, 31, 32, 33, 34, 35, 36, 37, 38, 39, 40, 41, 42, 43, 44, 45, 46, 47]) (by kernel_rfl)
                have hds := hD.size
                have hsz9 : a1.tmps.size = 53 := hD.size
                have hdd := hD.defers
                have hst := hD.st
                refine tail_val (i := 17) (v := .bool false) (W' := W2) none 0 rfl rfl rfl (fun c hc => by cases hc) (by go_simp) (by rw [hsz9]; decide) ?_
                intro a3 s3 d3 f3 o3
                have hkp3 := keeps_then hkp2 o3 (by decide)
                have e := act_mix [30, 31, 32, 33, 34, 35, 36, 37, 38, 39, 40, 41, 42, 43, 44, 45, 46, 47] (s3.trans hds) (d3.trans hdd) (fun i _ hc => hkp3 i hc)
                have hg9 : (fun i => a3.tmps.getD i undef) 47 = .bool false := f3
                generalize (fun i => a3.tmps.getD i undef) = g' at e hg9
                refine wpListIn_nil ?_
                rw [e]
                clear e hD hkp2 hkp3 s3 d3 f3 o3 hds hdd hsz9 e42 e46
                simp only [mix, List.contains_cons, List.contains_nil, Nat.reduceAdd, Nat.reduceBEq, Bool.or_false, Bool.or_true, cond_true, cond_false, hg9]
                clear hg9
                have HNX := hid (HB2.out.trans (hst.mono HB2.out.size))
                have HNY := hid (HY2.out.at_ hst)
                clear hst HZ HB2 HBW HT2 HL2 HY2 HR HBR HTR HLR
                go_wp2
                go_roundw
                case rel => exact ⟨k + 1, by omega, by go_num, ⟨y, by rw [HST.out]; first | rfl | (show Value.slice _ _ _ = Value.slice _ (nthA m _).length _; rw [nthA_len]), by rw [HST.out]; exact HNY.out⟩, HNX.out⟩
                case measure => first | (simp [intOf]; done) | (simp [intOf]; omega)
          | some q =>
            rw [hq] at hv hy
            replace hv : u8 = .slice y.1 m.ss.length y.2 := by rw [hv]; show Value.slice y.1 (nthA m q).length y.2 = _; rw [nthA_len]
            subst hv
            have hz0 : ((m.ss.length : Int) == 0) = false := by rw [beq_eq_false_iff_ne]; omega
            have HYQ := hid (show IntsAt y (nthA m q) wr from hy)
            go_wp2_with fail
            refine K1.out.mono ?_
            rintro e w2 ⟨z, rfl, hz, hb⟩
            have HZ := hid hz
            have HB2 := hid (HR.out.trans (hb.mono HR.out.size))
            have HBW := hid (HBR.out.trans (hb.mono HBR.out.size))
            have HT2 := hid (HTR.out.keep hb)
            have HL2 := hid (HLR.out.keep hb)
            have HY2 := hid (hy.at_ hb)
            clear hz hb K1 t0 t1 t2 t3 hy
            rw [nthA_len]
            by_cases hl : nthV m k < nthV m q
            · have hlB : decide (nthV m k < nthV m q) = true := decide_eq_true hl
              cases hg : nthG m lo hi k with
              | true =>
                have HG := hid hg
                have HST := hid (show bqT m lo hi (k + 1) = some k by rw [bqT, hq]; simp [hg, hl])
                clear hg
                go_wp2
                refine (wpIn_wide (n := 0)).1 ?_
                refine wpIn_region_each 17 (fun i v W' => match i with | 0 => v = .slice y.1 m.ss.length y.2 | 1 => v = .int .i64 (m.ss.length : Int) | 2 => v = .bool false | 3 => v = .bool false | 4 => v = .agg #[.slice A m.old.length c, .int .i64 m.nw, .slice A2 m.ss.length c2, .slice A3 m.js.length c3] | 5 => v = .slice z.1 m.ss.length z.2 | 6 => v = .int .i64 (nthV m k) | 7 => v = .agg #[.slice A m.old.length c, .int .i64 m.nw, .slice A2 m.ss.length c2, .slice A3 m.js.length c3] | 8 => v = .slice y.1 m.ss.length y.2 | 9 => v = .int .i64 (nthV m q) | 10 => v = .bool true | 11 => v = .bool true | 12 => v = .bool true | 13 => v = .agg #[.slice A m.old.length c, .int .i64 m.nw, .slice A2 m.ss.length c2, .slice A3 m.js.length c3] | 14 => v = .slice z.1 m.ss.length z.2 | 15 => v = .agg #[.int .i64 lo, .int .i64 hi] | 16 => v = .bool true | _ => True) (fun A B => Below A.heap.size A B) (fun _ _ => True) (by kernel_rfl) (by kernel_rfl) ?_ (fun h k => h.trans (k.mono h.size)) ⟨rfl, rfl, rfl, Nat.le_refl _, fun _ _ => rfl⟩ trivial (by kernel_rfl) ?_ ?_
                · intro i v W1 W2 hb h
                  match i, h with
                  | 0, h => exact h
                  | 1, h => exact h
                  | 2, h => exact h
                  | 3, h => exact h
                  | 4, h => exact h
                  | 5, h => exact h
                  | 6, h => exact h
                  | 7, h => exact h
                  | 8, h => exact h
                  | 9, h => exact h
                  | 10, h => exact h
                  | 11, h => exact h
                  | 12, h => exact h
                  | 13, h => exact h
                  | 14, h => exact h
                  | 15, h => exact h
                  | 16, h => exact h
                  | i + 17, h => trivial
                · refine ⟨?_, ?_, ?_, ?_, ?_, ?_, ?_, ?_, ?_, ?_, ?_, ?_, ?_, ?_, ?_, ?_, ?_, trivial⟩
                  · -- 0
                    intro li a1 W2 hA K hK
                    have e8 := hA.par 8 (by kernel_rfl)
                    refine opStep none 0 rfl rfl (fun c hc => by cases hc) ?_
                    go_simp
                    exact hK _ _ rfl (Below.refl _ _) trivial
                  · -- 1
                    intro li a1 W2 hA K hK
                    have e30 : a1.tmps.getD 30 undef = .slice y.1 m.ss.length y.2 := hA.val 0 30 (by kernel_rfl) (by kernel_rfl)
                    refine opStep none 0 rfl rfl (fun c hc => by cases hc) ?_
                    go_simp
                    exact hK _ _ rfl (Below.refl _ _) trivial
                  · -- 2
                    intro li a1 W2 hA K hK
                    have e31 : a1.tmps.getD 31 undef = .int .i64 (m.ss.length : Int) := hA.val 1 31 (by kernel_rfl) (by kernel_rfl)
                    refine opStep none 0 rfl rfl (fun c hc => by cases hc) ?_
                    go_simp
                    exact hK _ _ (by first | rfl | exact congrArg Value.bool hz0) (Below.refl _ _) trivial
                  · -- 3
                    intro li a1 W2 hA K hK
                    have e32 : a1.tmps.getD 32 undef = .bool false := hA.val 2 32 (by kernel_rfl) (by kernel_rfl)
                    refine opStep none 0 rfl rfl (fun c hc => by cases hc) ?_
                    go_simp
                    exact hK _ _ rfl (Below.refl _ _) trivial
                  · -- 4
                    intro li a1 W2 hA K hK
                    have eg33 : a1.tmps.getD 33 undef = .bool false := hA.val 3 33 (by kernel_rfl) (by kernel_rfl)
                    have e2 := hA.par 2 (by kernel_rfl)
                    obtain ⟨q1, q2, q3, q4⟩ := (HT2.out.keep hA.st).c4
                    refine opStep none 0 rfl (wanted_yes (j := 3) (d := 33) (b := false) rfl (by kernel_rfl) eg33) (fun c hc => by cases hc) ?_
                    go_simp
                    exact hK _ _ rfl (Below.refl _ _) trivial
                  · -- 5
                    intro li a1 W2 hA K hK
                    have eg33 : a1.tmps.getD 33 undef = .bool false := hA.val 3 33 (by kernel_rfl) (by kernel_rfl)
                    have e10 := hA.par 10 (by kernel_rfl)
                    refine opStep none 0 rfl (wanted_yes (j := 3) (d := 33) (b := false) rfl (by kernel_rfl) eg33) (fun c hc => by cases hc) ?_
                    go_simp
                    exact hK _ _ rfl (Below.refl _ _) trivial
                  · -- 6
                    intro li a1 W2 hA K hK
                    have eg33 : a1.tmps.getD 33 undef = .bool false := hA.val 3 33 (by kernel_rfl) (by kernel_rfl)
                    have e34 : a1.tmps.getD 34 undef = .agg #[.slice A m.old.length c, .int .i64 m.nw, .slice A2 m.ss.length c2, .slice A3 m.js.length c3] := hA.val 4 34 (by kernel_rfl) (by kernel_rfl)
                    have e35 : a1.tmps.getD 35 undef = .slice z.1 m.ss.length z.2 := hA.val 5 35 (by kernel_rfl) (by kernel_rfl)
                    refine opStep none 0 rfl (wanted_yes (j := 3) (d := 33) (b := false) rfl (by kernel_rfl) eg33) (fun c hc => by cases hc) ?_
                    go_simp
                    have KM := qmoved_any m A c A2 c2 A3 c3 z.1 z.2 (nthA m k) W2 (HA.out.at_ (HBW.out.trans (hA.st.mono HBW.out.size))) (HZ.out.at_ hA.st).1 (by rw [nthA_len]; exact Nat.le_refl _) (by omega)
                    rw [nthA_len] at KM
                    refine KM.mono ?_
                    rintro e W3 ⟨rfl, hb3⟩
                    exact hK _ _ rfl hb3 trivial
                  · -- 7
                    intro li a1 W2 hA K hK
                    have eg33 : a1.tmps.getD 33 undef = .bool false := hA.val 3 33 (by kernel_rfl) (by kernel_rfl)
                    have e2 := hA.par 2 (by kernel_rfl)
                    obtain ⟨q1, q2, q3, q4⟩ := (HT2.out.keep hA.st).c4
                    refine opStep none 0 rfl (wanted_yes (j := 3) (d := 33) (b := false) rfl (by kernel_rfl) eg33) (fun c hc => by cases hc) ?_
                    go_simp
                    exact hK _ _ rfl (Below.refl _ _) trivial
                  · -- 8
                    intro li a1 W2 hA K hK
                    have eg33 : a1.tmps.getD 33 undef = .bool false := hA.val 3 33 (by kernel_rfl) (by kernel_rfl)
                    have e8 := hA.par 8 (by kernel_rfl)
                    refine opStep none 0 rfl (wanted_yes (j := 3) (d := 33) (b := false) rfl (by kernel_rfl) eg33) (fun c hc => by cases hc) ?_
                    go_simp
                    exact hK _ _ rfl (Below.refl _ _) trivial
                  · -- 9
                    intro li a1 W2 hA K hK
                    have eg33 : a1.tmps.getD 33 undef = .bool false := hA.val 3 33 (by kernel_rfl) (by kernel_rfl)
                    have e37 : a1.tmps.getD 37 undef = .agg #[.slice A m.old.length c, .int .i64 m.nw, .slice A2 m.ss.length c2, .slice A3 m.js.length c3] := hA.val 7 37 (by kernel_rfl) (by kernel_rfl)
                    have e38 : a1.tmps.getD 38 undef = .slice y.1 m.ss.length y.2 := hA.val 8 38 (by kernel_rfl) (by kernel_rfl)
                    refine opStep none 0 rfl (wanted_yes (j := 3) (d := 33) (b := false) rfl (by kernel_rfl) eg33) (fun c hc => by cases hc) ?_
                    go_simp
                    have KM := qmoved_any m A c A2 c2 A3 c3 y.1 y.2 (nthA m q) W2 (HA.out.at_ (HBW.out.trans (hA.st.mono HBW.out.size))) (HY2.out.at_ hA.st).1 (by rw [nthA_len]; exact Nat.le_refl _) (by omega)
                    rw [nthA_len] at KM
                    refine KM.mono ?_
                    rintro e W3 ⟨rfl, hb3⟩
                    exact hK _ _ rfl hb3 trivial
                  · -- 10
                    intro li a1 W2 hA K hK
                    have eg33 : a1.tmps.getD 33 undef = .bool false := hA.val 3 33 (by kernel_rfl) (by kernel_rfl)
                    have e36 : a1.tmps.getD 36 undef = .int .i64 (nthV m k) := hA.val 6 36 (by kernel_rfl) (by kernel_rfl)
                    have e39 : a1.tmps.getD 39 undef = .int .i64 (nthV m q) := hA.val 9 39 (by kernel_rfl) (by kernel_rfl)
                    refine opStep none 0 rfl (wanted_yes (j := 3) (d := 33) (b := false) rfl (by kernel_rfl) eg33) (fun c hc => by cases hc) ?_
                    go_simp
                    exact hK _ _ (by first | rfl | exact congrArg Value.bool hlB) (Below.refl _ _) trivial
                  · -- 11
                    intro li a1 W2 hA K hK
                    have e33 : a1.tmps.getD 33 undef = .bool false := hA.val 3 33 (by kernel_rfl) (by kernel_rfl)
                    have e40 : a1.tmps.getD 40 undef = .bool true := hA.val 10 40 (by kernel_rfl) (by kernel_rfl)
                    refine opStep none 0 rfl rfl (fun c hc => by cases hc) ?_
                    go_simp
                    exact hK _ _ rfl (Below.refl _ _) trivial
                  · -- 12
                    intro li a1 W2 hA K hK
                    have e41 : a1.tmps.getD 41 undef = .bool true := hA.val 11 41 (by kernel_rfl) (by kernel_rfl)
                    refine opStep none 0 rfl rfl (fun c hc => by cases hc) ?_
                    go_simp
                    exact hK _ _ rfl (Below.refl _ _) trivial
                  · -- 13
                    intro li a1 W2 hA K hK
                    have eg42 : a1.tmps.getD 42 undef = .bool true := hA.val 12 42 (by kernel_rfl) (by kernel_rfl)
                    have e2 := hA.par 2 (by kernel_rfl)
                    obtain ⟨q1, q2, q3, q4⟩ := (HT2.out.keep hA.st).c4
                    refine opStep none 0 rfl (wanted_yes (j := 12) (d := 42) (b := true) rfl (by kernel_rfl) eg42) (fun c hc => by cases hc) ?_
                    go_simp
                    exact hK _ _ rfl (Below.refl _ _) trivial
                  · -- 14
                    intro li a1 W2 hA K hK
                    have eg42 : a1.tmps.getD 42 undef = .bool true := hA.val 12 42 (by kernel_rfl) (by kernel_rfl)
                    have e10 := hA.par 10 (by kernel_rfl)
                    refine opStep none 0 rfl (wanted_yes (j := 12) (d := 42) (b := true) rfl (by kernel_rfl) eg42) (fun c hc => by cases hc) ?_
                    go_simp
                    exact hK _ _ rfl (Below.refl _ _) trivial
                  · -- 15
                    intro li a1 W2 hA K hK
                    have eg42 : a1.tmps.getD 42 undef = .bool true := hA.val 12 42 (by kernel_rfl) (by kernel_rfl)
                    have e3 := hA.par 3 (by kernel_rfl)
                    obtain ⟨q1, q2⟩ := (HL2.out.keep hA.st).c2
                    refine opStep none 0 rfl (wanted_yes (j := 12) (d := 42) (b := true) rfl (by kernel_rfl) eg42) (fun c hc => by cases hc) ?_
                    go_simp
                    exact hK _ _ rfl (Below.refl _ _) trivial
                  · -- 16
                    intro li a1 W2 hA K hK
                    have eg42 : a1.tmps.getD 42 undef = .bool true := hA.val 12 42 (by kernel_rfl) (by kernel_rfl)
                    have e43 : a1.tmps.getD 43 undef = .agg #[.slice A m.old.length c, .int .i64 m.nw, .slice A2 m.ss.length c2, .slice A3 m.js.length c3] := hA.val 13 43 (by kernel_rfl) (by kernel_rfl)
                    have e44 : a1.tmps.getD 44 undef = .slice z.1 m.ss.length z.2 := hA.val 14 44 (by kernel_rfl) (by kernel_rfl)
                    have e45 : a1.tmps.getD 45 undef = .agg #[.int .i64 lo, .int .i64 hi] := hA.val 15 45 (by kernel_rfl) (by kernel_rfl)
                    refine opStep none 0 rfl (wanted_yes (j := 12) (d := 42) (b := true) rfl (by kernel_rfl) eg42) (fun c hc => by cases hc) ?_
                    go_simp
                    have KM := qright_any m A c A2 c2 A3 c3 z.1 z.2 (nthA m k) lo hi W2 (HA.out.at_ (HBW.out.trans (hA.st.mono HBW.out.size))) OK.out (HZ.out.at_ hA.st).1 (nthA_len m k) (HZ.out.at_ hA.st).2.1 (HZ.out.at_ hA.st).2.2
                    rw [nthA_len, show rightB m (fnO (nthA m k)) lo hi = true from HG.out] at KM
                    refine KM.mono ?_
                    rintro e W3 ⟨rfl, hb3⟩
                    exact hK _ _ rfl hb3 trivial
                · intro li a1 W2 hD
                  have e42 : a1.tmps.getD 42 undef = .bool true := hD.val 12 42 (by kernel_rfl) (by kernel_rfl)
                  have e46 : a1.tmps.getD 46 undef = .bool true := hD.val 16 46 (by kernel_rfl) (by kernel_rfl)
                  have hkp2 := hD.keeps (ds := [30, 31, 32, 33, 34, 35, 36, 37, 38, 39, 40, 41, 42, 43, 44, 45, 46, 47]) (by kernel_rfl)
                  have hds := hD.size
                  have hsz9 : a1.tmps.size = 53 := hD.size
                  have hdd := hD.defers
                  have hst := hD.st
                  refine tail_val (i := 17) (v := .bool true) (W' := W2) none 0 rfl rfl rfl (fun c hc => by cases hc) (by go_simp) (by rw [hsz9]; decide) ?_
                  intro a3 s3 d3 f3 o3
                  have hkp3 := keeps_then hkp2 o3 (by decide)
                  have e := act_mix [30, 31, 32, 33, 34, 35, 36, 37, 38, 39, 40, 41, 42, 43, 44, 45, 46, 47] (s3.trans hds) (d3.trans hdd) (fun i _ hc => hkp3 i hc)
                  have hg9 : (fun i => a3.tmps.getD i undef) 47 = .bool true := f3
                  generalize (fun i => a3.tmps.getD i undef) = g' at e hg9
                  refine wpListIn_nil ?_
                  rw [e]
                  clear e hD hkp2 hkp3 s3 d3 f3 o3 hds hdd hsz9 e42 e46
                  simp only [mix, List.contains_cons, List.contains_nil, Nat.reduceAdd, Nat.reduceBEq, Bool.or_false, Bool.or_true, cond_true, cond_false, hg9]
                  clear hg9
                  have HNX := hid (HB2.out.trans (hst.mono HB2.out.size))
                  have HNY := hid (HZ.out.at_ hst)
                  clear hst HZ HB2 HBW HT2 HL2 HY2 HR HBR HTR HLR
                  go_wp2
                  go_roundw
                  case rel => exact ⟨k + 1, by omega, by go_num, ⟨z, by rw [HST.out]; first | rfl | (show Value.slice _ _ _ = Value.slice _ (nthA m _).length _; rw [nthA_len]), by rw [HST.out]; exact HNY.out⟩, HNX.out⟩
                  case measure => first | (simp [intOf]; done) | (simp [intOf]; omega)
              | false =>
                have HG := hid hg
                have HST := hid (show bqT m lo hi (k + 1) = some q by rw [bqT, hq]; simp [hg, hl])
                clear hg
                go_wp2
                refine (wpIn_wide (n := 0)).1 ?_
                refine wpIn_region_each 17 (fun i v W' => match i with | 0 => v = .slice y.1 m.ss.length y.2 | 1 => v = .int .i64 (m.ss.length : Int) | 2 => v = .bool false | 3 => v = .bool false | 4 => v = .agg #[.slice A m.old.length c, .int .i64 m.nw, .slice A2 m.ss.length c2, .slice A3 m.js.length c3] | 5 => v = .slice z.1 m.ss.length z.2 | 6 => v = .int .i64 (nthV m k) | 7 => v = .agg #[.slice A m.old.length c, .int .i64 m.nw, .slice A2 m.ss.length c2, .slice A3 m.js.length c3] | 8 => v = .slice y.1 m.ss.length y.2 | 9 => v = .int .i64 (nthV m q) | 10 => v = .bool true | 11 => v = .bool true | 12 => v = .bool true | 13 => v = .agg #[.slice A m.old.length c, .int .i64 m.nw, .slice A2 m.ss.length c2, .slice A3 m.js.length c3] | 14 => v = .slice z.1 m.ss.length z.2 | 15 => v = .agg #[.int .i64 lo, .int .i64 hi] | 16 => v = .bool false | _ => True) (fun A B => Below A.heap.size A B) (fun _ _ => True) (by kernel_rfl) (by kernel_rfl) ?_ (fun h k => h.trans (k.mono h.size)) ⟨rfl, rfl, rfl, Nat.le_refl _, fun _ _ => rfl⟩ trivial (by kernel_rfl) ?_ ?_
                · intro i v W1 W2 hb h
                  match i, h with
                  | 0, h => exact h
                  | 1, h => exact h
                  | 2, h => exact h
                  | 3, h => exact h
                  | 4, h => exact h
                  | 5, h => exact h
                  | 6, h => exact h
                  | 7, h => exact h
                  | 8, h => exact h
                  | 9, h => exact h
                  | 10, h => exact h
                  | 11, h => exact h
                  | 12, h => exact h
                  | 13, h => exact h
                  | 14, h => exact h
                  | 15, h => exact h
                  | 16, h => exact h
                  | i + 17, h => trivial
                · refine ⟨?_, ?_, ?_, ?_, ?_, ?_, ?_, ?_, ?_, ?_, ?_, ?_, ?_, ?_, ?_, ?_, ?_, trivial⟩
                  · -- 0
                    intro li a1 W2 hA K hK
                    have e8 := hA.par 8 (by kernel_rfl)
                    refine opStep none 0 rfl rfl (fun c hc => by cases hc) ?_
                    go_simp
                    exact hK _ _ rfl (Below.refl _ _) trivial
                  · -- 1
                    intro li a1 W2 hA K hK
                    have e30 : a1.tmps.getD 30 undef = .slice y.1 m.ss.length y.2 := hA.val 0 30 (by kernel_rfl) (by kernel_rfl)
                    refine opStep none 0 rfl rfl (fun c hc => by cases hc) ?_
                    go_simp
                    exact hK _ _ rfl (Below.refl _ _) trivial
                  · -- 2
                    intro li a1 W2 hA K hK
                    have e31 : a1.tmps.getD 31 undef = .int .i64 (m.ss.length : Int) := hA.val 1 31 (by kernel_rfl) (by kernel_rfl)
                    refine opStep none 0 rfl rfl (fun c hc => by cases hc) ?_
                    go_simp
                    exact hK _ _ (by first | rfl | exact congrArg Value.bool hz0) (Below.refl _ _) trivial
                  · -- 3
                    intro li a1 W2 hA K hK
                    have e32 : a1.tmps.getD 32 undef = .bool false := hA.val 2 32 (by kernel_rfl) (by kernel_rfl)
                    refine opStep none 0 rfl rfl (fun c hc => by cases hc) ?_
                    go_simp
                    exact hK _ _ rfl (Below.refl _ _) trivial
                  · -- 4
                    intro li a1 W2 hA K hK
                    have eg33 : a1.tmps.getD 33 undef = .bool false := hA.val 3 33 (by kernel_rfl) (by kernel_rfl)
                    have e2 := hA.par 2 (by kernel_rfl)
                    obtain ⟨q1, q2, q3, q4⟩ := (HT2.out.keep hA.st).c4
                    refine opStep none 0 rfl (wanted_yes (j := 3) (d := 33) (b := false) rfl (by kernel_rfl) eg33) (fun c hc => by cases hc) ?_
                    go_simp
                    exact hK _ _ rfl (Below.refl _ _) trivial
                  · -- 5
                    intro li a1 W2 hA K hK
                    have eg33 : a1.tmps.getD 33 undef = .bool false := hA.val 3 33 (by kernel_rfl) (by kernel_rfl)
                    have e10 := hA.par 10 (by kernel_rfl)
                    refine opStep none 0 rfl (wanted_yes (j := 3) (d := 33) (b := false) rfl (by kernel_rfl) eg33) (fun c hc => by cases hc) ?_
                    go_simp
                    exact hK _ _ rfl (Below.refl _ _) trivial
                  · -- 6
                    intro li a1 W2 hA K hK
                    have eg33 : a1.tmps.getD 33 undef = .bool false := hA.val 3 33 (by kernel_rfl) (by kernel_rfl)
                    have e34 : a1.tmps.getD 34 undef = .agg #[.slice A m.old.length c, .int .i64 m.nw, .slice A2 m.ss.length c2, .slice A3 m.js.length c3] := hA.val 4 34 (by kernel_rfl) (by kernel_rfl)
                    have e35 : a1.tmps.getD 35 undef = .slice z.1 m.ss.length z.2 := hA.val 5 35 (by kernel_rfl) (by kernel_rfl)
                    refine opStep none 0 rfl (wanted_yes (j := 3) (d := 33) (b := false) rfl (by kernel_rfl) eg33) (fun c hc => by cases hc) ?_
                    go_simp
                    have KM := qmoved_any m A c A2 c2 A3 c3 z.1 z.2 (nthA m k) W2 (HA.out.at_ (HBW.out.trans (hA.st.mono HBW.out.size))) (HZ.out.at_ hA.st).1 (by rw [nthA_len]; exact Nat.le_refl _) (by omega)
                    rw [nthA_len] at KM
                    refine KM.mono ?_
                    rintro e W3 ⟨rfl, hb3⟩
                    exact hK _ _ rfl hb3 trivial
                  · -- 7
                    intro li a1 W2 hA K hK
                    have eg33 : a1.tmps.getD 33 undef = .bool false := hA.val 3 33 (by kernel_rfl) (by kernel_rfl)
                    have e2 := hA.par 2 (by kernel_rfl)
                    obtain ⟨q1, q2, q3, q4⟩ := (HT2.out.keep hA.st).c4
                    refine opStep none 0 rfl (wanted_yes (j := 3) (d := 33) (b := false) rfl (by kernel_rfl) eg33) (fun c hc => by cases hc) ?_
                    go_simp
                    exact hK _ _ rfl (Below.refl _ _) trivial
                  · -- 8
                    intro li a1 W2 hA K hK
                    have eg33 : a1.tmps.getD 33 undef = .bool false := hA.val 3 33 (by kernel_rfl) (by kernel_rfl)
                    have e8 := hA.par 8 (by kernel_rfl)
                    refine opStep none 0 rfl (wanted_yes (j := 3) (d := 33) (b := false) rfl (by kernel_rfl) eg33) (fun c hc => by cases hc) ?_
                    go_simp
                    exact hK _ _ rfl (Below.refl _ _) trivial
                  · -- 9
                    intro li a1 W2 hA K hK
                    have eg33 : a1.tmps.getD 33 undef = .bool false := hA.val 3 33 (by kernel_rfl) (by kernel_rfl)
                    have e37 : a1.tmps.getD 37 undef = .agg #[.slice A m.old.length c, .int .i64 m.nw, .slice A2 m.ss.length c2, .slice A3 m.js.length c3] := hA.val 7 37 (by kernel_rfl) (by kernel_rfl)
                    have e38 : a1.tmps.getD 38 undef = .slice y.1 m.ss.length y.2 := hA.val 8 38 (by kernel_rfl) (by kernel_rfl)
                    refine opStep none 0 rfl (wanted_yes (j := 3) (d := 33) (b := false) rfl (by kernel_rfl) eg33) (fun c hc => by cases hc) ?_
                    go_simp
                    have KM := qmoved_any m A c A2 c2 A3 c3 y.1 y.2 (nthA m q) W2 (HA.out.at_ (HBW.out.trans (hA.st.mono HBW.out.size))) (HY2.out.at_ hA.st).1 (by rw [nthA_len]; exact Nat.le_refl _) (by omega)
                    rw [nthA_len] at KM
                    refine KM.mono ?_
                    rintro e W3 ⟨rfl, hb3⟩
                    exact hK _ _ rfl hb3 trivial
                  · -- 10
                    intro li a1 W2 hA K hK
                    have eg33 : a1.tmps.getD 33 undef = .bool false := hA.val 3 33 (by kernel_rfl) (by kernel_rfl)
                    have e36 : a1.tmps.getD 36 undef = .int .i64 (nthV m k) := hA.val 6 36 (by kernel_rfl) (by kernel_rfl)
                    have e39 : a1.tmps.getD 39 undef = .int .i64 (nthV m q) := hA.val 9 39 (by kernel_rfl) (by kernel_rfl)
                    refine opStep none 0 rfl (wanted_yes (j := 3) (d := 33) (b := false) rfl (by kernel_rfl) eg33) (fun c hc => by cases hc) ?_
                    go_simp
                    exact hK _ _ (by first | rfl | exact congrArg Value.bool hlB) (Below.refl _ _) trivial
                  · -- 11
                    intro li a1 W2 hA K hK
                    have e33 : a1.tmps.getD 33 undef = .bool false := hA.val 3 33 (by kernel_rfl) (by kernel_rfl)
                    have e40 : a1.tmps.getD 40 undef = .bool true := hA.val 10 40 (by kernel_rfl) (by kernel_rfl)
                    refine opStep none 0 rfl rfl (fun c hc => by cases hc) ?_
                    go_simp
                    exact hK _ _ rfl (Below.refl _ _) trivial
                  · -- 12
                    intro li a1 W2 hA K hK
                    have e41 : a1.tmps.getD 41 undef = .bool true := hA.val 11 41 (by kernel_rfl) (by kernel_rfl)
                    refine opStep none 0 rfl rfl (fun c hc => by cases hc) ?_
                    go_simp
                    exact hK _ _ rfl (Below.refl _ _) trivial
                  · -- 13
                    intro li a1 W2 hA K hK
                    have eg42 : a1.tmps.getD 42 undef = .bool true := hA.val 12 42 (by kernel_rfl) (by kernel_rfl)
                    have e2 := hA.par 2 (by kernel_rfl)
                    obtain ⟨q1, q2, q3, q4⟩ := (HT2.out.keep hA.st).c4
                    refine opStep none 0 rfl (wanted_yes (j := 12) (d := 42) (b := true) rfl (by kernel_rfl) eg42) (fun c hc => by cases hc) ?_
                    go_simp
                    exact hK _ _ rfl (Below.refl _ _) trivial
                  · -- 14
                    intro li a1 W2 hA K hK
                    have eg42 : a1.tmps.getD 42 undef = .bool true := hA.val 12 42 (by kernel_rfl) (by kernel_rfl)
                    have e10 := hA.par 10 (by kernel_rfl)
                    refine opStep none 0 rfl (wanted_yes (j := 12) (d := 42) (b := true) rfl (by kernel_rfl) eg42) (fun c hc => by cases hc) ?_
                    go_simp
                    exact hK _ _ rfl (Below.refl _ _) trivial
                  · -- 15
                    intro li a1 W2 hA K hK
                    have eg42 : a1.tmps.getD 42 undef = .bool true := hA.val 12 42 (by kernel_rfl) (by kernel_rfl)
                    have e3 := hA.par 3 (by kernel_rfl)
                    obtain ⟨q1, q2⟩ := (HL2.out.keep hA.st).c2
                    refine opStep none 0 rfl (wanted_yes (j := 12) (d := 42) (b := true) rfl (by kernel_rfl) eg42) (fun c hc => by cases hc) ?_
                    go_simp
                    exact hK _ _ rfl (Below.refl _ _) trivial
                  · -- 16
                    intro li a1 W2 hA K hK
                    have eg42 : a1.tmps.getD 42 undef = .bool true := hA.val 12 42 (by kernel_rfl) (by kernel_rfl)
                    have e43 : a1.tmps.getD 43 undef = .agg #[.slice A m.old.length c, .int .i64 m.nw, .slice A2 m.ss.length c2, .slice A3 m.js.length c3] := hA.val 13 43 (by kernel_rfl) (by kernel_rfl)
                    have e44 : a1.tmps.getD 44 undef = .slice z.1 m.ss.length z.2 := hA.val 14 44 (by kernel_rfl) (by kernel_rfl)
                    have e45 : a1.tmps.getD 45 undef = .agg #[.int .i64 lo, .int .i64 hi] := hA.val 15 45 (by kernel_rfl) (by kernel_rfl)
                    refine opStep none 0 rfl (wanted_yes (j := 12) (d := 42) (b := true) rfl (by kernel_rfl) eg42) (fun c hc => by cases hc) ?_
                    go_simp
                    have KM := qright_any m A c A2 c2 A3 c3 z.1 z.2 (nthA m k) lo hi W2 (HA.out.at_ (HBW.out.trans (hA.st.mono HBW.out.size))) OK.out (HZ.out.at_ hA.st).1 (nthA_len m k) (HZ.out.at_ hA.st).2.1 (HZ.out.at_ hA.st).2.2
                    rw [nthA_len, show rightB m (fnO (nthA m k)) lo hi = false from HG.out] at KM
                    refine KM.mono ?_
                    rintro e W3 ⟨rfl, hb3⟩
                    exact hK _ _ rfl hb3 trivial
                · intro li a1 W2 hD
                  have e42 : a1.tmps.getD 42 undef = .bool true := hD.val 12 42 (by kernel_rfl) (by kernel_rfl)
                  have e46 : a1.tmps.getD 46 undef = .bool false := hD.val 16 46 (by kernel_rfl) (by kernel_rfl)
                  have hkp2 := hD.keeps (ds := [30, 31, 32, 33, 34, 35, 36, 37, 38, 39, 40, 41, 42, 43, 44, 45, 46, 47]) (by kernel_rfl)
                  have hds := hD.size
                  have hsz9 : a1.tmps.size = 53 := hD.size
                  have hdd := hD.defers
                  have hst := hD.st
                  refine tail_val (i := 17) (v := .bool false) (W' := W2) none 0 rfl rfl rfl (fun c hc => by cases hc) (by go_simp) (by rw [hsz9]; decide) ?_
                  intro a3 s3 d3 f3 o3
                  have hkp3 := keeps_then hkp2 o3 (by decide)
                  have e := act_mix [30, 31, 32, 33, 34, 35, 36, 37, 38, 39, 40, 41, 42, 43, 44, 45, 46, 47] (s3.trans hds) (d3.trans hdd) (fun i _ hc => hkp3 i hc)
                  have hg9 : (fun i => a3.tmps.getD i undef) 47 = .bool false := f3
                  generalize (fun i => a3.tmps.getD i undef) = g' at e hg9
                  refine wpListIn_nil ?_
                  rw [e]
                  clear e hD hkp2 hkp3 s3 d3 f3 o3 hds hdd hsz9 e42 e46
                  simp only [mix, List.contains_cons, List.contains_nil, Nat.reduceAdd, Nat.reduceBEq, Bool.or_false, Bool.or_true, cond_true, cond_false, hg9]
                  clear hg9
                  have HNX := hid (HB2.out.trans (hst.mono HB2.out.size))
                  have HNY := hid (HY2.out.at_ hst)
                  clear hst HZ HB2 HBW HT2 HL2 HY2 HR HBR HTR HLR
                  go_wp2
                  go_roundw
                  case rel => exact ⟨k + 1, by omega, by go_num, ⟨y, by rw [HST.out]; first | rfl | (show Value.slice _ _ _ = Value.slice _ (nthA m _).length _; rw [nthA_len]), by rw [HST.out]; exact HNY.out⟩, HNX.out⟩
                  case measure => first | (simp [intOf]; done) | (simp [intOf]; omega)
            · have hlB : decide (nthV m k < nthV m q) = false := decide_eq_false hl
              have HST := hid (show bqT m lo hi (k + 1) = some q by rw [bqT, hq]; simp [hl])
              go_wp2
              refine (wpIn_wide (n := 0)).1 ?_
              refine wpIn_region_each 17 (fun i v W' => match i with | 0 => v = .slice y.1 m.ss.length y.2 | 1 => v = .int .i64 (m.ss.length : Int) | 2 => v = .bool false | 3 => v = .bool false | 4 => v = .agg #[.slice A m.old.length c, .int .i64 m.nw, .slice A2 m.ss.length c2, .slice A3 m.js.length c3] | 5 => v = .slice z.1 m.ss.length z.2 | 6 => v = .int .i64 (nthV m k) | 7 => v = .agg #[.slice A m.old.length c, .int .i64 m.nw, .slice A2 m.ss.length c2, .slice A3 m.js.length c3] | 8 => v = .slice y.1 m.ss.length y.2 | 9 => v = .int .i64 (nthV m q) | 10 => v = .bool false | 11 => v = .bool false | 12 => v = .bool false | 13 => v = undef | 14 => v = undef | 15 => v = undef | 16 => v = undef | _ => True) (fun A B => Below A.heap.size A B) (fun _ _ => True) (by kernel_rfl) (by kernel_rfl) ?_ (fun h k => h.trans (k.mono h.size)) ⟨rfl, rfl, rfl, Nat.le_refl _, fun _ _ => rfl⟩ trivial (by kernel_rfl) ?_ ?_
              · intro i v W1 W2 hb h
                match i, h with
                | 0, h => exact h
                | 1, h => exact h
                | 2, h => exact h
                | 3, h => exact h
                | 4, h => exact h
                | 5, h => exact h
                | 6, h => exact h
                | 7, h => exact h
                | 8, h => exact h
                | 9, h => exact h
                | 10, h => exact h
                | 11, h => exact h
                | 12, h => exact h
                | 13, h => exact h
                | 14, h => exact h
                | 15, h => exact h
                | 16, h => exact h
                | i + 17, h => trivial
              · refine ⟨?_, ?_, ?_, ?_, ?_, ?_, ?_, ?_, ?_, ?_, ?_, ?_, ?_, ?_, ?_, ?_, ?_, trivial⟩
                · -- 0
                  intro li a1 W2 hA K hK
                  have e8 := hA.par 8 (by kernel_rfl)
                  refine opStep none 0 rfl rfl (fun c hc => by cases hc) ?_
                  go_simp
                  exact hK _ _ rfl (Below.refl _ _) trivial
                · -- 1
                  intro li a1 W2 hA K hK
                  have e30 : a1.tmps.getD 30 undef = .slice y.1 m.ss.length y.2 := hA.val 0 30 (by kernel_rfl) (by kernel_rfl)
                  refine opStep none 0 rfl rfl (fun c hc => by cases hc) ?_
                  go_simp
                  exact hK _ _ rfl (Below.refl _ _) trivial
                · -- 2
                  intro li a1 W2 hA K hK
                  have e31 : a1.tmps.getD 31 undef = .int .i64 (m.ss.length : Int) := hA.val 1 31 (by kernel_rfl) (by kernel_rfl)
                  refine opStep none 0 rfl rfl (fun c hc => by cases hc) ?_
                  go_simp
                  exact hK _ _ (by first | rfl | exact congrArg Value.bool hz0) (Below.refl _ _) trivial
                · -- 3
                  intro li a1 W2 hA K hK
                  have e32 : a1.tmps.getD 32 undef = .bool false := hA.val 2 32 (by kernel_rfl) (by kernel_rfl)
                  refine opStep none 0 rfl rfl (fun c hc => by cases hc) ?_
                  go_simp
                  exact hK _ _ rfl (Below.refl _ _) trivial
                · -- 4
                  intro li a1 W2 hA K hK
                  have eg33 : a1.tmps.getD 33 undef = .bool false := hA.val 3 33 (by kernel_rfl) (by kernel_rfl)
                  have e2 := hA.par 2 (by kernel_rfl)
                  obtain ⟨q1, q2, q3, q4⟩ := (HT2.out.keep hA.st).c4
                  refine opStep none 0 rfl (wanted_yes (j := 3) (d := 33) (b := false) rfl (by kernel_rfl) eg33) (fun c hc => by cases hc) ?_
                  go_simp
                  exact hK _ _ rfl (Below.refl _ _) trivial
                · -- 5
                  intro li a1 W2 hA K hK
                  have eg33 : a1.tmps.getD 33 undef = .bool false := hA.val 3 33 (by kernel_rfl) (by kernel_rfl)
                  have e10 := hA.par 10 (by kernel_rfl)
                  refine opStep none 0 rfl (wanted_yes (j := 3) (d := 33) (b := false) rfl (by kernel_rfl) eg33) (fun c hc => by cases hc) ?_
                  go_simp
                  exact hK _ _ rfl (Below.refl _ _) trivial
                · -- 6
                  intro li a1 W2 hA K hK
                  have eg33 : a1.tmps.getD 33 undef = .bool false := hA.val 3 33 (by kernel_rfl) (by kernel_rfl)
                  have e34 : a1.tmps.getD 34 undef = .agg #[.slice A m.old.length c, .int .i64 m.nw, .slice A2 m.ss.length c2, .slice A3 m.js.length c3] := hA.val 4 34 (by kernel_rfl) (by kernel_rfl)
                  have e35 : a1.tmps.getD 35 undef = .slice z.1 m.ss.length z.2 := hA.val 5 35 (by kernel_rfl) (by kernel_rfl)
                  refine opStep none 0 rfl (wanted_yes (j := 3) (d := 33) (b := false) rfl (by kernel_rfl) eg33) (fun c hc => by cases hc) ?_
                  go_simp
                  have KM := qmoved_any m A c A2 c2 A3 c3 z.1 z.2 (nthA m k) W2 (HA.out.at_ (HBW.out.trans (hA.st.mono HBW.out.size))) (HZ.out.at_ hA.st).1 (by rw [nthA_len]; exact Nat.le_refl _) (by omega)
                  rw [nthA_len] at KM
                  refine KM.mono ?_
                  rintro e W3 ⟨rfl, hb3⟩
                  exact hK _ _ rfl hb3 trivial
                · -- 7
                  intro li a1 W2 hA K hK
                  have eg33 : a1.tmps.getD 33 undef = .bool false := hA.val 3 33 (by kernel_rfl) (by kernel_rfl)
                  have e2 := hA.par 2 (by kernel_rfl)
                  obtain ⟨q1, q2, q3, q4⟩ := (HT2.out.keep hA.st).c4
                  refine opStep none 0 rfl (wanted_yes (j := 3) (d := 33) (b := false) rfl (by kernel_rfl) eg33) (fun c hc => by cases hc) ?_
                  go_simp
                  exact hK _ _ rfl (Below.refl _ _) trivial
                · -- 8
                  intro li a1 W2 hA K hK
                  have eg33 : a1.tmps.getD 33 undef = .bool false := hA.val 3 33 (by kernel_rfl) (by kernel_rfl)
                  have e8 := hA.par 8 (by kernel_rfl)
                  refine opStep none 0 rfl (wanted_yes (j := 3) (d := 33) (b := false) rfl (by kernel_rfl) eg33) (fun c hc => by cases hc) ?_
                  go_simp
                  exact hK _ _ rfl (Below.refl _ _) trivial
                · -- 9
                  intro li a1 W2 hA K hK
                  have eg33 : a1.tmps.getD 33 undef = .bool false := hA.val 3 33 (by kernel_rfl) (by kernel_rfl)
                  have e37 : a1.tmps.getD 37 undef = .agg #[.slice A m.old.length c, .int .i64 m.nw, .slice A2 m.ss.length c2, .slice A3 m.js.length c3] := hA.val 7 37 (by kernel_rfl) (by kernel_rfl)
                  have e38 : a1.tmps.getD 38 undef = .slice y.1 m.ss.length y.2 := hA.val 8 38 (by kernel_rfl) (by kernel_rfl)
                  refine opStep none 0 rfl (wanted_yes (j := 3) (d := 33) (b := false) rfl (by kernel_rfl) eg33) (fun c hc => by cases hc) ?_
                  go_simp
                  have KM := qmoved_any m A c A2 c2 A3 c3 y.1 y.2 (nthA m q) W2 (HA.out.at_ (HBW.out.trans (hA.st.mono HBW.out.size))) (HY2.out.at_ hA.st).1 (by rw [nthA_len]; exact Nat.le_refl _) (by omega)
                  rw [nthA_len] at KM
                  refine KM.mono ?_
                  rintro e W3 ⟨rfl, hb3⟩
                  exact hK _ _ rfl hb3 trivial
                · -- 10
                  intro li a1 W2 hA K hK
                  have eg33 : a1.tmps.getD 33 undef = .bool false := hA.val 3 33 (by kernel_rfl) (by kernel_rfl)
                  have e36 : a1.tmps.getD 36 undef = .int .i64 (nthV m k) := hA.val 6 36 (by kernel_rfl) (by kernel_rfl)
                  have e39 : a1.tmps.getD 39 undef = .int .i64 (nthV m q) := hA.val 9 39 (by kernel_rfl) (by kernel_rfl)
                  refine opStep none 0 rfl (wanted_yes (j := 3) (d := 33) (b := false) rfl (by kernel_rfl) eg33) (fun c hc => by cases hc) ?_
                  go_simp
                  exact hK _ _ (by first | rfl | exact congrArg Value.bool hlB) (Below.refl _ _) trivial
                · -- 11
                  intro li a1 W2 hA K hK
                  have e33 : a1.tmps.getD 33 undef = .bool false := hA.val 3 33 (by kernel_rfl) (by kernel_rfl)
                  have e40 : a1.tmps.getD 40 undef = .bool false := hA.val 10 40 (by kernel_rfl) (by kernel_rfl)
                  refine opStep none 0 rfl rfl (fun c hc => by cases hc) ?_
                  go_simp
                  exact hK _ _ rfl (Below.refl _ _) trivial
                · -- 12
                  intro li a1 W2 hA K hK
                  have e41 : a1.tmps.getD 41 undef = .bool false := hA.val 11 41 (by kernel_rfl) (by kernel_rfl)
                  refine opStep none 0 rfl rfl (fun c hc => by cases hc) ?_
                  go_simp
                  exact hK _ _ rfl (Below.refl _ _) trivial
                · -- 13
                  intro li a1 W2 hA K hK
                  have eg42 : a1.tmps.getD 42 undef = .bool false := hA.val 12 42 (by kernel_rfl) (by kernel_rfl)
                  refine opSkip none 0 rfl (wanted_no (j := 12) (d := 42) (b := true) rfl (by kernel_rfl) eg42 (by decide)) ?_
                  exact hK _ _ rfl (Below.refl _ _) trivial
                · -- 14
                  intro li a1 W2 hA K hK
                  have eg42 : a1.tmps.getD 42 undef = .bool false := hA.val 12 42 (by kernel_rfl) (by kernel_rfl)
                  refine opSkip none 0 rfl (wanted_no (j := 12) (d := 42) (b := true) rfl (by kernel_rfl) eg42 (by decide)) ?_
                  exact hK _ _ rfl (Below.refl _ _) trivial
                · -- 15
                  intro li a1 W2 hA K hK
                  have eg42 : a1.tmps.getD 42 undef = .bool false := hA.val 12 42 (by kernel_rfl) (by kernel_rfl)
                  refine opSkip none 0 rfl (wanted_no (j := 12) (d := 42) (b := true) rfl (by kernel_rfl) eg42 (by decide)) ?_
                  exact hK _ _ rfl (Below.refl _ _) trivial
                · -- 16
                  intro li a1 W2 hA K hK
                  have eg42 : a1.tmps.getD 42 undef = .bool false := hA.val 12 42 (by kernel_rfl) (by kernel_rfl)
                  refine opSkip none 0 rfl (wanted_no (j := 12) (d := 42) (b := true) rfl (by kernel_rfl) eg42 (by decide)) ?_
                  exact hK _ _ rfl (Below.refl _ _) trivial
              · intro li a1 W2 hD
                have e42 : a1.tmps.getD 42 undef = .bool false := hD.val 12 42 (by kernel_rfl) (by kernel_rfl)
                have hkp2 := hD.keeps (ds := [30, 31, 32, 33, 34, 35, 36, 37, 38, 39, 40, 41, 42, 43, 44, 45, 46, 47]) (by kernel_rfl)
                have hds := hD.size
                have hsz9 : a1.tmps.size = 53 := hD.size
                have hdd := hD.defers
                have hst := hD.st
                refine tail_val (i := 17) (v := .bool false) (W' := W2) none 0 rfl rfl rfl (fun c hc => by cases hc) (by go_simp) (by rw [hsz9]; decide) ?_
                intro a3 s3 d3 f3 o3
                have hkp3 := keeps_then hkp2 o3 (by decide)
                have e := act_mix [30, 31, 32, 33, 34, 35, 36, 37, 38, 39, 40, 41, 42, 43, 44, 45, 46, 47] (s3.trans hds) (d3.trans hdd) (fun i _ hc => hkp3 i hc)
                have hg9 : (fun i => a3.tmps.getD i undef) 47 = .bool false := f3
                generalize (fun i => a3.tmps.getD i undef) = g' at e hg9
                refine wpListIn_nil ?_
                rw [e]
                clear e hD hkp2 hkp3 s3 d3 f3 o3 hds hdd hsz9 e42
                simp only [mix, List.contains_cons, List.contains_nil, Nat.reduceAdd, Nat.reduceBEq, Bool.or_false, Bool.or_true, cond_true, cond_false, hg9]
                clear hg9
                have HNX := hid (HB2.out.trans (hst.mono HB2.out.size))
                have HNY := hid (HY2.out.at_ hst)
                clear hst HZ HB2 HBW HT2 HL2 HY2 HR HBR HTR HLR
                go_wp2
                go_roundw
                case rel => exact ⟨k + 1, by omega, by go_num, ⟨y, by rw [HST.out]; first | rfl | (show Value.slice _ _ _ = Value.slice _ (nthA m _).length _; rw [nthA_len]), by rw [HST.out]; exact HNY.out⟩, HNX.out⟩
                case measure => first | (simp [intOf]; done) | (simp [intOf]; omega)
        · have hkI : decide ((k : Int) < (M : Int)) = false := by simp; omega
          obtain rfl : k = M := by omega
          have hBE := HBR.out
          clear HR HBR HTR HLR t0 t1 t2 t3
          cases hq : bqT m lo hi k with
          | none =>
            rw [hq] at hv hy
            replace hv : u8 = .slice y.1 0 y.2 := hv
            subst hv
            go_wp2
            go_ret2
            exact ⟨y, by rw [hq]; rfl, by rw [hq]; exact hy, hBE⟩
          | some q =>
            rw [hq] at hv hy
            replace hv : u8 = .slice y.1 m.ss.length y.2 := by rw [hv]; show Value.slice y.1 (nthA m q).length y.2 = _; rw [nthA_len]
            subst hv
            have hsI : (0 : Int) < (m.ss.length : Int) := by omega
            have hdB : decide (0 < (bqL m (some q)).length) = true := by show decide (0 < (nthA m q).length) = true; rw [nthA_len]; simp; omega
            have hln : (bqL m (some q)).length = m.ss.length := nthA_len m q
            go_wp2
            go_ret2
            exact ⟨y, by rw [hq, hln]; first | rfl | simp [hsI, hs1], by rw [hq]; exact hy, hBE⟩
end Go.Proofs.Ytoeabajigfdkaaa
