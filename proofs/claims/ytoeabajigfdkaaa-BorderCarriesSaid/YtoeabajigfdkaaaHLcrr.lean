/- For every map, the error, and the carried counts of its streets and new districts, are as the reference says: the statement BorderCarries. No condition. -/
import Derived.Test.YtoeabajigfdkaaaG3
import Derived.Test.YtoeabajigfdkaaaG12
namespace Go.Proofs.Ytoeabajigfdkaaa
open Go.RowKit Go.Shelf

set_option maxRecDepth 100000 in
set_option maxHeartbeats 4000000 in
theorem carries_not (m : MapD) (A : Option Addr) (c : Nat) (A2 : Option Addr) (c2 : Nat) (A3 : Option Addr) (c3 : Nat) (w : World) (h : MArg m A c A2 c2 A3 c3 w) (ht : thinM m = false) :
    Calls Try.prog 3 #[.agg #[.slice A m.old.length c, .int .i64 m.nw, .slice A2 m.ss.length c2, .slice A3 m.js.length c3]] w fun e w' => e = .returned (.bool true) ∧ Below w.heap.size w w' := by
  have hB := below_box (w := w) #[.slice A m.old.length c, .int .i64 m.nw, .slice A2 m.ss.length c2, .slice A3 m.js.length c3] 26
  have hT := Blk.new w 26 #[.slice A m.old.length c, .int .i64 m.nw, .slice A2 m.ss.length c2, .slice A3 m.js.length c3]
  have HB0 := hid hB
  have HT0 := hid hT
  have HH := hid h
  obtain ⟨t0, t1, t2, t3⟩ := hT.c4
  clear h hB hT
  have HTN := hid ht
  clear ht
  go_enter Try.func3, Try.ntmps3
  have K1 := hid (thin_any m A c A2 c2 A3 c3 (w.alloc (.cells #[.slice A m.old.length c, .int .i64 m.nw, .slice A2 m.ss.length c2, .slice A3 m.js.length c3] 26)))
  rw [HTN.out] at K1
  go_wp2_with fail
  refine K1.out.mono ?_
  rintro e w1 ⟨rfl, hb⟩
  have HB1 := hid (HB0.out.trans (hb.mono HB0.out.size))
  have HT1 := hid (HT0.out.keep hb)
  clear hb K1 t0 t1 t2 t3
  obtain ⟨t0, t1, t2, t3⟩ := HT1.out.c4
  have K2 := hid (awake_any w1)
  go_wp2_with fail
  refine K2.out.mono ?_
  rintro e w2 ⟨rfl, hb⟩
  have HB2 := hid (HB1.out.trans (hb.mono HB1.out.size))
  have HT2 := hid (HT1.out.keep hb)
  clear hb K2 t0 t1 t2 t3
  obtain ⟨t0, t1, t2, t3⟩ := HT2.out.c4
  clear t0 t1 t2 t3
  go_wp2
  go_ret
  exact ⟨rfl, HB2.out⟩

set_option maxRecDepth 100000 in
set_option maxHeartbeats 4000000 in
theorem carries_bad (m : MapD) (A : Option Addr) (c : Nat) (A2 : Option Addr) (c2 : Nat) (A3 : Option Addr) (c3 : Nat) (w : World) (h : MArg m A c A2 c2 A3 c3 w) (ht : thinM m = true) (hc : chkM m ≠ 0) :
    Calls Try.prog 3 #[.agg #[.slice A m.old.length c, .int .i64 m.nw, .slice A2 m.ss.length c2, .slice A3 m.js.length c3]] w fun e w' => e = .returned (.bool true) ∧ Below w.heap.size w w' := by
  have hB := below_box (w := w) #[.slice A m.old.length c, .int .i64 m.nw, .slice A2 m.ss.length c2, .slice A3 m.js.length c3] 26
  have hT := Blk.new w 26 #[.slice A m.old.length c, .int .i64 m.nw, .slice A2 m.ss.length c2, .slice A3 m.js.length c3]
  have HB0 := hid hB
  have HT0 := hid hT
  have HH := hid h
  obtain ⟨t0, t1, t2, t3⟩ := hT.c4
  clear h hB hT
  have HTN := hid ht
  have HTH := hid (thinM_iff.1 ht)
  have HC := hid hc
  have hne : (chkM m != 0) = true := by simpa using hc
  clear ht hc
  go_enter Try.func3, Try.ntmps3
  have K1 := hid (thin_any m A c A2 c2 A3 c3 (w.alloc (.cells #[.slice A m.old.length c, .int .i64 m.nw, .slice A2 m.ss.length c2, .slice A3 m.js.length c3] 26)))
  rw [HTN.out] at K1
  go_wp2_with fail
  refine K1.out.mono ?_
  rintro e w1 ⟨rfl, hb⟩
  have HB1 := hid (HB0.out.trans (hb.mono HB0.out.size))
  have HT1 := hid (HT0.out.keep hb)
  clear hb K1 t0 t1 t2 t3
  obtain ⟨t0, t1, t2, t3⟩ := HT1.out.c4
  have K2 := hid (map_thin (HH.out.at_ HB1.out) HTH.out)
  go_wp2_with fail
  refine K2.out.mono ?_
  rintro e w2 ⟨P2, Q2, R2, rfl, hm, hb⟩
  have HB2 := hid (HB1.out.trans (hb.mono HB1.out.size))
  have HT2 := hid (HT1.out.keep hb)
  have M2 := hid hm
  clear hm
  clear hb K2 t0 t1 t2 t3
  obtain ⟨t0, t1, t2, t3⟩ := HT2.out.c4
  have K3 := hid (checkm_any m P2.1 P2.2 Q2.1 Q2.2 R2.1 R2.2 w2 M2.out)
  go_wp2_with fail
  refine K3.out.mono ?_
  rintro e w3 ⟨rfl, hb⟩
  have HB3 := hid (HB2.out.trans (hb.mono HB2.out.size))
  have HT3 := hid (HT2.out.keep hb)
  clear hb K3 t0 t1 t2 t3
  obtain ⟨t0, t1, t2, t3⟩ := HT3.out.c4
  have K4 := hid (map_thin (HH.out.at_ HB3.out) HTH.out)
  go_wp2_with fail
  refine K4.out.mono ?_
  rintro e w4 ⟨P4, Q4, R4, rfl, hm, hb⟩
  have HB4 := hid (HB3.out.trans (hb.mono HB3.out.size))
  have HT4 := hid (HT3.out.keep hb)
  have M4 := hid hm
  clear hm
  clear hb K4 t0 t1 t2 t3
  obtain ⟨t0, t1, t2, t3⟩ := HT4.out.c4
  have K5 := hid (carry_bad M4.out HC.out)
  go_wp2_with fail
  refine K5.out.mono ?_
  rintro e w5 ⟨rfl, hb⟩
  have HB5 := hid (HB4.out.trans (hb.mono HB4.out.size))
  have HT5 := hid (HT4.out.keep hb)
  clear hb K5 t0 t1 t2 t3
  obtain ⟨t0, t1, t2, t3⟩ := HT5.out.c4
  have K6 := hid (mfault_any m A c A2 c2 A3 c3 w5 (HH.out.at_ HB5.out).toMIn)
  go_wp2_with fail
  refine K6.out.mono ?_
  rintro e w6 ⟨rfl, hb⟩
  have HB6 := hid (HB5.out.trans (hb.mono HB5.out.size))
  have HT6 := hid (HT5.out.keep hb)
  clear hb K6 t0 t1 t2 t3
  obtain ⟨t0, t1, t2, t3⟩ := HT6.out.c4
  generalize chkM m = z at *
  have K7 := hid (awake_any w6)
  go_wp2_with fail
  refine K7.out.mono ?_
  rintro e w7 ⟨rfl, hb⟩
  have HB7 := hid (HB6.out.trans (hb.mono HB6.out.size))
  have HT7 := hid (HT6.out.keep hb)
  clear hb K7 t0 t1 t2 t3
  obtain ⟨t0, t1, t2, t3⟩ := HT7.out.c4
  clear t0 t1 t2 t3
  go_wp2
  go_ret
  exact ⟨rfl, HB7.out⟩

set_option maxRecDepth 100000 in
set_option maxHeartbeats 4000000 in
theorem carries_good (m : MapD) (A : Option Addr) (c : Nat) (A2 : Option Addr) (c2 : Nat) (A3 : Option Addr) (c3 : Nat) (w : World) (h : MArg m A c A2 c2 A3 c3 w) (ht : thinM m = true) (hc : chkM m = 0) :
    Calls Try.prog 3 #[.agg #[.slice A m.old.length c, .int .i64 m.nw, .slice A2 m.ss.length c2, .slice A3 m.js.length c3]] w fun e w' => e = .returned (.bool true) ∧ Below w.heap.size w w' := by
  have hB := below_box (w := w) #[.slice A m.old.length c, .int .i64 m.nw, .slice A2 m.ss.length c2, .slice A3 m.js.length c3] 26
  have hT := Blk.new w 26 #[.slice A m.old.length c, .int .i64 m.nw, .slice A2 m.ss.length c2, .slice A3 m.js.length c3]
  have HB0 := hid hB
  have HT0 := hid hT
  have HH := hid h
  obtain ⟨t0, t1, t2, t3⟩ := hT.c4
  clear h hB hT
  have HTN := hid ht
  have HTH := hid (thinM_iff.1 ht)
  have HC := hid hc
  have OK := hid (chk_okm hc)
  clear ht hc
  go_enter Try.func3, Try.ntmps3
  have K1 := hid (thin_any m A c A2 c2 A3 c3 (w.alloc (.cells #[.slice A m.old.length c, .int .i64 m.nw, .slice A2 m.ss.length c2, .slice A3 m.js.length c3] 26)))
  rw [HTN.out] at K1
  go_wp2_with fail
  refine K1.out.mono ?_
  rintro e w1 ⟨rfl, hb⟩
  have HB1 := hid (HB0.out.trans (hb.mono HB0.out.size))
  have HT1 := hid (HT0.out.keep hb)
  clear hb K1 t0 t1 t2 t3
  obtain ⟨t0, t1, t2, t3⟩ := HT1.out.c4
  have K2 := hid (map_thin (HH.out.at_ HB1.out) HTH.out)
  go_wp2_with fail
  refine K2.out.mono ?_
  rintro e w2 ⟨P2, Q2, R2, rfl, hm, hb⟩
  have HB2 := hid (HB1.out.trans (hb.mono HB1.out.size))
  have HT2 := hid (HT1.out.keep hb)
  have M2 := hid hm
  clear hm
  clear hb K2 t0 t1 t2 t3
  obtain ⟨t0, t1, t2, t3⟩ := HT2.out.c4
  have K3 := hid (checkm_any m P2.1 P2.2 Q2.1 Q2.2 R2.1 R2.2 w2 M2.out)
  rw [HC.out] at K3
  go_wp2_with fail
  refine K3.out.mono ?_
  rintro e w3 ⟨rfl, hb⟩
  have HB3 := hid (HB2.out.trans (hb.mono HB2.out.size))
  have HT3 := hid (HT2.out.keep hb)
  clear hb K3 t0 t1 t2 t3
  obtain ⟨t0, t1, t2, t3⟩ := HT3.out.c4
  have K4 := hid (map_thin (HH.out.at_ HB3.out) HTH.out)
  go_wp2_with fail
  refine K4.out.mono ?_
  rintro e w4 ⟨P4, Q4, R4, rfl, hm, hb⟩
  have HB4 := hid (HB3.out.trans (hb.mono HB3.out.size))
  have HT4 := hid (HT3.out.keep hb)
  have M4 := hid hm
  clear hm
  clear hb K4 t0 t1 t2 t3
  obtain ⟨t0, t1, t2, t3⟩ := HT4.out.c4
  have K5 := hid (carry_good M4.out HC.out)
  go_wp2_with fail
  refine K5.out.mono ?_
  rintro e w5 ⟨p, q, rfl, hp, hq, hb⟩
  have HB5 := hid (HB4.out.trans (hb.mono HB4.out.size))
  have HT5 := hid (HT4.out.keep hb)
  have HP := hid hp
  have HQ := hid hq
  clear hp hq
  clear hb K5 t0 t1 t2 t3
  obtain ⟨t0, t1, t2, t3⟩ := HT5.out.c4
  have BW0 := hid (Below.refl w5.heap.size w5)
  have K6 := hid (mfault_any m A c A2 c2 A3 c3 w5 (HH.out.at_ HB5.out).toMIn)
  rw [HC.out] at K6
  go_wp2_with fail
  refine K6.out.mono ?_
  rintro e w6 ⟨rfl, hb⟩
  have HB6 := hid (HB5.out.trans (hb.mono HB5.out.size))
  have HT6 := hid (HT5.out.keep hb)
  have BW6 := hid (BW0.out.trans (hb.mono BW0.out.size))
  clear hb K6 t0 t1 t2 t3
  obtain ⟨t0, t1, t2, t3⟩ := HT6.out.c4
  have K7 := hid ((qcarry_any m A c A2 c2 A3 c3 w6 (HH.out.at_ HB6.out).toMIn OK.out).mono fun _ _ => GivesInts.i)
  go_wp2_with fail
  refine K7.out.mono ?_
  rintro e w7 ⟨y, rfl, hy, hb⟩
  have HB7 := hid (HB6.out.trans (hb.mono HB6.out.size))
  have HT7 := hid (HT6.out.keep hb)
  have BW7 := hid (BW6.out.trans (hb.mono BW6.out.size))
  have HY := hid hy
  clear hy
  clear hb K7 t0 t1 t2 t3
  obtain ⟨t0, t1, t2, t3⟩ := HT7.out.c4
  have HPP := hid (HP.out.at_ BW7.out)
  have HQQ := hid (HQ.out.at_ BW7.out)
  clear t0 t1 t2 t3
  go_wp2
  refine (wpIn_wide (n := 0)).1 ?_
  refine wpIn_region_each 19 (fun i v W' => match i with | 0 => v = .int .i64 0 | 1 => v = .bool true | 2 => v = .bool true | 3 => v = .slice p.1 (car m).length p.2 | 4 => v = .slice y.1 (car m).length y.2 | 5 => v = .bool true | 6 => v = .bool true | 7 => v = .bool true | 8 => v = .slice q.1 (smD m (ownL m) (car m)).length q.2 | 9 => v = .agg #[.slice A m.old.length c, .int .i64 m.nw, .slice A2 m.ss.length c2, .slice A3 m.js.length c3] | 10 => v = .agg #[.slice A m.old.length c, .int .i64 m.nw, .slice A2 m.ss.length c2, .slice A3 m.js.length c3] | 11 => ∃ (y : Option Addr × Nat), v = .slice y.1 (lst m (ownL m)).length y.2 ∧ IntsAt y (lst m (ownL m)) W' | 12 => v = .slice y.1 (car m).length y.2 | 13 => ∃ (y : Option Addr × Nat), v = .slice y.1 (smD m (ownL m) (car m)).length y.2 ∧ IntsAt y (smD m (ownL m) (car m)) W' | 14 => v = .bool true | 15 => v = .bool true | 16 => v = .bool true | 17 => v = .bool true | 18 => v = .bool true | _ => True) (fun A B => Below A.heap.size A B) (fun _ _ => True) (by kernel_rfl) (by kernel_rfl) ?_ (fun h k => h.trans (k.mono h.size)) ⟨rfl, rfl, rfl, Nat.le_refl _, fun _ _ => rfl⟩ trivial (by kernel_rfl) ?_ ?_
  · intro i v W1 W2 hb h
    match i, h with
    | 0, h => exact h
    | 1, h => exact h
    | 2, h => exact h
    | 3, h => exact h
    | 4, h => exact h
    | 5, h => exact h
    | 6, h => exact h
    | 7, h => exact h
    | 8, h => exact h
    | 9, h => exact h
    | 10, h => exact h
    | 11, h =>
      obtain ⟨y, rfl, h1⟩ := h
      exact ⟨_, rfl, h1.at_ hb⟩
    | 12, h => exact h
    | 13, h =>
      obtain ⟨y, rfl, h1⟩ := h
      exact ⟨_, rfl, h1.at_ hb⟩
    | 14, h => exact h
    | 15, h => exact h
    | 16, h => exact h
    | 17, h => exact h
    | 18, h => exact h
    | i + 19, h => trivial
  · refine ⟨?_, ?_, ?_, ?_, ?_, ?_, ?_, ?_, ?_, ?_, ?_, ?_, ?_, ?_, ?_, ?_, ?_, ?_, ?_, trivial⟩
    · -- 0
      intro li a1 W2 hA K hK
      have e6 := hA.par 6 (by kernel_rfl)
      refine opStep none 0 rfl rfl (fun c hc => by cases hc) ?_
      go_simp
      exact hK _ _ rfl (Below.refl _ _) trivial
    · -- 1
      intro li a1 W2 hA K hK
      have e46 : a1.tmps.getD 46 undef = .int .i64 0 := hA.val 0 46 (by kernel_rfl) (by kernel_rfl)
      refine opStep none 0 rfl rfl (fun c hc => by cases hc) ?_
      go_simp
      exact hK _ _ (by first | rfl | simp) (Below.refl _ _) trivial
    · -- 2
      intro li a1 W2 hA K hK
      have e47 : a1.tmps.getD 47 undef = .bool true := hA.val 1 47 (by kernel_rfl) (by kernel_rfl)
      refine opStep none 0 rfl rfl (fun c hc => by cases hc) ?_
      go_simp
      exact hK _ _ rfl (Below.refl _ _) trivial
    · -- 3
      intro li a1 W2 hA K hK
      have eg48 : a1.tmps.getD 48 undef = .bool true := hA.val 2 48 (by kernel_rfl) (by kernel_rfl)
      have e4 := hA.par 4 (by kernel_rfl)
      refine opStep none 0 rfl (wanted_yes (j := 2) (d := 48) (b := true) rfl (by kernel_rfl) eg48) (fun c hc => by cases hc) ?_
      go_simp
      exact hK _ _ rfl (Below.refl _ _) trivial
    · -- 4
      intro li a1 W2 hA K hK
      have eg48 : a1.tmps.getD 48 undef = .bool true := hA.val 2 48 (by kernel_rfl) (by kernel_rfl)
      have e8 := hA.par 8 (by kernel_rfl)
      refine opStep none 0 rfl (wanted_yes (j := 2) (d := 48) (b := true) rfl (by kernel_rfl) eg48) (fun c hc => by cases hc) ?_
      go_simp
      exact hK _ _ rfl (Below.refl _ _) trivial
    · -- 5
      intro li a1 W2 hA K hK
      have eg48 : a1.tmps.getD 48 undef = .bool true := hA.val 2 48 (by kernel_rfl) (by kernel_rfl)
      have e49 : a1.tmps.getD 49 undef = .slice p.1 (car m).length p.2 := hA.val 3 49 (by kernel_rfl) (by kernel_rfl)
      have e50 : a1.tmps.getD 50 undef = .slice y.1 (car m).length y.2 := hA.val 4 50 (by kernel_rfl) (by kernel_rfl)
      refine opStep none 0 rfl (wanted_yes (j := 2) (d := 48) (b := true) rfl (by kernel_rfl) eg48) (fun c hc => by cases hc) ?_
      go_simp
      refine (ints_same (y := p) (HPP.out.at_ hA.st) (HY.out.at_ hA.st)).mono ?_
      rintro e W3 ⟨rfl, hb3⟩
      exact hK _ _ rfl hb3 trivial
    · -- 6
      intro li a1 W2 hA K hK
      have e48 : a1.tmps.getD 48 undef = .bool true := hA.val 2 48 (by kernel_rfl) (by kernel_rfl)
      have e51 : a1.tmps.getD 51 undef = .bool true := hA.val 5 51 (by kernel_rfl) (by kernel_rfl)
      refine opStep none 0 rfl rfl (fun c hc => by cases hc) ?_
      go_simp
      exact hK _ _ rfl (Below.refl _ _) trivial
    · -- 7
      intro li a1 W2 hA K hK
      have e52 : a1.tmps.getD 52 undef = .bool true := hA.val 6 52 (by kernel_rfl) (by kernel_rfl)
      refine opStep none 0 rfl rfl (fun c hc => by cases hc) ?_
      go_simp
      exact hK _ _ rfl (Below.refl _ _) trivial
    · -- 8
      intro li a1 W2 hA K hK
      have eg53 : a1.tmps.getD 53 undef = .bool true := hA.val 7 53 (by kernel_rfl) (by kernel_rfl)
      have e5 := hA.par 5 (by kernel_rfl)
      refine opStep none 0 rfl (wanted_yes (j := 7) (d := 53) (b := true) rfl (by kernel_rfl) eg53) (fun c hc => by cases hc) ?_
      go_simp
      exact hK _ _ rfl (Below.refl _ _) trivial
    · -- 9
      intro li a1 W2 hA K hK
      have eg53 : a1.tmps.getD 53 undef = .bool true := hA.val 7 53 (by kernel_rfl) (by kernel_rfl)
      have e1 := hA.par 1 (by kernel_rfl)
      obtain ⟨q1, q2, q3, q4⟩ := (HT7.out.keep hA.st).c4
      refine opStep none 0 rfl (wanted_yes (j := 7) (d := 53) (b := true) rfl (by kernel_rfl) eg53) (fun c hc => by cases hc) ?_
      go_simp
      exact hK _ _ rfl (Below.refl _ _) trivial
    · -- 10
      intro li a1 W2 hA K hK
      have eg53 : a1.tmps.getD 53 undef = .bool true := hA.val 7 53 (by kernel_rfl) (by kernel_rfl)
      have e1 := hA.par 1 (by kernel_rfl)
      obtain ⟨q1, q2, q3, q4⟩ := (HT7.out.keep hA.st).c4
      refine opStep none 0 rfl (wanted_yes (j := 7) (d := 53) (b := true) rfl (by kernel_rfl) eg53) (fun c hc => by cases hc) ?_
      go_simp
      exact hK _ _ rfl (Below.refl _ _) trivial
    · -- 11
      intro li a1 W2 hA K hK
      have eg53 : a1.tmps.getD 53 undef = .bool true := hA.val 7 53 (by kernel_rfl) (by kernel_rfl)
      have e56 : a1.tmps.getD 56 undef = .agg #[.slice A m.old.length c, .int .i64 m.nw, .slice A2 m.ss.length c2, .slice A3 m.js.length c3] := hA.val 10 56 (by kernel_rfl) (by kernel_rfl)
      refine opStep none 0 rfl (wanted_yes (j := 7) (d := 53) (b := true) rfl (by kernel_rfl) eg53) (fun c hc => by cases hc) ?_
      go_simp
      refine ((qown_any m A c A2 c2 A3 c3 W2 (HH.out.at_ (HB7.out.trans (hA.st.mono HB7.out.size))).toMIn (by have := OK.out.s8; omega)).mono fun _ _ => GivesInts.i).mono ?_
      rintro e W3 ⟨y, rfl, hy, hb3⟩
      exact hK _ _ ⟨y, rfl, hy⟩ hb3 trivial
    · -- 12
      intro li a1 W2 hA K hK
      have eg53 : a1.tmps.getD 53 undef = .bool true := hA.val 7 53 (by kernel_rfl) (by kernel_rfl)
      have e8 := hA.par 8 (by kernel_rfl)
      refine opStep none 0 rfl (wanted_yes (j := 7) (d := 53) (b := true) rfl (by kernel_rfl) eg53) (fun c hc => by cases hc) ?_
      go_simp
      exact hK _ _ rfl (Below.refl _ _) trivial
    · -- 13
      intro li a1 W2 hA K hK
      have eg53 : a1.tmps.getD 53 undef = .bool true := hA.val 7 53 (by kernel_rfl) (by kernel_rfl)
      have e55 : a1.tmps.getD 55 undef = .agg #[.slice A m.old.length c, .int .i64 m.nw, .slice A2 m.ss.length c2, .slice A3 m.js.length c3] := hA.val 9 55 (by kernel_rfl) (by kernel_rfl)
      obtain ⟨y57, e57, h57⟩ := hA.val 11 57 (by kernel_rfl) (by kernel_rfl)
      have e58 : a1.tmps.getD 58 undef = .slice y.1 (car m).length y.2 := hA.val 12 58 (by kernel_rfl) (by kernel_rfl)
      refine opStep none 0 rfl (wanted_yes (j := 7) (d := 53) (b := true) rfl (by kernel_rfl) eg53) (fun c hc => by cases hc) ?_
      go_simp
      refine (sums_own m A c A2 c2 A3 c3 OK.out h57 (HY.out.at_ hA.st) (car_len m) (car_bounds OK.out)).mono ?_
      rintro e W3 ⟨y, rfl, hy, hb3⟩
      exact hK _ _ ⟨y, rfl, hy⟩ hb3 trivial
    · -- 14
      intro li a1 W2 hA K hK
      have eg53 : a1.tmps.getD 53 undef = .bool true := hA.val 7 53 (by kernel_rfl) (by kernel_rfl)
      have e54 : a1.tmps.getD 54 undef = .slice q.1 (smD m (ownL m) (car m)).length q.2 := hA.val 8 54 (by kernel_rfl) (by kernel_rfl)
      obtain ⟨y59, e59, h59⟩ := hA.val 13 59 (by kernel_rfl) (by kernel_rfl)
      refine opStep none 0 rfl (wanted_yes (j := 7) (d := 53) (b := true) rfl (by kernel_rfl) eg53) (fun c hc => by cases hc) ?_
      go_simp
      refine (ints_same (y := q) (HQQ.out.at_ hA.st) h59).mono ?_
      rintro e W3 ⟨rfl, hb3⟩
      exact hK _ _ rfl hb3 trivial
    · -- 15
      intro li a1 W2 hA K hK
      have e53 : a1.tmps.getD 53 undef = .bool true := hA.val 7 53 (by kernel_rfl) (by kernel_rfl)
      have e60 : a1.tmps.getD 60 undef = .bool true := hA.val 14 60 (by kernel_rfl) (by kernel_rfl)
      refine opStep none 0 rfl rfl (fun c hc => by cases hc) ?_
      go_simp
      exact hK _ _ rfl (Below.refl _ _) trivial
    · -- 16
      intro li a1 W2 hA K hK
      have e61 : a1.tmps.getD 61 undef = .bool true := hA.val 15 61 (by kernel_rfl) (by kernel_rfl)
      refine opStep none 0 rfl rfl (fun c hc => by cases hc) ?_
      go_simp
      exact hK _ _ rfl (Below.refl _ _) trivial
    · -- 17
      intro li a1 W2 hA K hK
      have eg62 : a1.tmps.getD 62 undef = .bool true := hA.val 16 62 (by kernel_rfl) (by kernel_rfl)
      refine opStep none 0 rfl (wanted_yes (j := 16) (d := 62) (b := true) rfl (by kernel_rfl) eg62) (fun c hc => by cases hc) ?_
      go_simp
      refine (awake_any W2).mono ?_
      rintro e W3 ⟨rfl, hb3⟩
      exact hK _ _ rfl hb3 trivial
    · -- 18
      intro li a1 W2 hA K hK
      have e62 : a1.tmps.getD 62 undef = .bool true := hA.val 16 62 (by kernel_rfl) (by kernel_rfl)
      have e63 : a1.tmps.getD 63 undef = .bool true := hA.val 17 63 (by kernel_rfl) (by kernel_rfl)
      refine opStep none 0 rfl rfl (fun c hc => by cases hc) ?_
      go_simp
      exact hK _ _ rfl (Below.refl _ _) trivial
  · intro li a1 W2 hD
    have e64 : a1.tmps.getD 64 undef = .bool true := hD.val 18 64 (by kernel_rfl) (by kernel_rfl)
    have hsz : a1.tmps.size = 65 := hD.size
    have hdd : a1.defers = [] := hD.defers
    have hst := hD.st
    refine tail_val (i := 19) (v := .bool true) (W' := W2) none 0 rfl rfl rfl (fun c hc => by cases hc) (by go_simp) (by rw [hsz]; decide) ?_
    intro a2 s2 d2 f2 o2
    refine wpListIn_nil ?_
    have e := act_eq (s2.trans hsz) (d2.trans hdd)
    have g0 : (fun i => a2.tmps.getD i undef) 2 = .bool true := f2
    generalize (fun i => a2.tmps.getD i undef) = g at e g0
    rw [e]
    have HF := hid (HB7.out.trans (hst.mono HB7.out.size))
    clear e hD e64 hsz hdd hst s2 d2 f2 o2
    simp only [List.range, List.range.loop, List.map_cons, List.map_nil, g0]
    go_wp2
    go_ret
    exact ⟨rfl, HF.out⟩

theorem carries_any (m : MapD) (A : Option Addr) (c : Nat) (A2 : Option Addr) (c2 : Nat) (A3 : Option Addr) (c3 : Nat) (w : World) (h : MArg m A c A2 c2 A3 c3 w) :
    Calls Try.prog 3 #[.agg #[.slice A m.old.length c, .int .i64 m.nw, .slice A2 m.ss.length c2, .slice A3 m.js.length c3]] w fun e w' => e = .returned (.bool true) ∧ Below w.heap.size w w' := by
  cases ht : thinM m
  · exact carries_not m A c A2 c2 A3 c3 w h ht
  · by_cases hc : chkM m = 0
    · exact carries_good m A c A2 c2 A3 c3 w h ht hc
    · exact carries_bad m A c A2 c2 A3 c3 w h ht hc

open Go.ChangeShapes Go.WideShapes Go.ChangeAt in
set_option maxRecDepth 100000 in
theorem carries_lifted (os : Os) (started : os.Started) (H : Type) (enc : TypeId × Value → H) :
    ReturnsInHanded {} Try.checked os 3 .any (Rows.borderCarriesSpec.pre6 enc Try.prog Try.f3 Rows.borderCarriesRow.domain false) (Rows.borderCarriesSpec.post enc Try.prog Try.f3 false true false false) := by
  refine returnsInHanded_of_change (C := Try.checked) own started (by kernel_rfl) Try.func3
    (ChangeSpec.witness6 (enc := enc) (C := Try.checked) false ⟨#[], #[.agg #[.slice none 0 0, .int .i64 0, .slice none 0 0, .slice none 0 0]], []⟩ 8 (by kernel_rfl) (by kernel_rfl) (by kernel_rfl) (by kernel_rfl)) ?_
  intro W base args ds gs before hval0 hW hcnd _
  have hval : ∀ (j : Nat) t v, Try.f3.params[j]? = some t → args[j]? = some v → Value.okWide Try.prog W .any base t v := hval0
  have hW' := hW
  obtain ⟨p, q, hA0, hV, rfl, hfz, hnd⟩ := hW
  have hA : DataW.TrodAll enc Try.prog W 0 (fun _ => true) true Try.f3.params.toList args.toList ds p := hA0
  rw [Try.params3] at hA hval
  obtain ⟨v0, vs0, d0, ds0, p0, q0, hargs, rfl, rfl, h0, r0⟩ := trodAll_cons hA
  obtain ⟨rfl, rfl, rfl⟩ := trodAll_nil r0
  obtain rfl : args = #[v0] := by cases args; simp_all
  obtain ⟨rfl, rfl⟩ := trodVars_none hV
  obtain ⟨m, A, c, A2, c2, A3, c3, rfl, ht⟩ := open_map (hval 0 26 v0 rfl rfl) h0
  refine (carries_any m A c A2 c2 A3 c3 W ht).mono fun e W' ⟨he, hb⟩ => ⟨_, he, ?_⟩
  exact law_post laid_out rfl rfl (by kernel_rfl) hW' rfl hb

theorem carries_over : Rows.borderCarriesRow.holds Try.pinned (OpenSpec.ofChange Rows.borderCarriesSpec) :=
  OpenClaim.holds_of_wide 3 Try.f3 rfl rfl rfl rfl rfl rfl rfl ⟨rfl, rfl, rfl, rfl, rfl⟩ rfl rfl rfl rfl rfl (by kernel_rfl) Try.func3 (by kernel_rfl)
    (of_decide_eq_true (by kernel_rfl)) (by unfold Func.isWrapper; first | (rw [if_pos (by decide +kernel)]; kernel_rfl) | (rw [if_neg (by decide +kernel)]; exact ⟨rfl, rfl⟩))
    (fun os started H enc _ => carries_lifted os started H enc)
/-- the statement -/
theorem border_carries : Rows.BorderCarriesSaid := carries_over
#print axioms border_carries
end Go.Proofs.Ytoeabajigfdkaaa
