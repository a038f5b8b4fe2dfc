/- For every map that is ready, nobody is lost in the carried counts nor in a truth, each number and each size is within its bounds, and differs from its carried count by at most what Off returns: the statement BorderTruth. No condition. -/
import Derived.Test.YtoeabajigfdkaaaG3
import Derived.Test.YtoeabajigfdkaaaG21
namespace Go.Proofs.Ytoeabajigfdkaaa
open Go.RowKit Go.Shelf

set_option maxRecDepth 100000 in
set_option maxHeartbeats 4000000 in
theorem tru_not (m : MapD) (A : Option Addr) (c : Nat) (A2 : Option Addr) (c2 : Nat) (A3 : Option Addr) (c3 : Nat) (Aw : Option Addr) (cw : Nat) (ws : List Int) (w : World) (h : MArg m A c A2 c2 A3 c3 w) (hr : readyM m = false) :
    Calls Try.prog 13 #[.agg #[.slice A m.old.length c, .int .i64 m.nw, .slice A2 m.ss.length c2, .slice A3 m.js.length c3], .slice Aw ws.length cw] w fun e w' => e = .returned (.bool true) ∧ Below w.heap.size w w' := by
  have hB := below_box (w := w) #[.slice A m.old.length c, .int .i64 m.nw, .slice A2 m.ss.length c2, .slice A3 m.js.length c3] 26
  have hT := Blk.new w 26 #[.slice A m.old.length c, .int .i64 m.nw, .slice A2 m.ss.length c2, .slice A3 m.js.length c3]
  have HB0 := hid hB
  have HT0 := hid hT
  have HH := hid h
  obtain ⟨t0, t1, t2, t3⟩ := hT.c4
  clear h hB hT
  have HRD := hid hr
  clear hr
  go_enter Try.func13, Try.ntmps13
  have K1 := hid (mready_any m A c A2 c2 A3 c3 (w.alloc (.cells #[.slice A m.old.length c, .int .i64 m.nw, .slice A2 m.ss.length c2, .slice A3 m.js.length c3] 26)) (HH.out.at_ HB0.out).toMIn)
  rw [HRD.out] at K1
  go_wp2_with fail
  refine K1.out.mono ?_
  rintro e w1 ⟨rfl, hb⟩
  have HB1 := hid (HB0.out.trans (hb.mono HB0.out.size))
  have HT1 := hid (HT0.out.keep hb)
  clear hb K1 t0 t1 t2 t3
  obtain ⟨t0, t1, t2, t3⟩ := HT1.out.c4
  have K2 := hid (awake_any w1)
  go_wp2_with fail
  refine K2.out.mono ?_
  rintro e w2 ⟨rfl, hb⟩
  have HB2 := hid (HB1.out.trans (hb.mono HB1.out.size))
  have HT2 := hid (HT1.out.keep hb)
  clear hb K2 t0 t1 t2 t3
  obtain ⟨t0, t1, t2, t3⟩ := HT2.out.c4
  clear t0 t1 t2 t3
  go_wp2
  go_ret
  exact ⟨rfl, HB2.out⟩

set_option maxRecDepth 100000 in
set_option maxHeartbeats 8000000 in
theorem tru_good (m : MapD) (A : Option Addr) (c : Nat) (A2 : Option Addr) (c2 : Nat) (A3 : Option Addr) (c3 : Nat) (Aw : Option Addr) (cw : Nat) (ws : List Int) (w : World) (h : MArg m A c A2 c2 A3 c3 w) (hw : IsWords w w.heap.size Aw ws) (hwl : ws.length ≤ maxLen) (hr : readyM m = true) :
    Calls Try.prog 13 #[.agg #[.slice A m.old.length c, .int .i64 m.nw, .slice A2 m.ss.length c2, .slice A3 m.js.length c3], .slice Aw ws.length cw] w fun e w' => e = .returned (.bool true) ∧ Below w.heap.size w w' := by
  have hB := below_box (w := w) #[.slice A m.old.length c, .int .i64 m.nw, .slice A2 m.ss.length c2, .slice A3 m.js.length c3] 26
  have hT := Blk.new w 26 #[.slice A m.old.length c, .int .i64 m.nw, .slice A2 m.ss.length c2, .slice A3 m.js.length c3]
  have HB0 := hid hB
  have HT0 := hid hT
  have HH := hid h
  obtain ⟨t0, t1, t2, t3⟩ := hT.c4
  clear h hB hT
  have HRD := hid hr
  have HCM := hid (ready_iff.1 hr).2
  have HTH := hid (ready_iff.1 hr).1
  have OK := hid (chk_okm (cst_ok (ready_iff.1 hr).2).1)
  have hs8 := OK.out.s8
  have hn1 := OK.out.n1
  have hn4 := OK.out.n4
  obtain ⟨N, hN⟩ : ∃ N : Nat, m.nw = (N : Int) := ⟨m.nw.toNat, by omega⟩
  have hN4 : N ≤ 4 := by omega
  have hNT : m.nw.toNat = N := by omega
  have HN := hid hN
  have HNT := hid hNT
  have HSL := hid (show (strL m).length = m.ss.length by simp [strL])
  have HBL := hid (show (bndL m).length = N by rw [bndL_len]; omega)
  have HCL := hid (car_len m)
  have HSN := hid (show (smD m (ownL m) (car m)).length = N by rw [smD_cnt]; omega)
  have HOL := hid (show (offL m).length = N by simp [offL]; omega)
  have HCK := hid (cst_ok (ready_iff.1 hr).2).1
  obtain ⟨T, hT9⟩ : ∃ T, m.old.sum = T := ⟨_, rfl⟩
  have HT0s := hid hT9
  have HT1s := hid (show (car m).sum = T by rw [car_all OK.out]; exact hT9)
  have HT2s := hid (show (smD m (ownL m) (car m)).sum = T by rw [smD_all fun i hi => own_in OK.out (by rwa [car_len] at hi), car_all OK.out]; exact hT9)
  have HW := hid hw
  have HWL := hid hwl
  clear hr hN hNT hT9 hw hwl hn1 hn4
  go_enter Try.func13, Try.ntmps13
  have K1 := hid (mready_any m A c A2 c2 A3 c3 (w.alloc (.cells #[.slice A m.old.length c, .int .i64 m.nw, .slice A2 m.ss.length c2, .slice A3 m.js.length c3] 26)) (HH.out.at_ HB0.out).toMIn)
  rw [HRD.out] at K1
  go_wp2_with fail
  refine K1.out.mono ?_
  rintro e w1 ⟨rfl, hb⟩
  have HB1 := hid (HB0.out.trans (hb.mono HB0.out.size))
  have HT1 := hid (HT0.out.keep hb)
  clear hb K1 t0 t1 t2 t3
  obtain ⟨t0, t1, t2, t3⟩ := HT1.out.c4
  have K2 := hid (picked_at (cw := cw) (HH.out.at_ HB1.out).toMIn HCM.out (HW.out.at_ HB1.out) HWL.out)
  go_wp2_with fail
  refine K2.out.mono ?_
  rintro e w2 ⟨⟨ax, cx⟩, rfl, ⟨xs, htr, hxi⟩, hb⟩
  have HB2 := hid (HB1.out.trans (hb.mono HB1.out.size))
  have HT2 := hid (HT1.out.keep hb)
  have HTR := hid htr
  have HXI := hid hxi
  have HLX := hid htr.len
  have HT3s := hid (show xs.sum = T by rw [all_sum OK.out htr.len htr.sum]; exact HT0s.out)
  clear htr hxi
  clear hb K2 t0 t1 t2 t3
  obtain ⟨t0, t1, t2, t3⟩ := HT2.out.c4
  have X_0 := hid (HXI.out)
  have K3 := hid (map_thin (HH.out.at_ HB2.out) HTH.out)
  go_wp2_with fail
  refine K3.out.mono ?_
  rintro e w3 ⟨P3, Q3, R3, rfl, hm, hb⟩
  have HB3 := hid (HB2.out.trans (hb.mono HB2.out.size))
  have HT3 := hid (HT2.out.keep hb)
  have X_3 := hid (X_0.out.at_ hb)
  have M3 := hid hm
  clear hm
  clear hb K3 t0 t1 t2 t3
  obtain ⟨t0, t1, t2, t3⟩ := HT3.out.c4
  have K4 := hid (carry_good M3.out HCK.out)
  unfold GivesCar at K4
  rw [HCL.out, HSN.out] at K4
  go_wp2_with fail
  refine K4.out.mono ?_
  rintro e w4 ⟨⟨A5, c5⟩, ⟨A6, c6⟩, rfl, hp, hq, hb⟩
  have HB4 := hid (HB3.out.trans (hb.mono HB3.out.size))
  have HT4 := hid (HT3.out.keep hb)
  have X_4 := hid (X_3.out.at_ hb)
  have HP := hid hp
  have HQ := hid hq
  clear hp hq
  clear hb K4 t0 t1 t2 t3
  obtain ⟨t0, t1, t2, t3⟩ := HT4.out.c4
  have P_0 := hid (HP.out)
  have Q_0 := hid (HQ.out)
  have K5 := hid (map_thin (HH.out.at_ HB4.out) HTH.out)
  go_wp2_with fail
  refine K5.out.mono ?_
  rintro e w5 ⟨P5, Q5, R5, rfl, hm, hb⟩
  have HB5 := hid (HB4.out.trans (hb.mono HB4.out.size))
  have HT5 := hid (HT4.out.keep hb)
  have Q_5 := hid (Q_0.out.at_ hb)
  have P_5 := hid (P_0.out.at_ hb)
  have X_5 := hid (X_4.out.at_ hb)
  have M5 := hid hm
  clear hm
  clear hb K5 t0 t1 t2 t3
  obtain ⟨t0, t1, t2, t3⟩ := HT5.out.c4
  have K6 := hid (streets_good M5.out HCM.out)
  unfold GivesR0 at K6
  rw [HSL.out] at K6
  go_wp2_with fail
  refine K6.out.mono ?_
  rintro e w6 ⟨⟨A9, c9⟩, rfl, hy, hb⟩
  have HB6 := hid (HB5.out.trans (hb.mono HB5.out.size))
  have HT6 := hid (HT5.out.keep hb)
  have Q_6 := hid (Q_5.out.at_ hb)
  have P_6 := hid (P_5.out.at_ hb)
  have X_6 := hid (X_5.out.at_ hb)
  have HYA := hid hy
  clear hy
  clear hb K6 t0 t1 t2 t3
  obtain ⟨t0, t1, t2, t3⟩ := HT6.out.c4
  have YA_0 := hid (HYA.out)
  have K7 := hid (map_thin (HH.out.at_ HB6.out) HTH.out)
  go_wp2_with fail
  refine K7.out.mono ?_
  rintro e w7 ⟨P7, Q7, R7, rfl, hm, hb⟩
  have HB7 := hid (HB6.out.trans (hb.mono HB6.out.size))
  have HT7 := hid (HT6.out.keep hb)
  have YA_7 := hid (YA_0.out.at_ hb)
  have Q_7 := hid (Q_6.out.at_ hb)
  have P_7 := hid (P_6.out.at_ hb)
  have X_7 := hid (X_6.out.at_ hb)
  have M7 := hid hm
  clear hm
  clear hb K7 t0 t1 t2 t3
  obtain ⟨t0, t1, t2, t3⟩ := HT7.out.c4
  have K8 := hid (bounds_good M7.out HCM.out)
  unfold GivesR0 at K8
  rw [HBL.out] at K8
  go_wp2_with fail
  refine K8.out.mono ?_
  rintro e w8 ⟨⟨A11, c11⟩, rfl, hy, hb⟩
  have HB8 := hid (HB7.out.trans (hb.mono HB7.out.size))
  have HT8 := hid (HT7.out.keep hb)
  have YA_8 := hid (YA_7.out.at_ hb)
  have Q_8 := hid (Q_7.out.at_ hb)
  have P_8 := hid (P_7.out.at_ hb)
  have X_8 := hid (X_7.out.at_ hb)
  have HYB := hid hy
  clear hy
  clear hb K8 t0 t1 t2 t3
  obtain ⟨t0, t1, t2, t3⟩ := HT8.out.c4
  have YB_0 := hid (HYB.out)
  have K9 := hid (map_thin (HH.out.at_ HB8.out) HTH.out)
  go_wp2_with fail
  refine K9.out.mono ?_
  rintro e w9 ⟨P9, Q9, R9, rfl, hm, hb⟩
  have HB9 := hid (HB8.out.trans (hb.mono HB8.out.size))
  have HT9 := hid (HT8.out.keep hb)
  have YB_9 := hid (YB_0.out.at_ hb)
  have YA_9 := hid (YA_8.out.at_ hb)
  have Q_9 := hid (Q_8.out.at_ hb)
  have P_9 := hid (P_8.out.at_ hb)
  have X_9 := hid (X_8.out.at_ hb)
  have M9 := hid hm
  clear hm
  clear hb K9 t0 t1 t2 t3
  obtain ⟨t0, t1, t2, t3⟩ := HT9.out.c4
  have K10 := hid (off_good M9.out HCM.out)
  unfold GivesI0 at K10
  rw [HOL.out] at K10
  go_wp2_with fail
  refine K10.out.mono ?_
  rintro e w10 ⟨⟨A13, c13⟩, rfl, hy, hb⟩
  have HB10 := hid (HB9.out.trans (hb.mono HB9.out.size))
  have HT10 := hid (HT9.out.keep hb)
  have YB_10 := hid (YB_9.out.at_ hb)
  have YA_10 := hid (YA_9.out.at_ hb)
  have Q_10 := hid (Q_9.out.at_ hb)
  have P_10 := hid (P_9.out.at_ hb)
  have X_10 := hid (X_9.out.at_ hb)
  have HYO := hid hy
  clear hy
  clear hb K10 t0 t1 t2 t3
  obtain ⟨t0, t1, t2, t3⟩ := HT10.out.c4
  have O_0 := hid (HYO.out)
  go_wp2
  clear t0 t1 t2 t3
  refine (wpIn_wide (n := 0)).1 ?_
  refine wpIn_region_each 73 (fun i v W' => match i with | 0 => v = .int .i64 0 | 1 => v = .bool false | 2 => v = .bool false | 3 => v = .int .i64 0 | 4 => v = .bool false | 5 => v = .bool false | 6 => v = .bool false | 7 => v = .int .i64 0 | 8 => v = .bool false | 9 => v = .bool false | 10 => v = .bool false | 11 => v = .int .i64 0 | 12 => v = .bool false | 13 => v = .bool false | 14 => v = .bool false | 15 => v = .slice A9 m.ss.length c9 | 16 => v = .int .i64 (m.ss.length : Int) | 17 => v = .slice (some ax) m.ss.length cx | 18 => v = .int .i64 (m.ss.length : Int) | 19 => v = .bool false | 20 => v = .bool false | 21 => v = .bool false | 22 => v = .slice A6 N c6 | 23 => v = .int .i64 (N : Int) | 24 => v = .pointer (some ⟨w.heap.size, 1, none⟩) | 25 => v = .int .i64 (N : Int) | 26 => v = .bool false | 27 => v = .bool false | 28 => v = .bool false | 29 => v = .slice A11 N c11 | 30 => v = .int .i64 (N : Int) | 31 => v = .pointer (some ⟨w.heap.size, 1, none⟩) | 32 => v = .int .i64 (N : Int) | 33 => v = .bool false | 34 => v = .bool false | 35 => v = .bool false | 36 => v = .slice A13 N c13 | 37 => v = .int .i64 (N : Int) | 38 => v = .pointer (some ⟨w.heap.size, 1, none⟩) | 39 => v = .int .i64 (N : Int) | 40 => v = .bool false | 41 => v = .bool false | 42 => v = .bool false | 43 => v = .slice A5 m.ss.length c5 | 44 => v = .int .i64 T | 45 => v = .pointer (some ⟨w.heap.size, 0, none⟩) | 46 => v = .slice A m.old.length c | 47 => v = .int .i64 T | 48 => v = .bool false | 49 => v = .bool false | 50 => v = .bool false | 51 => v = .slice A6 N c6 | 52 => v = .int .i64 T | 53 => v = .pointer (some ⟨w.heap.size, 0, none⟩) | 54 => v = .slice A m.old.length c | 55 => v = .int .i64 T | 56 => v = .bool false | 57 => v = .bool false | 58 => v = .bool false | 59 => v = .slice (some ax) m.ss.length cx | 60 => v = .int .i64 T | 61 => v = .pointer (some ⟨w.heap.size, 0, none⟩) | 62 => v = .slice A m.old.length c | 63 => v = .int .i64 T | 64 => v = .bool false | 65 => v = .bool false | 66 => v = .bool false | 67 => v = .agg #[.slice A m.old.length c, .int .i64 m.nw, .slice A2 m.ss.length c2, .slice A3 m.js.length c3] | 68 => ∃ (y : (Option Addr × Nat) × (Option Addr × Nat) × (Option Addr × Nat)), v = .agg #[.slice y.1.1 m.old.length y.1.2, .int .i64 m.nw, .slice y.2.1.1 m.ss.length y.2.1.2, .slice y.2.2.1 m.js.length y.2.2.2] ∧ MIn m y.1.1 y.1.2 y.2.1.1 y.2.1.2 y.2.2.1 y.2.2.2 W' | 69 => v = .slice (some ax) m.ss.length cx | 70 => ∃ (y : Option Addr × Nat), v = .slice y.1 m.ss.length y.2 ∧ IntsAt y xs W' | 71 => v = .bool true | 72 => v = .bool false | _ => True) (fun A B => Below A.heap.size A B) (fun _ _ => True) (by kernel_rfl) (by kernel_rfl) ?_ (fun h k => h.trans (k.mono h.size)) ⟨rfl, rfl, rfl, Nat.le_refl _, fun _ _ => rfl⟩ trivial (by kernel_rfl) ?_ ?_
  · intro i v W1 W2 hb h
    match i, h with
    | 0, h => exact h
    | 1, h => exact h
    | 2, h => exact h
    | 3, h => exact h
    | 4, h => exact h
    | 5, h => exact h
    | 6, h => exact h
    | 7, h => exact h
    | 8, h => exact h
    | 9, h => exact h
    | 10, h => exact h
    | 11, h => exact h
    | 12, h => exact h
    | 13, h => exact h
    | 14, h => exact h
    | 15, h => exact h
    | 16, h => exact h
    | 17, h => exact h
    | 18, h => exact h
    | 19, h => exact h
    | 20, h => exact h
    | 21, h => exact h
    | 22, h => exact h
    | 23, h => exact h
    | 24, h => exact h
    | 25, h => exact h
    | 26, h => exact h
    | 27, h => exact h
    | 28, h => exact h
    | 29, h => exact h
    | 30, h => exact h
    | 31, h => exact h
    | 32, h => exact h
    | 33, h => exact h
    | 34, h => exact h
    | 35, h => exact h
    | 36, h => exact h
    | 37, h => exact h
    | 38, h => exact h
    | 39, h => exact h
    | 40, h => exact h
    | 41, h => exact h
    | 42, h => exact h
    | 43, h => exact h
    | 44, h => exact h
    | 45, h => exact h
    | 46, h => exact h
    | 47, h => exact h
    | 48, h => exact h
    | 49, h => exact h
    | 50, h => exact h
    | 51, h => exact h
    | 52, h => exact h
    | 53, h => exact h
    | 54, h => exact h
    | 55, h => exact h
    | 56, h => exact h
    | 57, h => exact h
    | 58, h => exact h
    | 59, h => exact h
    | 60, h => exact h
    | 61, h => exact h
    | 62, h => exact h
    | 63, h => exact h
    | 64, h => exact h
    | 65, h => exact h
    | 66, h => exact h
    | 67, h => exact h
    | 68, h =>
      obtain ⟨y, rfl, h1⟩ := h
      exact ⟨_, rfl, h1.at_ hb⟩
    | 69, h => exact h
    | 70, h =>
      obtain ⟨y, rfl, h1⟩ := h
      exact ⟨_, rfl, h1.at_ hb⟩
    | 71, h => exact h
    | 72, h => exact h
    | i + 73, h => trivial
  · refine ⟨?_, ?_, ?_, ?_, ?_, ?_, ?_, ?_, ?_, ?_, ?_, ?_, ?_, ?_, ?_, ?_, ?_, ?_, ?_, ?_, ?_, ?_, ?_, ?_, ?_, ?_, ?_, ?_, ?_, ?_, ?_, ?_, ?_, ?_, ?_, ?_, ?_, ?_, ?_, ?_, ?_, ?_, ?_, ?_, ?_, ?_, ?_, ?_, ?_, ?_, ?_, ?_, ?_, ?_, ?_, ?_, ?_, ?_, ?_, ?_, ?_, ?_, ?_, ?_, ?_, ?_, ?_, ?_, ?_, ?_, ?_, ?_, ?_, trivial⟩
    · -- 0
      intro li a1 W2 hA K hK
      have e8 := hA.par 8 (by kernel_rfl)
      refine opStep none 0 rfl rfl (fun c hc => by cases hc) ?_
      go_simp
      exact hK _ _ rfl (Below.refl _ _) trivial
    · -- 1
      intro li a1 W2 hA K hK
      have e51 : a1.tmps.getD 51 undef = .int .i64 0 := hA.val 0 51 (by kernel_rfl) (by kernel_rfl)
      refine opStep none 0 rfl rfl (fun c hc => by cases hc) ?_
      go_simp
      exact hK _ _ (by first | rfl | simp) (Below.refl _ _) trivial
    · -- 2
      intro li a1 W2 hA K hK
      have e52 : a1.tmps.getD 52 undef = .bool false := hA.val 1 52 (by kernel_rfl) (by kernel_rfl)
      refine opStep none 0 rfl rfl (fun c hc => by cases hc) ?_
      go_simp
      exact hK _ _ rfl (Below.refl _ _) trivial
    · -- 3
      intro li a1 W2 hA K hK
      have eg53 : a1.tmps.getD 53 undef = .bool false := hA.val 2 53 (by kernel_rfl) (by kernel_rfl)
      have e10 := hA.par 10 (by kernel_rfl)
      refine opStep none 0 rfl (wanted_yes (j := 2) (d := 53) (b := false) rfl (by kernel_rfl) eg53) (fun c hc => by cases hc) ?_
      go_simp
      exact hK _ _ rfl (Below.refl _ _) trivial
    · -- 4
      intro li a1 W2 hA K hK
      have eg53 : a1.tmps.getD 53 undef = .bool false := hA.val 2 53 (by kernel_rfl) (by kernel_rfl)
      have e54 : a1.tmps.getD 54 undef = .int .i64 0 := hA.val 3 54 (by kernel_rfl) (by kernel_rfl)
      refine opStep none 0 rfl (wanted_yes (j := 2) (d := 53) (b := false) rfl (by kernel_rfl) eg53) (fun c hc => by cases hc) ?_
      go_simp
      exact hK _ _ (by first | rfl | simp) (Below.refl _ _) trivial
    · -- 5
      intro li a1 W2 hA K hK
      have e53 : a1.tmps.getD 53 undef = .bool false := hA.val 2 53 (by kernel_rfl) (by kernel_rfl)
      have e55 : a1.tmps.getD 55 undef = .bool false := hA.val 4 55 (by kernel_rfl) (by kernel_rfl)
      refine opStep none 0 rfl rfl (fun c hc => by cases hc) ?_
      go_simp
      exact hK _ _ rfl (Below.refl _ _) trivial
    · -- 6
      intro li a1 W2 hA K hK
      have e56 : a1.tmps.getD 56 undef = .bool false := hA.val 5 56 (by kernel_rfl) (by kernel_rfl)
      refine opStep none 0 rfl rfl (fun c hc => by cases hc) ?_
      go_simp
      exact hK _ _ rfl (Below.refl _ _) trivial
    · -- 7
      intro li a1 W2 hA K hK
      have eg57 : a1.tmps.getD 57 undef = .bool false := hA.val 6 57 (by kernel_rfl) (by kernel_rfl)
      have e12 := hA.par 12 (by kernel_rfl)
      refine opStep none 0 rfl (wanted_yes (j := 6) (d := 57) (b := false) rfl (by kernel_rfl) eg57) (fun c hc => by cases hc) ?_
      go_simp
      exact hK _ _ rfl (Below.refl _ _) trivial
    · -- 8
      intro li a1 W2 hA K hK
      have eg57 : a1.tmps.getD 57 undef = .bool false := hA.val 6 57 (by kernel_rfl) (by kernel_rfl)
      have e58 : a1.tmps.getD 58 undef = .int .i64 0 := hA.val 7 58 (by kernel_rfl) (by kernel_rfl)
      refine opStep none 0 rfl (wanted_yes (j := 6) (d := 57) (b := false) rfl (by kernel_rfl) eg57) (fun c hc => by cases hc) ?_
      go_simp
      exact hK _ _ (by first | rfl | simp) (Below.refl _ _) trivial
    · -- 9
      intro li a1 W2 hA K hK
      have e57 : a1.tmps.getD 57 undef = .bool false := hA.val 6 57 (by kernel_rfl) (by kernel_rfl)
      have e59 : a1.tmps.getD 59 undef = .bool false := hA.val 8 59 (by kernel_rfl) (by kernel_rfl)
      refine opStep none 0 rfl rfl (fun c hc => by cases hc) ?_
      go_simp
      exact hK _ _ rfl (Below.refl _ _) trivial
    · -- 10
      intro li a1 W2 hA K hK
      have e60 : a1.tmps.getD 60 undef = .bool false := hA.val 9 60 (by kernel_rfl) (by kernel_rfl)
      refine opStep none 0 rfl rfl (fun c hc => by cases hc) ?_
      go_simp
      exact hK _ _ rfl (Below.refl _ _) trivial
    · -- 11
      intro li a1 W2 hA K hK
      have eg61 : a1.tmps.getD 61 undef = .bool false := hA.val 10 61 (by kernel_rfl) (by kernel_rfl)
      have e14 := hA.par 14 (by kernel_rfl)
      refine opStep none 0 rfl (wanted_yes (j := 10) (d := 61) (b := false) rfl (by kernel_rfl) eg61) (fun c hc => by cases hc) ?_
      go_simp
      exact hK _ _ rfl (Below.refl _ _) trivial
    · -- 12
      intro li a1 W2 hA K hK
      have eg61 : a1.tmps.getD 61 undef = .bool false := hA.val 10 61 (by kernel_rfl) (by kernel_rfl)
      have e62 : a1.tmps.getD 62 undef = .int .i64 0 := hA.val 11 62 (by kernel_rfl) (by kernel_rfl)
      refine opStep none 0 rfl (wanted_yes (j := 10) (d := 61) (b := false) rfl (by kernel_rfl) eg61) (fun c hc => by cases hc) ?_
      go_simp
      exact hK _ _ (by first | rfl | simp) (Below.refl _ _) trivial
    · -- 13
      intro li a1 W2 hA K hK
      have e61 : a1.tmps.getD 61 undef = .bool false := hA.val 10 61 (by kernel_rfl) (by kernel_rfl)
      have e63 : a1.tmps.getD 63 undef = .bool false := hA.val 12 63 (by kernel_rfl) (by kernel_rfl)
      refine opStep none 0 rfl rfl (fun c hc => by cases hc) ?_
      go_simp
      exact hK _ _ rfl (Below.refl _ _) trivial
    · -- 14
      intro li a1 W2 hA K hK
      have e64 : a1.tmps.getD 64 undef = .bool false := hA.val 13 64 (by kernel_rfl) (by kernel_rfl)
      refine opStep none 0 rfl rfl (fun c hc => by cases hc) ?_
      go_simp
      exact hK _ _ rfl (Below.refl _ _) trivial
    · -- 15
      intro li a1 W2 hA K hK
      have eg65 : a1.tmps.getD 65 undef = .bool false := hA.val 14 65 (by kernel_rfl) (by kernel_rfl)
      have e9 := hA.par 9 (by kernel_rfl)
      refine opStep none 0 rfl (wanted_yes (j := 14) (d := 65) (b := false) rfl (by kernel_rfl) eg65) (fun c hc => by cases hc) ?_
      go_simp
      exact hK _ _ rfl (Below.refl _ _) trivial
    · -- 16
      intro li a1 W2 hA K hK
      have eg65 : a1.tmps.getD 65 undef = .bool false := hA.val 14 65 (by kernel_rfl) (by kernel_rfl)
      have e66 : a1.tmps.getD 66 undef = .slice A9 m.ss.length c9 := hA.val 15 66 (by kernel_rfl) (by kernel_rfl)
      refine opStep none 0 rfl (wanted_yes (j := 14) (d := 65) (b := false) rfl (by kernel_rfl) eg65) (fun c hc => by cases hc) ?_
      go_simp
      exact hK _ _ rfl (Below.refl _ _) trivial
    · -- 17
      intro li a1 W2 hA K hK
      have eg65 : a1.tmps.getD 65 undef = .bool false := hA.val 14 65 (by kernel_rfl) (by kernel_rfl)
      have e5 := hA.par 5 (by kernel_rfl)
      refine opStep none 0 rfl (wanted_yes (j := 14) (d := 65) (b := false) rfl (by kernel_rfl) eg65) (fun c hc => by cases hc) ?_
      go_simp
      exact hK _ _ rfl (Below.refl _ _) trivial
    · -- 18
      intro li a1 W2 hA K hK
      have eg65 : a1.tmps.getD 65 undef = .bool false := hA.val 14 65 (by kernel_rfl) (by kernel_rfl)
      have e68 : a1.tmps.getD 68 undef = .slice (some ax) m.ss.length cx := hA.val 17 68 (by kernel_rfl) (by kernel_rfl)
      refine opStep none 0 rfl (wanted_yes (j := 14) (d := 65) (b := false) rfl (by kernel_rfl) eg65) (fun c hc => by cases hc) ?_
      go_simp
      exact hK _ _ rfl (Below.refl _ _) trivial
    · -- 19
      intro li a1 W2 hA K hK
      have eg65 : a1.tmps.getD 65 undef = .bool false := hA.val 14 65 (by kernel_rfl) (by kernel_rfl)
      have e67 : a1.tmps.getD 67 undef = .int .i64 (m.ss.length : Int) := hA.val 16 67 (by kernel_rfl) (by kernel_rfl)
      have e69 : a1.tmps.getD 69 undef = .int .i64 (m.ss.length : Int) := hA.val 18 69 (by kernel_rfl) (by kernel_rfl)
      refine opStep none 0 rfl (wanted_yes (j := 14) (d := 65) (b := false) rfl (by kernel_rfl) eg65) (fun c hc => by cases hc) ?_
      go_simp
      exact hK _ _ (by first | rfl | simp) (Below.refl _ _) trivial
    · -- 20
      intro li a1 W2 hA K hK
      have e65 : a1.tmps.getD 65 undef = .bool false := hA.val 14 65 (by kernel_rfl) (by kernel_rfl)
      have e70 : a1.tmps.getD 70 undef = .bool false := hA.val 19 70 (by kernel_rfl) (by kernel_rfl)
      refine opStep none 0 rfl rfl (fun c hc => by cases hc) ?_
      go_simp
      exact hK _ _ rfl (Below.refl _ _) trivial
    · -- 21
      intro li a1 W2 hA K hK
      have e71 : a1.tmps.getD 71 undef = .bool false := hA.val 20 71 (by kernel_rfl) (by kernel_rfl)
      refine opStep none 0 rfl rfl (fun c hc => by cases hc) ?_
      go_simp
      exact hK _ _ rfl (Below.refl _ _) trivial
    · -- 22
      intro li a1 W2 hA K hK
      have eg72 : a1.tmps.getD 72 undef = .bool false := hA.val 21 72 (by kernel_rfl) (by kernel_rfl)
      have e7 := hA.par 7 (by kernel_rfl)
      refine opStep none 0 rfl (wanted_yes (j := 21) (d := 72) (b := false) rfl (by kernel_rfl) eg72) (fun c hc => by cases hc) ?_
      go_simp
      exact hK _ _ rfl (Below.refl _ _) trivial
    · -- 23
      intro li a1 W2 hA K hK
      have eg72 : a1.tmps.getD 72 undef = .bool false := hA.val 21 72 (by kernel_rfl) (by kernel_rfl)
      have e73 : a1.tmps.getD 73 undef = .slice A6 N c6 := hA.val 22 73 (by kernel_rfl) (by kernel_rfl)
      refine opStep none 0 rfl (wanted_yes (j := 21) (d := 72) (b := false) rfl (by kernel_rfl) eg72) (fun c hc => by cases hc) ?_
      go_simp
      exact hK _ _ rfl (Below.refl _ _) trivial
    · -- 24
      intro li a1 W2 hA K hK
      have eg72 : a1.tmps.getD 72 undef = .bool false := hA.val 21 72 (by kernel_rfl) (by kernel_rfl)
      have e2 := hA.par 2 (by kernel_rfl)
      refine opStep none 0 rfl (wanted_yes (j := 21) (d := 72) (b := false) rfl (by kernel_rfl) eg72) (fun c hc => by cases hc) ?_
      go_simp
      exact hK _ _ rfl (Below.refl _ _) trivial
    · -- 25
      intro li a1 W2 hA K hK
      have eg72 : a1.tmps.getD 72 undef = .bool false := hA.val 21 72 (by kernel_rfl) (by kernel_rfl)
      have e75 : a1.tmps.getD 75 undef = .pointer (some ⟨w.heap.size, 1, none⟩) := hA.val 24 75 (by kernel_rfl) (by kernel_rfl)
      obtain ⟨q1, q2, q3, q4⟩ := (HT10.out.keep hA.st).c4
      rw [HN.out] at q2
      refine opStep none 0 rfl (wanted_yes (j := 21) (d := 72) (b := false) rfl (by kernel_rfl) eg72) (fun c hc => by cases hc) ?_
      go_simp
      exact hK _ _ rfl (Below.refl _ _) trivial
    · -- 26
      intro li a1 W2 hA K hK
      have eg72 : a1.tmps.getD 72 undef = .bool false := hA.val 21 72 (by kernel_rfl) (by kernel_rfl)
      have e74 : a1.tmps.getD 74 undef = .int .i64 (N : Int) := hA.val 23 74 (by kernel_rfl) (by kernel_rfl)
      have e76 : a1.tmps.getD 76 undef = .int .i64 (N : Int) := hA.val 25 76 (by kernel_rfl) (by kernel_rfl)
      refine opStep none 0 rfl (wanted_yes (j := 21) (d := 72) (b := false) rfl (by kernel_rfl) eg72) (fun c hc => by cases hc) ?_
      go_simp
      exact hK _ _ (by first | rfl | simp) (Below.refl _ _) trivial
    · -- 27
      intro li a1 W2 hA K hK
      have e72 : a1.tmps.getD 72 undef = .bool false := hA.val 21 72 (by kernel_rfl) (by kernel_rfl)
      have e77 : a1.tmps.getD 77 undef = .bool false := hA.val 26 77 (by kernel_rfl) (by kernel_rfl)
      refine opStep none 0 rfl rfl (fun c hc => by cases hc) ?_
      go_simp
      exact hK _ _ rfl (Below.refl _ _) trivial
    · -- 28
      intro li a1 W2 hA K hK
      have e78 : a1.tmps.getD 78 undef = .bool false := hA.val 27 78 (by kernel_rfl) (by kernel_rfl)
      refine opStep none 0 rfl rfl (fun c hc => by cases hc) ?_
      go_simp
      exact hK _ _ rfl (Below.refl _ _) trivial
    · -- 29
      intro li a1 W2 hA K hK
      have eg79 : a1.tmps.getD 79 undef = .bool false := hA.val 28 79 (by kernel_rfl) (by kernel_rfl)
      have e11 := hA.par 11 (by kernel_rfl)
      refine opStep none 0 rfl (wanted_yes (j := 28) (d := 79) (b := false) rfl (by kernel_rfl) eg79) (fun c hc => by cases hc) ?_
      go_simp
      exact hK _ _ rfl (Below.refl _ _) trivial
    · -- 30
      intro li a1 W2 hA K hK
      have eg79 : a1.tmps.getD 79 undef = .bool false := hA.val 28 79 (by kernel_rfl) (by kernel_rfl)
      have e80 : a1.tmps.getD 80 undef = .slice A11 N c11 := hA.val 29 80 (by kernel_rfl) (by kernel_rfl)
      refine opStep none 0 rfl (wanted_yes (j := 28) (d := 79) (b := false) rfl (by kernel_rfl) eg79) (fun c hc => by cases hc) ?_
      go_simp
      exact hK _ _ rfl (Below.refl _ _) trivial
    · -- 31
      intro li a1 W2 hA K hK
      have eg79 : a1.tmps.getD 79 undef = .bool false := hA.val 28 79 (by kernel_rfl) (by kernel_rfl)
      have e2 := hA.par 2 (by kernel_rfl)
      refine opStep none 0 rfl (wanted_yes (j := 28) (d := 79) (b := false) rfl (by kernel_rfl) eg79) (fun c hc => by cases hc) ?_
      go_simp
      exact hK _ _ rfl (Below.refl _ _) trivial
    · -- 32
      intro li a1 W2 hA K hK
      have eg79 : a1.tmps.getD 79 undef = .bool false := hA.val 28 79 (by kernel_rfl) (by kernel_rfl)
      have e82 : a1.tmps.getD 82 undef = .pointer (some ⟨w.heap.size, 1, none⟩) := hA.val 31 82 (by kernel_rfl) (by kernel_rfl)
      obtain ⟨q1, q2, q3, q4⟩ := (HT10.out.keep hA.st).c4
      rw [HN.out] at q2
      refine opStep none 0 rfl (wanted_yes (j := 28) (d := 79) (b := false) rfl (by kernel_rfl) eg79) (fun c hc => by cases hc) ?_
      go_simp
      exact hK _ _ rfl (Below.refl _ _) trivial
    · -- 33
      intro li a1 W2 hA K hK
      have eg79 : a1.tmps.getD 79 undef = .bool false := hA.val 28 79 (by kernel_rfl) (by kernel_rfl)
      have e81 : a1.tmps.getD 81 undef = .int .i64 (N : Int) := hA.val 30 81 (by kernel_rfl) (by kernel_rfl)
      have e83 : a1.tmps.getD 83 undef = .int .i64 (N : Int) := hA.val 32 83 (by kernel_rfl) (by kernel_rfl)
      refine opStep none 0 rfl (wanted_yes (j := 28) (d := 79) (b := false) rfl (by kernel_rfl) eg79) (fun c hc => by cases hc) ?_
      go_simp
      exact hK _ _ (by first | rfl | simp) (Below.refl _ _) trivial
    · -- 34
      intro li a1 W2 hA K hK
      have e79 : a1.tmps.getD 79 undef = .bool false := hA.val 28 79 (by kernel_rfl) (by kernel_rfl)
      have e84 : a1.tmps.getD 84 undef = .bool false := hA.val 33 84 (by kernel_rfl) (by kernel_rfl)
      refine opStep none 0 rfl rfl (fun c hc => by cases hc) ?_
      go_simp
      exact hK _ _ rfl (Below.refl _ _) trivial
    · -- 35
      intro li a1 W2 hA K hK
      have e85 : a1.tmps.getD 85 undef = .bool false := hA.val 34 85 (by kernel_rfl) (by kernel_rfl)
      refine opStep none 0 rfl rfl (fun c hc => by cases hc) ?_
      go_simp
      exact hK _ _ rfl (Below.refl _ _) trivial
    · -- 36
      intro li a1 W2 hA K hK
      have eg86 : a1.tmps.getD 86 undef = .bool false := hA.val 35 86 (by kernel_rfl) (by kernel_rfl)
      have e13 := hA.par 13 (by kernel_rfl)
      refine opStep none 0 rfl (wanted_yes (j := 35) (d := 86) (b := false) rfl (by kernel_rfl) eg86) (fun c hc => by cases hc) ?_
      go_simp
      exact hK _ _ rfl (Below.refl _ _) trivial
    · -- 37
      intro li a1 W2 hA K hK
      have eg86 : a1.tmps.getD 86 undef = .bool false := hA.val 35 86 (by kernel_rfl) (by kernel_rfl)
      have e87 : a1.tmps.getD 87 undef = .slice A13 N c13 := hA.val 36 87 (by kernel_rfl) (by kernel_rfl)
      refine opStep none 0 rfl (wanted_yes (j := 35) (d := 86) (b := false) rfl (by kernel_rfl) eg86) (fun c hc => by cases hc) ?_
      go_simp
      exact hK _ _ rfl (Below.refl _ _) trivial
    · -- 38
      intro li a1 W2 hA K hK
      have eg86 : a1.tmps.getD 86 undef = .bool false := hA.val 35 86 (by kernel_rfl) (by kernel_rfl)
      have e2 := hA.par 2 (by kernel_rfl)
      refine opStep none 0 rfl (wanted_yes (j := 35) (d := 86) (b := false) rfl (by kernel_rfl) eg86) (fun c hc => by cases hc) ?_
      go_simp
      exact hK _ _ rfl (Below.refl _ _) trivial
    · -- 39
      intro li a1 W2 hA K hK
      have eg86 : a1.tmps.getD 86 undef = .bool false := hA.val 35 86 (by kernel_rfl) (by kernel_rfl)
      have e89 : a1.tmps.getD 89 undef = .pointer (some ⟨w.heap.size, 1, none⟩) := hA.val 38 89 (by kernel_rfl) (by kernel_rfl)
      obtain ⟨q1, q2, q3, q4⟩ := (HT10.out.keep hA.st).c4
      rw [HN.out] at q2
      refine opStep none 0 rfl (wanted_yes (j := 35) (d := 86) (b := false) rfl (by kernel_rfl) eg86) (fun c hc => by cases hc) ?_
      go_simp
      exact hK _ _ rfl (Below.refl _ _) trivial
    · -- 40
      intro li a1 W2 hA K hK
      have eg86 : a1.tmps.getD 86 undef = .bool false := hA.val 35 86 (by kernel_rfl) (by kernel_rfl)
      have e88 : a1.tmps.getD 88 undef = .int .i64 (N : Int) := hA.val 37 88 (by kernel_rfl) (by kernel_rfl)
      have e90 : a1.tmps.getD 90 undef = .int .i64 (N : Int) := hA.val 39 90 (by kernel_rfl) (by kernel_rfl)
      refine opStep none 0 rfl (wanted_yes (j := 35) (d := 86) (b := false) rfl (by kernel_rfl) eg86) (fun c hc => by cases hc) ?_
      go_simp
      exact hK _ _ (by first | rfl | simp) (Below.refl _ _) trivial
    · -- 41
      intro li a1 W2 hA K hK
      have e86 : a1.tmps.getD 86 undef = .bool false := hA.val 35 86 (by kernel_rfl) (by kernel_rfl)
      have e91 : a1.tmps.getD 91 undef = .bool false := hA.val 40 91 (by kernel_rfl) (by kernel_rfl)
      refine opStep none 0 rfl rfl (fun c hc => by cases hc) ?_
      go_simp
      exact hK _ _ rfl (Below.refl _ _) trivial
    · -- 42
      intro li a1 W2 hA K hK
      have e92 : a1.tmps.getD 92 undef = .bool false := hA.val 41 92 (by kernel_rfl) (by kernel_rfl)
      refine opStep none 0 rfl rfl (fun c hc => by cases hc) ?_
      go_simp
      exact hK _ _ rfl (Below.refl _ _) trivial
    · -- 43
      intro li a1 W2 hA K hK
      have eg93 : a1.tmps.getD 93 undef = .bool false := hA.val 42 93 (by kernel_rfl) (by kernel_rfl)
      have e6 := hA.par 6 (by kernel_rfl)
      refine opStep none 0 rfl (wanted_yes (j := 42) (d := 93) (b := false) rfl (by kernel_rfl) eg93) (fun c hc => by cases hc) ?_
      go_simp
      exact hK _ _ rfl (Below.refl _ _) trivial
    · -- 44
      intro li a1 W2 hA K hK
      have eg93 : a1.tmps.getD 93 undef = .bool false := hA.val 42 93 (by kernel_rfl) (by kernel_rfl)
      have e94 : a1.tmps.getD 94 undef = .slice A5 m.ss.length c5 := hA.val 43 94 (by kernel_rfl) (by kernel_rfl)
      refine opStep none 0 rfl (wanted_yes (j := 42) (d := 93) (b := false) rfl (by kernel_rfl) eg93) (fun c hc => by cases hc) ?_
      go_simp
      have KM := hid (mtotal_any A5 c5 (car m) W2 (P_10.out.at_ hA.st).1 (by rw [HCL.out]; omega) (fun x hx => by have := car_bounds OK.out x hx; omega))
      rw [HCL.out, HT1s.out] at KM
      refine KM.out.mono ?_
      rintro e W3 ⟨rfl, hb3⟩
      exact hK _ _ rfl hb3 trivial
    · -- 45
      intro li a1 W2 hA K hK
      have eg93 : a1.tmps.getD 93 undef = .bool false := hA.val 42 93 (by kernel_rfl) (by kernel_rfl)
      have e2 := hA.par 2 (by kernel_rfl)
      refine opStep none 0 rfl (wanted_yes (j := 42) (d := 93) (b := false) rfl (by kernel_rfl) eg93) (fun c hc => by cases hc) ?_
      go_simp
      exact hK _ _ rfl (Below.refl _ _) trivial
    · -- 46
      intro li a1 W2 hA K hK
      have eg93 : a1.tmps.getD 93 undef = .bool false := hA.val 42 93 (by kernel_rfl) (by kernel_rfl)
      have e96 : a1.tmps.getD 96 undef = .pointer (some ⟨w.heap.size, 0, none⟩) := hA.val 45 96 (by kernel_rfl) (by kernel_rfl)
      obtain ⟨q1, q2, q3, q4⟩ := (HT10.out.keep hA.st).c4
      refine opStep none 0 rfl (wanted_yes (j := 42) (d := 93) (b := false) rfl (by kernel_rfl) eg93) (fun c hc => by cases hc) ?_
      go_simp
      exact hK _ _ rfl (Below.refl _ _) trivial
    · -- 47
      intro li a1 W2 hA K hK
      have eg93 : a1.tmps.getD 93 undef = .bool false := hA.val 42 93 (by kernel_rfl) (by kernel_rfl)
      have e97 : a1.tmps.getD 97 undef = .slice A m.old.length c := hA.val 46 97 (by kernel_rfl) (by kernel_rfl)
      refine opStep none 0 rfl (wanted_yes (j := 42) (d := 93) (b := false) rfl (by kernel_rfl) eg93) (fun c hc => by cases hc) ?_
      go_simp
      have KM := hid (mtotal_any A c m.old W2 (HH.out.at_ (HB10.out.trans (hA.st.mono HB10.out.size))).io (by have := OK.out.d4; omega) (fun x hx => by have := OK.out.cnt x hx; omega))
      rw [HT0s.out] at KM
      refine KM.out.mono ?_
      rintro e W3 ⟨rfl, hb3⟩
      exact hK _ _ rfl hb3 trivial
    · -- 48
      intro li a1 W2 hA K hK
      have eg93 : a1.tmps.getD 93 undef = .bool false := hA.val 42 93 (by kernel_rfl) (by kernel_rfl)
      have e95 : a1.tmps.getD 95 undef = .int .i64 T := hA.val 44 95 (by kernel_rfl) (by kernel_rfl)
      have e98 : a1.tmps.getD 98 undef = .int .i64 T := hA.val 47 98 (by kernel_rfl) (by kernel_rfl)
      refine opStep none 0 rfl (wanted_yes (j := 42) (d := 93) (b := false) rfl (by kernel_rfl) eg93) (fun c hc => by cases hc) ?_
      go_simp
      exact hK _ _ (by first | rfl | simp) (Below.refl _ _) trivial
    · -- 49
      intro li a1 W2 hA K hK
      have e93 : a1.tmps.getD 93 undef = .bool false := hA.val 42 93 (by kernel_rfl) (by kernel_rfl)
      have e99 : a1.tmps.getD 99 undef = .bool false := hA.val 48 99 (by kernel_rfl) (by kernel_rfl)
      refine opStep none 0 rfl rfl (fun c hc => by cases hc) ?_
      go_simp
      exact hK _ _ rfl (Below.refl _ _) trivial
    · -- 50
      intro li a1 W2 hA K hK
      have e100 : a1.tmps.getD 100 undef = .bool false := hA.val 49 100 (by kernel_rfl) (by kernel_rfl)
      refine opStep none 0 rfl rfl (fun c hc => by cases hc) ?_
      go_simp
      exact hK _ _ rfl (Below.refl _ _) trivial
    · -- 51
      intro li a1 W2 hA K hK
      have eg101 : a1.tmps.getD 101 undef = .bool false := hA.val 50 101 (by kernel_rfl) (by kernel_rfl)
      have e7 := hA.par 7 (by kernel_rfl)
      refine opStep none 0 rfl (wanted_yes (j := 50) (d := 101) (b := false) rfl (by kernel_rfl) eg101) (fun c hc => by cases hc) ?_
      go_simp
      exact hK _ _ rfl (Below.refl _ _) trivial
    · -- 52
      intro li a1 W2 hA K hK
      have eg101 : a1.tmps.getD 101 undef = .bool false := hA.val 50 101 (by kernel_rfl) (by kernel_rfl)
      have e102 : a1.tmps.getD 102 undef = .slice A6 N c6 := hA.val 51 102 (by kernel_rfl) (by kernel_rfl)
      refine opStep none 0 rfl (wanted_yes (j := 50) (d := 101) (b := false) rfl (by kernel_rfl) eg101) (fun c hc => by cases hc) ?_
      go_simp
      have KM := hid (mtotal_any A6 c6 (smD m (ownL m) (car m)) W2 (Q_10.out.at_ hA.st).1 (by rw [HSN.out]; omega) (fun x hx => by have := smTo_bounds (M := 10000) (by omega) (car_bounds OK.out) _ x hx; rw [car_len] at this; omega))
      rw [HSN.out, HT2s.out] at KM
      refine KM.out.mono ?_
      rintro e W3 ⟨rfl, hb3⟩
      exact hK _ _ rfl hb3 trivial
    · -- 53
      intro li a1 W2 hA K hK
      have eg101 : a1.tmps.getD 101 undef = .bool false := hA.val 50 101 (by kernel_rfl) (by kernel_rfl)
      have e2 := hA.par 2 (by kernel_rfl)
      refine opStep none 0 rfl (wanted_yes (j := 50) (d := 101) (b := false) rfl (by kernel_rfl) eg101) (fun c hc => by cases hc) ?_
      go_simp
      exact hK _ _ rfl (Below.refl _ _) trivial
    · -- 54
      intro li a1 W2 hA K hK
      have eg101 : a1.tmps.getD 101 undef = .bool false := hA.val 50 101 (by kernel_rfl) (by kernel_rfl)
      have e104 : a1.tmps.getD 104 undef = .pointer (some ⟨w.heap.size, 0, none⟩) := hA.val 53 104 (by kernel_rfl) (by kernel_rfl)
      obtain ⟨q1, q2, q3, q4⟩ := (HT10.out.keep hA.st).c4
      refine opStep none 0 rfl (wanted_yes (j := 50) (d := 101) (b := false) rfl (by kernel_rfl) eg101) (fun c hc => by cases hc) ?_
      go_simp
      exact hK _ _ rfl (Below.refl _ _) trivial
    · -- 55
      intro li a1 W2 hA K hK
      have eg101 : a1.tmps.getD 101 undef = .bool false := hA.val 50 101 (by kernel_rfl) (by kernel_rfl)
      have e105 : a1.tmps.getD 105 undef = .slice A m.old.length c := hA.val 54 105 (by kernel_rfl) (by kernel_rfl)
      refine opStep none 0 rfl (wanted_yes (j := 50) (d := 101) (b := false) rfl (by kernel_rfl) eg101) (fun c hc => by cases hc) ?_
      go_simp
      have KM := hid (mtotal_any A c m.old W2 (HH.out.at_ (HB10.out.trans (hA.st.mono HB10.out.size))).io (by have := OK.out.d4; omega) (fun x hx => by have := OK.out.cnt x hx; omega))
      rw [HT0s.out] at KM
      refine KM.out.mono ?_
      rintro e W3 ⟨rfl, hb3⟩
      exact hK _ _ rfl hb3 trivial
    · -- 56
      intro li a1 W2 hA K hK
      have eg101 : a1.tmps.getD 101 undef = .bool false := hA.val 50 101 (by kernel_rfl) (by kernel_rfl)
      have e103 : a1.tmps.getD 103 undef = .int .i64 T := hA.val 52 103 (by kernel_rfl) (by kernel_rfl)
      have e106 : a1.tmps.getD 106 undef = .int .i64 T := hA.val 55 106 (by kernel_rfl) (by kernel_rfl)
      refine opStep none 0 rfl (wanted_yes (j := 50) (d := 101) (b := false) rfl (by kernel_rfl) eg101) (fun c hc => by cases hc) ?_
      go_simp
      exact hK _ _ (by first | rfl | simp) (Below.refl _ _) trivial
    · -- 57
      intro li a1 W2 hA K hK
      have e101 : a1.tmps.getD 101 undef = .bool false := hA.val 50 101 (by kernel_rfl) (by kernel_rfl)
      have e107 : a1.tmps.getD 107 undef = .bool false := hA.val 56 107 (by kernel_rfl) (by kernel_rfl)
      refine opStep none 0 rfl rfl (fun c hc => by cases hc) ?_
      go_simp
      exact hK _ _ rfl (Below.refl _ _) trivial
    · -- 58
      intro li a1 W2 hA K hK
      have e108 : a1.tmps.getD 108 undef = .bool false := hA.val 57 108 (by kernel_rfl) (by kernel_rfl)
      refine opStep none 0 rfl rfl (fun c hc => by cases hc) ?_
      go_simp
      exact hK _ _ rfl (Below.refl _ _) trivial
    · -- 59
      intro li a1 W2 hA K hK
      have eg109 : a1.tmps.getD 109 undef = .bool false := hA.val 58 109 (by kernel_rfl) (by kernel_rfl)
      have e5 := hA.par 5 (by kernel_rfl)
      refine opStep none 0 rfl (wanted_yes (j := 58) (d := 109) (b := false) rfl (by kernel_rfl) eg109) (fun c hc => by cases hc) ?_
      go_simp
      exact hK _ _ rfl (Below.refl _ _) trivial
    · -- 60
      intro li a1 W2 hA K hK
      have eg109 : a1.tmps.getD 109 undef = .bool false := hA.val 58 109 (by kernel_rfl) (by kernel_rfl)
      have e110 : a1.tmps.getD 110 undef = .slice (some ax) m.ss.length cx := hA.val 59 110 (by kernel_rfl) (by kernel_rfl)
      refine opStep none 0 rfl (wanted_yes (j := 58) (d := 109) (b := false) rfl (by kernel_rfl) eg109) (fun c hc => by cases hc) ?_
      go_simp
      have KM := hid (mtotal_any (some ax) cx xs W2 (X_10.out.at_ hA.st).1 (by rw [HLX.out]; omega) (fun x hx => by have := tr_b OK.out HTR.out x hx; omega))
      rw [HLX.out, HT3s.out] at KM
      refine KM.out.mono ?_
      rintro e W3 ⟨rfl, hb3⟩
      exact hK _ _ rfl hb3 trivial
    · -- 61
      intro li a1 W2 hA K hK
      have eg109 : a1.tmps.getD 109 undef = .bool false := hA.val 58 109 (by kernel_rfl) (by kernel_rfl)
      have e2 := hA.par 2 (by kernel_rfl)
      refine opStep none 0 rfl (wanted_yes (j := 58) (d := 109) (b := false) rfl (by kernel_rfl) eg109) (fun c hc => by cases hc) ?_
      go_simp
      exact hK _ _ rfl (Below.refl _ _) trivial
    · -- 62
      intro li a1 W2 hA K hK
      have eg109 : a1.tmps.getD 109 undef = .bool false := hA.val 58 109 (by kernel_rfl) (by kernel_rfl)
      have e112 : a1.tmps.getD 112 undef = .pointer (some ⟨w.heap.size, 0, none⟩) := hA.val 61 112 (by kernel_rfl) (by kernel_rfl)
      obtain ⟨q1, q2, q3, q4⟩ := (HT10.out.keep hA.st).c4
      refine opStep none 0 rfl (wanted_yes (j := 58) (d := 109) (b := false) rfl (by kernel_rfl) eg109) (fun c hc => by cases hc) ?_
      go_simp
      exact hK _ _ rfl (Below.refl _ _) trivial
    · -- 63
      intro li a1 W2 hA K hK
      have eg109 : a1.tmps.getD 109 undef = .bool false := hA.val 58 109 (by kernel_rfl) (by kernel_rfl)
      have e113 : a1.tmps.getD 113 undef = .slice A m.old.length c := hA.val 62 113 (by kernel_rfl) (by kernel_rfl)
      refine opStep none 0 rfl (wanted_yes (j := 58) (d := 109) (b := false) rfl (by kernel_rfl) eg109) (fun c hc => by cases hc) ?_
      go_simp
      have KM := hid (mtotal_any A c m.old W2 (HH.out.at_ (HB10.out.trans (hA.st.mono HB10.out.size))).io (by have := OK.out.d4; omega) (fun x hx => by have := OK.out.cnt x hx; omega))
      rw [HT0s.out] at KM
      refine KM.out.mono ?_
      rintro e W3 ⟨rfl, hb3⟩
      exact hK _ _ rfl hb3 trivial
    · -- 64
      intro li a1 W2 hA K hK
      have eg109 : a1.tmps.getD 109 undef = .bool false := hA.val 58 109 (by kernel_rfl) (by kernel_rfl)
      have e111 : a1.tmps.getD 111 undef = .int .i64 T := hA.val 60 111 (by kernel_rfl) (by kernel_rfl)
      have e114 : a1.tmps.getD 114 undef = .int .i64 T := hA.val 63 114 (by kernel_rfl) (by kernel_rfl)
      refine opStep none 0 rfl (wanted_yes (j := 58) (d := 109) (b := false) rfl (by kernel_rfl) eg109) (fun c hc => by cases hc) ?_
      go_simp
      exact hK _ _ (by first | rfl | simp) (Below.refl _ _) trivial
    · -- 65
      intro li a1 W2 hA K hK
      have e109 : a1.tmps.getD 109 undef = .bool false := hA.val 58 109 (by kernel_rfl) (by kernel_rfl)
      have e115 : a1.tmps.getD 115 undef = .bool false := hA.val 64 115 (by kernel_rfl) (by kernel_rfl)
      refine opStep none 0 rfl rfl (fun c hc => by cases hc) ?_
      go_simp
      exact hK _ _ rfl (Below.refl _ _) trivial
    · -- 66
      intro li a1 W2 hA K hK
      have e116 : a1.tmps.getD 116 undef = .bool false := hA.val 65 116 (by kernel_rfl) (by kernel_rfl)
      refine opStep none 0 rfl rfl (fun c hc => by cases hc) ?_
      go_simp
      exact hK _ _ rfl (Below.refl _ _) trivial
    · -- 67
      intro li a1 W2 hA K hK
      have eg117 : a1.tmps.getD 117 undef = .bool false := hA.val 66 117 (by kernel_rfl) (by kernel_rfl)
      have e2 := hA.par 2 (by kernel_rfl)
      obtain ⟨q1, q2, q3, q4⟩ := (HT10.out.keep hA.st).c4
      refine opStep none 0 rfl (wanted_yes (j := 66) (d := 117) (b := false) rfl (by kernel_rfl) eg117) (fun c hc => by cases hc) ?_
      go_simp
      exact hK _ _ rfl (Below.refl _ _) trivial
    · -- 68
      intro li a1 W2 hA K hK
      have eg117 : a1.tmps.getD 117 undef = .bool false := hA.val 66 117 (by kernel_rfl) (by kernel_rfl)
      have e118 : a1.tmps.getD 118 undef = .agg #[.slice A m.old.length c, .int .i64 m.nw, .slice A2 m.ss.length c2, .slice A3 m.js.length c3] := hA.val 67 118 (by kernel_rfl) (by kernel_rfl)
      refine opStep none 0 rfl (wanted_yes (j := 66) (d := 117) (b := false) rfl (by kernel_rfl) eg117) (fun c hc => by cases hc) ?_
      go_simp
      refine (map_thin (HH.out.at_ (HB10.out.trans (hA.st.mono HB10.out.size))) HTH.out).mono ?_
      rintro e W3 ⟨P, Q, R, rfl, hy, hb3⟩
      exact hK _ _ ⟨(P, Q, R), rfl, hy⟩ hb3 trivial
    · -- 69
      intro li a1 W2 hA K hK
      have eg117 : a1.tmps.getD 117 undef = .bool false := hA.val 66 117 (by kernel_rfl) (by kernel_rfl)
      have e5 := hA.par 5 (by kernel_rfl)
      refine opStep none 0 rfl (wanted_yes (j := 66) (d := 117) (b := false) rfl (by kernel_rfl) eg117) (fun c hc => by cases hc) ?_
      go_simp
      exact hK _ _ rfl (Below.refl _ _) trivial
    · -- 70
      intro li a1 W2 hA K hK
      have eg117 : a1.tmps.getD 117 undef = .bool false := hA.val 66 117 (by kernel_rfl) (by kernel_rfl)
      have e120 : a1.tmps.getD 120 undef = .slice (some ax) m.ss.length cx := hA.val 69 120 (by kernel_rfl) (by kernel_rfl)
      refine opStep none 0 rfl (wanted_yes (j := 66) (d := 117) (b := false) rfl (by kernel_rfl) eg117) (fun c hc => by cases hc) ?_
      go_simp
      refine (list_some (y := (ax, cx)) (X_10.out.at_ hA.st) HLX.out (by omega)).mono ?_
      rintro e W3 ⟨y, rfl, hy, hb3⟩
      exact hK _ _ ⟨y, rfl, hy⟩ hb3 trivial
    · -- 71
      intro li a1 W2 hA K hK
      have eg117 : a1.tmps.getD 117 undef = .bool false := hA.val 66 117 (by kernel_rfl) (by kernel_rfl)
      obtain ⟨y119, e119, h119⟩ := hA.val 68 119 (by kernel_rfl) (by kernel_rfl)
      obtain ⟨y121, e121, h121⟩ := hA.val 70 121 (by kernel_rfl) (by kernel_rfl)
      refine opStep none 0 rfl (wanted_yes (j := 66) (d := 117) (b := false) rfl (by kernel_rfl) eg117) (fun c hc => by cases hc) ?_
      go_simp
      refine (truth_yes h119 HCK.out HTR.out h121).mono ?_
      rintro e W3 ⟨rfl, hb3⟩
      exact hK _ _ rfl hb3 trivial
    · -- 72
      intro li a1 W2 hA K hK
      have eg117 : a1.tmps.getD 117 undef = .bool false := hA.val 66 117 (by kernel_rfl) (by kernel_rfl)
      have e122 : a1.tmps.getD 122 undef = .bool true := hA.val 71 122 (by kernel_rfl) (by kernel_rfl)
      refine opStep none 0 rfl (wanted_yes (j := 66) (d := 117) (b := false) rfl (by kernel_rfl) eg117) (fun c hc => by cases hc) ?_
      go_simp
      exact hK _ _ rfl (Below.refl _ _) trivial
  intro li a1 W2 hD
  have e117 : a1.tmps.getD 117 undef = .bool false := hD.val 66 117 (by kernel_rfl) (by kernel_rfl)
  have e123 : a1.tmps.getD 123 undef = .bool false := hD.val 72 123 (by kernel_rfl) (by kernel_rfl)
  have hkp2 := hD.keeps (ds := [51, 52, 53, 54, 55, 56, 57, 58, 59, 60, 61, 62, 63, 64, 65, 66, 67, 68, 69, 70, 71, 72, 73, 74, 75, 76, 77, 78, 79, 80, 81, 82, 83, 84, 85, 86, 87, 88, 89, 90, 91, 92, 93, 94, 95, 96, 97, 98, 99, 100, 101, 102, 103, 104, 105, 106, 107, 108, 109, 110, 111, 112, 113, 114, 115, 116, 117, 118, 119, 120, 121, 122, 123, 124]) (by kernel_rfl)
  have hds := hD.size
  have hsz9 : a1.tmps.size = 239 := hD.size
  have hdd := hD.defers
  have hst := hD.st
  refine tail_val (i := 73) (v := .bool false) (W' := W2) none 0 rfl rfl rfl (fun c hc => by cases hc) (by go_simp) (by rw [hsz9]; decide) ?_
  intro a3 s3 d3 f3 o3
  have hkp3 := keeps_then hkp2 o3 (by decide)
  have e := act_mix [51, 52, 53, 54, 55, 56, 57, 58, 59, 60, 61, 62, 63, 64, 65, 66, 67, 68, 69, 70, 71, 72, 73, 74, 75, 76, 77, 78, 79, 80, 81, 82, 83, 84, 85, 86, 87, 88, 89, 90, 91, 92, 93, 94, 95, 96, 97, 98, 99, 100, 101, 102, 103, 104, 105, 106, 107, 108, 109, 110, 111, 112, 113, 114, 115, 116, 117, 118, 119, 120, 121, 122, 123, 124] (s3.trans (hds)) (d3.trans (hdd)) (fun i _ hc => hkp3 i hc)
  have hgg0 : (fun i => a3.tmps.getD i undef) 124 = .bool false := f3
  generalize (fun i => a3.tmps.getD i undef) = g' at e hgg0
  refine wpListIn_nil ?_
  rw [e]
  clear e hD hkp2 hkp3 hds hdd hsz9 s3 d3 f3 o3 e117 e123
  simp only [mix, List.contains_cons, List.contains_nil, Nat.reduceAdd, Nat.reduceBEq, Bool.or_false, Bool.or_true, cond_true, cond_false, hgg0]
  clear hgg0
  have hb := hst
  clear hst
  have HB11 := hid (HB10.out.trans (hb.mono HB10.out.size))
  have HT11 := hid (HT10.out.keep hb)
  have X_11 := hid (X_10.out.at_ hb)
  have P_11 := hid (P_10.out.at_ hb)
  have Q_11 := hid (Q_10.out.at_ hb)
  have YA_11 := hid (YA_10.out.at_ hb)
  have YB_11 := hid (YB_10.out.at_ hb)
  have O_11 := hid (O_0.out.at_ hb)
  clear hb
  generalize W2 = w11 at *
  obtain ⟨t0, t1, t2, t3⟩ := HT11.out.c4
  go_wp2
  clear t0 t1 t2 t3
  go_loopw [15] (fun i W => ∃ k : Nat, k ≤ m.ss.length ∧ i = .int .i64 k ∧ Below w11.heap.size w11 W) (fun i _ => m.ss.length - (intOf i).toNat)
  case atStart => exact ⟨0, Nat.zero_le _, rfl, Below.refl _ _⟩
  case round =>
    obtain ⟨k, hk, rfl, hbr⟩ := hrel
    have HR := hid hbr
    clear hbr
    by_cases hlt : k < m.ss.length
    · have hkI : (k : Int) < (m.ss.length : Int) := by omega
      obtain ⟨a9, e9, g9, f9a, f9b⟩ := (YA_11.out.at_ HR.out).1 k (strOne m k) (by unfold strL; rw [List.getElem?_map, List.getElem?_range hlt]; rfl)
      replace e9 : A9 = some a9 := e9
      subst e9
      obtain ⟨x, hx⟩ : ∃ x, xs.getD k 0 = x := ⟨_, rfl⟩
      have fx := int_at (X_11.out.at_ HR.out).1 (xs_get HLX.out hlt)
      rw [hx] at fx
      have hst := tr_street OK.out HTR.out hlt
      rw [hx] at hst
      have hc1 : decide (x < (strOne m k).1) = false := by simp; omega
      have hc2 : decide ((strOne m k).2 < x) = false := by simp; omega
      have s1 := xt_cell fx
      have s2 := xt_cell f9a
      have s3 := xt_cell f9b
      clear fx f9a f9b g9 hst hx
      go_wp2
      refine wp_region_quiet_xt (by kernel_rfl) (by kernel_rfl) ?_
      repeat (go_big_quiet_step (fail))
      refine wpQuiet_nil ?_
      intro W3 hw3
      replace hw3 := of_xt hw3
      have HNX := hid (HR.out.trans (hw3.mono HR.out.size))
      clear hw3 s1 s2 s3 HR
      go_wp2
      go_roundw
      case rel => exact ⟨k + 1, by omega, by go_num, HNX.out⟩
      case measure => first | (simp [intOf]; done) | (simp [intOf]; omega)
    · have hkI : decide ((k : Int) < (m.ss.length : Int)) = false := by simp; omega
      have HBR := hid (HB11.out.trans (HR.out.mono HB11.out.size))
      have HTR9 := hid (HT11.out.keep HR.out)
      have X_0 := hid (X_11.out.at_ HR.out)
      have Q_0 := hid (Q_11.out.at_ HR.out)
      have YB_0 := hid (YB_11.out.at_ HR.out)
      have O_0 := hid (O_11.out.at_ HR.out)
      clear HR
      generalize wr = v9 at *
      go_wp2
      obtain ⟨t0, t1, t2, t3⟩ := HTR9.out.c4
      clear t0 t1 t2 t3
      refine (wpIn_wide (n := 0)).1 ?_
      refine wpIn_region_each 5 (fun i v W' => match i with | 0 => v = .agg #[.slice A m.old.length c, .int .i64 m.nw, .slice A2 m.ss.length c2, .slice A3 m.js.length c3] | 1 => v = .agg #[.slice A m.old.length c, .int .i64 m.nw, .slice A2 m.ss.length c2, .slice A3 m.js.length c3] | 2 => ∃ (y : Option Addr × Nat), v = .slice y.1 (lst m (ownL m)).length y.2 ∧ IntsAt y (lst m (ownL m)) W' | 3 => v = .slice (some ax) m.ss.length cx | 4 => ∃ (y : Addr × Nat), v = .slice (some y.1) N y.2 ∧ IntsAt (some y.1, y.2) (smD m (ownL m) xs) W' | _ => True) (fun A B => Below A.heap.size A B) (fun _ _ => True) (by kernel_rfl) (by kernel_rfl) ?_ (fun h k => h.trans (k.mono h.size)) ⟨rfl, rfl, rfl, Nat.le_refl _, fun _ _ => rfl⟩ trivial (by kernel_rfl) ?_ ?_
      · intro i v W1 W2 hb h
        match i, h with
        | 0, h => exact h
        | 1, h => exact h
        | 2, h =>
          obtain ⟨y, rfl, h1⟩ := h
          exact ⟨_, rfl, h1.at_ hb⟩
        | 3, h => exact h
        | 4, h =>
          obtain ⟨y, rfl, h1⟩ := h
          exact ⟨_, rfl, h1.at_ hb⟩
        | i + 5, h => trivial
      · refine ⟨?_, ?_, ?_, ?_, ?_, trivial⟩
        · -- 0
          intro li a1 W2 hA K hK
          have e2 := hA.par 2 (by kernel_rfl)
          obtain ⟨q1, q2, q3, q4⟩ := (HTR9.out.keep hA.st).c4
          refine opStep none 0 rfl rfl (fun c hc => by cases hc) ?_
          go_simp
          exact hK _ _ rfl (Below.refl _ _) trivial
        · -- 1
          intro li a1 W2 hA K hK
          have e2 := hA.par 2 (by kernel_rfl)
          obtain ⟨q1, q2, q3, q4⟩ := (HTR9.out.keep hA.st).c4
          refine opStep none 0 rfl rfl (fun c hc => by cases hc) ?_
          go_simp
          exact hK _ _ rfl (Below.refl _ _) trivial
        · -- 2
          intro li a1 W2 hA K hK
          have e154 : a1.tmps.getD 154 undef = .agg #[.slice A m.old.length c, .int .i64 m.nw, .slice A2 m.ss.length c2, .slice A3 m.js.length c3] := hA.val 1 154 (by kernel_rfl) (by kernel_rfl)
          refine opStep none 0 rfl rfl (fun c hc => by cases hc) ?_
          go_simp
          refine ((qown_any m A c A2 c2 A3 c3 W2 (HH.out.at_ (HBR.out.trans (hA.st.mono HBR.out.size))).toMIn (by have := OK.out.s8; omega)).mono fun _ _ => GivesInts.i).mono ?_
          rintro e W3 ⟨y, rfl, hy, hb3⟩
          exact hK _ _ ⟨y, rfl, hy⟩ hb3 trivial
        · -- 3
          intro li a1 W2 hA K hK
          have e5 := hA.par 5 (by kernel_rfl)
          refine opStep none 0 rfl rfl (fun c hc => by cases hc) ?_
          go_simp
          exact hK _ _ rfl (Below.refl _ _) trivial
        · -- 4
          intro li a1 W2 hA K hK
          have e153 : a1.tmps.getD 153 undef = .agg #[.slice A m.old.length c, .int .i64 m.nw, .slice A2 m.ss.length c2, .slice A3 m.js.length c3] := hA.val 0 153 (by kernel_rfl) (by kernel_rfl)
          obtain ⟨y155, e155, h155⟩ := hA.val 2 155 (by kernel_rfl) (by kernel_rfl)
          have e156 : a1.tmps.getD 156 undef = .slice (some ax) m.ss.length cx := hA.val 3 156 (by kernel_rfl) (by kernel_rfl)
          refine opStep none 0 rfl rfl (fun c hc => by cases hc) ?_
          go_simp
          refine (sums_some m A c A2 c2 A3 c3 OK.out HN.out h155 (z := (some ax, cx)) (X_0.out.at_ hA.st) HTR.out).mono ?_
          rintro e W3 ⟨y, rfl, hy, hb3⟩
          exact hK _ _ ⟨y, rfl, hy⟩ hb3 trivial
      intro li a1 W2 hD
      obtain ⟨y157, e157, h157⟩ := hD.val 4 157 (by kernel_rfl) (by kernel_rfl)
      have hkp2 := hD.keeps (ds := [153, 154, 155, 156, 157, 16]) (by kernel_rfl)
      have hds := hD.size
      have hsz9 : a1.tmps.size = 239 := hD.size
      have hdd := hD.defers
      have hst := hD.st
      refine tail_val (i := 5) (v := .slice (some y157.1) N y157.2) (W' := W2) none 0 rfl rfl rfl (fun c hc => by cases hc) (by go_simp) (by rw [hsz9]; decide) ?_
      intro a3 s3 d3 f3 o3
      have hkp3 := keeps_then hkp2 o3 (by decide)
      have e := act_mix [153, 154, 155, 156, 157, 16] (s3.trans (hds)) (d3.trans (hdd)) (fun i _ hc => hkp3 i hc)
      have hgg0 : (fun i => a3.tmps.getD i undef) 16 = .slice (some y157.1) N y157.2 := f3
      generalize (fun i => a3.tmps.getD i undef) = g' at e hgg0
      refine wpListIn_nil ?_
      rw [e]
      clear e hD hkp2 hkp3 hds hdd hsz9 s3 d3 f3 o3 e157
      simp only [mix, List.contains_cons, List.contains_nil, Nat.reduceAdd, Nat.reduceBEq, Bool.or_false, Bool.or_true, cond_true, cond_false, hgg0]
      clear hgg0
      have hb := hst
      clear hst
      have HB61 := hid (HBR.out.trans (hb.mono HBR.out.size))
      have HT61 := hid (HTR9.out.keep hb)
      have X_61 := hid (X_0.out.at_ hb)
      have Q_61 := hid (Q_0.out.at_ hb)
      have YB_61 := hid (YB_0.out.at_ hb)
      have O_61 := hid (O_0.out.at_ hb)
      have HSZ := hid h157
      clear h157
      clear hb
      generalize W2 = w61 at *
      obtain ⟨t0, t1, t2, t3⟩ := HT61.out.c4
      have S_0 := hid (HSZ.out)
      rw [HN.out] at t1
      go_wp2
      clear t0 t1 t2 t3
      have HTX9 := hid HTR.out
      clear HTR
      go_loopw [17, 18] (fun i _ W => ∃ d : Nat, d ≤ N ∧ i = .int .i64 d ∧ Below w61.heap.size w61 W) (fun i _ _ => N - (intOf i).toNat)
      case atStart => exact ⟨0, Nat.zero_le _, rfl, Below.refl _ _⟩
      case round =>
        obtain ⟨d, hd, rfl, hbr⟩ := hrel
        have HR := hid hbr
        have HTR := hid (HT61.out.keep hbr)
        have HBR := hid (HB61.out.trans (hbr.mono HB61.out.size))
        obtain ⟨t0, t1, t2, t3⟩ := HTR.out.c4
        rw [HN.out] at t1
        clear hbr
        by_cases hlt : d < N
        · have hdI : (d : Int) < (N : Int) := by omega
          have hdT : d < m.nw.toNat := by have := HNT.out; omega
          obtain ⟨b1, b2, b3, b4⟩ := bndOne_bounds OK.out d
          have b9 := smTo_bounds (M := 10000) (by omega) (car_bounds OK.out) _ _ (List.mem_of_getElem? (smQ_get (m := m) (q := d) hdT))
          rw [car_len] at b9
          have hsz := tr_size OK.out HTX9.out hdT
          have hof := tr_off OK.out HTX9.out hdT
          have f1 := int_at (S_0.out.at_ HR.out).1 (szX_get (m := m) (xs := xs) hdT)
          obtain ⟨a6, e6, _, f2⟩ := (Q_61.out.at_ HR.out).1 d _ (smQ_get hdT)
          obtain ⟨a13, e13, _, f3⟩ := (O_61.out.at_ HR.out).1 d (offOne m d) (by unfold offL; rw [List.getElem?_map, List.getElem?_range hdT]; rfl)
          obtain ⟨a11, e11, _, f4, f5⟩ := (YB_61.out.at_ HR.out).1 d (bndOne m d) (bndL_at hdT)
          replace e6 : A6 = some a6 := e6
          replace e13 : A13 = some a13 := e13
          replace e11 : A11 = some a11 := e11
          subst e6 e13 e11
          generalize szX m xs d = n at *
          generalize smQ m d = q at *
          generalize offOne m d = o at *
          generalize bndOne m d = r at *
          obtain ⟨r1, r2⟩ := r
          replace f4 : wr.cell? (a11.add (d * 2)) = some (.int .i64 r1) := f4
          replace f5 : wr.cell? ⟨(a11.add (d * 2)).block, (a11.add (d * 2)).off + 1, none⟩ = some (.int .i64 r2) := f5
          replace hsz : r1 ≤ n ∧ n ≤ r2 := hsz
          replace hof : n - q ≤ o ∧ q - n ≤ o ∧ o = max (r2 - q) (q - r1) := hof
          replace b1 : -320000 ≤ r1 := b1
          replace b4 : r2 ≤ 320000 := b4
          have hc1 : decide (n < r1) = false := by simp; omega
          have hc2 : decide (r2 < n) = false := by simp; omega
          have hw1 : IntKind.i64.wrap (n - q) = n - q := IntWalk.i64_in _ (by omega)
          have hw2 : IntKind.i64.wrap (q - n) = q - n := IntWalk.i64_in _ (by omega)
          have hw3 : IntKind.i64.wrap (r2 - q) = r2 - q := IntWalk.i64_in _ (by omega)
          have hw4 : IntKind.i64.wrap (q - r1) = q - r1 := IntWalk.i64_in _ (by omega)
          have hc3 : decide (o < n - q) = false := by simp; omega
          have hc4 : decide (o < q - n) = false := by simp; omega
          have hmx : (if r2 - q < q - r1 then q - r1 else r2 - q) = o := by rw [hof.2.2]; split <;> omega
          have hmv : (if r2 - q < q - r1 then Value.int .i64 (q - r1) else Value.int .i64 (r2 - q)) = Value.int .i64 o := by rw [hof.2.2]; split <;> congr 1 <;> omega
          clear b1 b2 b3 b4 b9 hsz hof
          go_wp2
          have s1 := xt_cell f1
          have s2 := xt_cell f2
          have s3 := xt_cell f3
          have s4 := xt_cell f4
          have s5 := xt_cell f5
          clear t0 t1 t2 t3 f1 f2 f3 f4 f5
          simp only [List.append_eq, List.cons_append, List.nil_append]
          refine wp_region_quiet_xt (by kernel_rfl) (by kernel_rfl) ?_
          repeat (go_big_quiet_step (fail))
          refine wpQuiet_nil ?_
          intro W3 hw3
          replace hw3 := of_xt hw3
          have HNX := hid (HR.out.trans (hw3.mono HR.out.size))
          clear hw3 s1 s2 s3 s4 s5 HR
          go_wp2
          go_roundw
          case rel => exact ⟨d + 1, by omega, by go_num, HNX.out⟩
          case measure => first | (simp [intOf]; done) | (simp [intOf]; omega)
        · have hdI : decide ((d : Int) < (N : Int)) = false := by simp; omega
          have K91 := hid (awake_any wr)
          go_wp2_with fail
          refine K91.out.mono ?_
          rintro e w91 ⟨rfl, hb⟩
          have HB91 := hid (HBR.out.trans (hb.mono HBR.out.size))
          have HT91 := hid (HTR.out.keep hb)
          clear hb K91 t0 t1 t2 t3
          obtain ⟨t0, t1, t2, t3⟩ := HT91.out.c4
          clear t0 t1 t2 t3
          go_wp2
          go_ret
          exact ⟨rfl, HB91.out⟩

theorem truth_any9 (m : MapD) (A : Option Addr) (c : Nat) (A2 : Option Addr) (c2 : Nat) (A3 : Option Addr) (c3 : Nat) (Aw : Option Addr) (cw : Nat) (ws : List Int) (w : World) (h : MArg m A c A2 c2 A3 c3 w) (hw : IsWords w w.heap.size Aw ws) (hwl : ws.length ≤ maxLen) :
    Calls Try.prog 13 #[.agg #[.slice A m.old.length c, .int .i64 m.nw, .slice A2 m.ss.length c2, .slice A3 m.js.length c3], .slice Aw ws.length cw] w fun e w' => e = .returned (.bool true) ∧ Below w.heap.size w w' := by
  cases hr : readyM m
  · exact tru_not m A c A2 c2 A3 c3 Aw cw ws w h hr
  · exact tru_good m A c A2 c2 A3 c3 Aw cw ws w h hw hwl hr

open Go.ChangeShapes Go.WideShapes Go.ChangeAt in
set_option maxRecDepth 100000 in
theorem truths_lifted (os : Os) (started : os.Started) (H : Type) (enc : TypeId × Value → H) :
    ReturnsInHanded {} Try.checked os 13 .any (Rows.borderTruthSpec.pre6 enc Try.prog Try.f13 Rows.borderTruthRow.domain false) (Rows.borderTruthSpec.post enc Try.prog Try.f13 false true false false) := by
  refine returnsInHanded_of_change (C := Try.checked) own started (by kernel_rfl) Try.func13
    (ChangeSpec.witness6 (enc := enc) (C := Try.checked) false ⟨#[], #[.agg #[.slice none 0 0, .int .i64 0, .slice none 0 0, .slice none 0 0], .slice none 0 0], []⟩ 8 (by kernel_rfl) (by kernel_rfl) (by kernel_rfl) (by kernel_rfl)) ?_
  intro W base args ds gs before hval0 hW hcnd _
  have hval : ∀ (j : Nat) t v, Try.f13.params[j]? = some t → args[j]? = some v → Value.okWide Try.prog W .any base t v := hval0
  have hW' := hW
  obtain ⟨p, q, hA0, hV, rfl, hfz, hnd⟩ := hW
  have hA : DataW.TrodAll enc Try.prog W 0 (fun _ => true) true Try.f13.params.toList args.toList ds p := hA0
  rw [Try.params13] at hA hval
  obtain ⟨v0, vs0, d0, ds0, p0, q0, hargs, rfl, rfl, h0, r0⟩ := trodAll_cons hA
  obtain ⟨v1, vs1, d1, ds1, p1, q1, rfl, rfl, rfl, h1, r1⟩ := trodAll_cons r0
  obtain ⟨rfl, rfl, rfl⟩ := trodAll_nil r1
  obtain rfl : args = #[v0, v1] := by cases args; simp_all
  obtain ⟨rfl, rfl⟩ := trodVars_none hV
  obtain ⟨m, A, c, A2, c2, A3, c3, rfl, ht⟩ := open_map (hval 0 26 v0 rfl rfl) h0
  obtain ⟨Aw, cw, ws, rfl, u1, u2, u3, u4, u5⟩ := open_nums Try.underlying81 Try.underlying52 (by kernel_rfl) (hval 1 81 v1 rfl rfl) h1
  have hwd : IsWords W W.heap.size Aw ws := fun i x hi => by
    have h9 := u4 x (List.mem_of_getElem? hi)
    have e1 : IntKind.u16.min = 0 := by decide
    have e2 : IntKind.u16.max = 65535 := by decide
    exact ⟨by omega, by omega, u5 i x hi⟩
  refine (truth_any9 m A c A2 c2 A3 c3 Aw cw ws W ht hwd (by omega)).mono fun e W' ⟨he, hb⟩ => ⟨_, he, ?_⟩
  exact law_post laid_out rfl rfl (by kernel_rfl) hW' rfl hb

theorem truths_over : Rows.borderTruthRow.holds Try.pinned (OpenSpec.ofChange Rows.borderTruthSpec) :=
  OpenClaim.holds_of_wide 13 Try.f13 rfl rfl rfl rfl rfl rfl rfl ⟨rfl, rfl, rfl, rfl, rfl⟩ rfl rfl rfl rfl rfl (by kernel_rfl) Try.func13 (by kernel_rfl)
    (of_decide_eq_true (by kernel_rfl)) (by unfold Func.isWrapper; first | (rw [if_pos (by decide +kernel)]; kernel_rfl) | (rw [if_neg (by decide +kernel)]; exact ⟨rfl, rfl⟩))
    (fun os started H enc _ => truths_lifted os started H enc)
/-- the statement -/
theorem border_truth : Rows.BorderTruthSaid := truths_over
#print axioms border_truth
end Go.Proofs.Ytoeabajigfdkaaa
