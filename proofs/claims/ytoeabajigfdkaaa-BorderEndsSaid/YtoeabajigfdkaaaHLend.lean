/- For every map that is ready, both ends of the bounds of a street and of a new district are reached: the statement BorderEnds. No condition. -/
import Derived.Test.YtoeabajigfdkaaaG3
import Derived.Test.YtoeabajigfdkaaaG17
import Derived.Test.YtoeabajigfdkaaaG21
namespace Go.Proofs.Ytoeabajigfdkaaa
open Go.RowKit Go.Shelf

set_option maxRecDepth 100000 in
set_option maxHeartbeats 4000000 in
theorem ends_not (m : MapD) (A : Option Addr) (c : Nat) (A2 : Option Addr) (c2 : Nat) (A3 : Option Addr) (c3 : Nat) (q : Int) (high : Bool) (w : World) (h : MArg m A c A2 c2 A3 c3 w) (hr : readyM m = false) :
    Calls Try.prog 14 #[.agg #[.slice A m.old.length c, .int .i64 m.nw, .slice A2 m.ss.length c2, .slice A3 m.js.length c3], .int .u8 q, .bool high] w fun e w' => e = .returned (.bool true) ∧ Below w.heap.size w w' := by
  have hB := below_box (w := w) #[.slice A m.old.length c, .int .i64 m.nw, .slice A2 m.ss.length c2, .slice A3 m.js.length c3] 26
  have hT := Blk.new w 26 #[.slice A m.old.length c, .int .i64 m.nw, .slice A2 m.ss.length c2, .slice A3 m.js.length c3]
  have HB0 := hid hB
  have HT0 := hid hT
  have HH := hid h
  obtain ⟨t0, t1, t2, t3⟩ := hT.c4
  clear h hB hT
  have HRD := hid hr
  clear hr
  go_enter Try.func14, Try.ntmps14
  have K1 := hid (mready_any m A c A2 c2 A3 c3 (w.alloc (.cells #[.slice A m.old.length c, .int .i64 m.nw, .slice A2 m.ss.length c2, .slice A3 m.js.length c3] 26)) (HH.out.at_ HB0.out).toMIn)
  rw [HRD.out] at K1
  go_wp2_with fail
  refine K1.out.mono ?_
  rintro e w1 ⟨rfl, hb⟩
  have HB1 := hid (HB0.out.trans (hb.mono HB0.out.size))
  have HT1 := hid (HT0.out.keep hb)
  clear hb K1 t0 t1 t2 t3
  obtain ⟨t0, t1, t2, t3⟩ := HT1.out.c4
  have K2 := hid (awake_any w1)
  go_wp2_with fail
  refine K2.out.mono ?_
  rintro e w2 ⟨rfl, hb⟩
  have HB2 := hid (HB1.out.trans (hb.mono HB1.out.size))
  have HT2 := hid (HT1.out.keep hb)
  clear hb K2 t0 t1 t2 t3
  obtain ⟨t0, t1, t2, t3⟩ := HT2.out.c4
  clear t0 t1 t2 t3
  go_wp2
  go_ret
  exact ⟨rfl, HB2.out⟩

set_option maxRecDepth 100000 in
set_option maxHeartbeats 8000000 in
theorem ends_good (m : MapD) (A : Option Addr) (c : Nat) (A2 : Option Addr) (c2 : Nat) (A3 : Option Addr) (c3 : Nat) (q : Int) (high : Bool) (w : World) (h : MArg m A c A2 c2 A3 c3 w) (hr : readyM m = true) (hq0 : 0 ≤ q) (hq1 : q ≤ 255) :
    Calls Try.prog 14 #[.agg #[.slice A m.old.length c, .int .i64 m.nw, .slice A2 m.ss.length c2, .slice A3 m.js.length c3], .int .u8 q, .bool high] w fun e w' => e = .returned (.bool true) ∧ Below w.heap.size w w' := by
  have hB := below_box (w := w) #[.slice A m.old.length c, .int .i64 m.nw, .slice A2 m.ss.length c2, .slice A3 m.js.length c3] 26
  have hT := Blk.new w 26 #[.slice A m.old.length c, .int .i64 m.nw, .slice A2 m.ss.length c2, .slice A3 m.js.length c3]
  have HB0 := hid hB
  have HT0 := hid hT
  have HH := hid h
  obtain ⟨t0, t1, t2, t3⟩ := hT.c4
  clear h hB hT
  have HRD := hid hr
  have HCM := hid (ready_iff.1 hr).2
  have HTH := hid (ready_iff.1 hr).1
  have OK := hid (chk_okm (cst_ok (ready_iff.1 hr).2).1)
  have hs8 := OK.out.s8
  have hs1 := OK.out.s1
  have hn1 := OK.out.n1
  have hn4 := OK.out.n4
  obtain ⟨N, hN⟩ : ∃ N : Nat, m.nw = (N : Int) := ⟨m.nw.toNat, by omega⟩
  obtain ⟨k, hk⟩ : ∃ k : Nat, (k : Int) = q % (m.ss.length : Int) := ⟨(q % (m.ss.length : Int)).toNat, by have := Int.emod_nonneg q (show (m.ss.length : Int) ≠ 0 by omega); omega⟩
  obtain ⟨u, hu⟩ : ∃ u, q / 8 = u := ⟨_, rfl⟩
  obtain ⟨d, hd⟩ : ∃ d : Nat, (d : Int) = u % m.nw := ⟨(u % m.nw).toNat, by have := Int.emod_nonneg u (show m.nw ≠ 0 by omega); omega⟩
  have hkI : (k : Int) < (m.ss.length : Int) := by rw [hk]; exact Int.emod_lt_of_pos q (by omega)
  have hdI : (d : Int) < m.nw := by rw [hd]; exact Int.emod_lt_of_pos u (by omega)
  have hkS : k < m.ss.length := by omega
  have htk : q.tmod (m.ss.length : Int) = (k : Int) := by rw [Int.tmod_eq_emod_of_nonneg hq0]; exact hk.symm
  have htu : q.tdiv 8 = u := by rw [Int.tdiv_eq_ediv_of_nonneg hq0]; exact hu
  have hu0 : 0 ≤ u ∧ u ≤ 255 := by omega
  have htd : u.tmod m.nw = (d : Int) := by rw [Int.tmod_eq_emod_of_nonneg hu0.1]; exact hd.symm
  have hwq : IntKind.i64.wrap q = q := IntWalk.i64_in _ (by omega)
  have hwk : IntKind.i64.wrap (k : Int) = (k : Int) := IntWalk.i64_in _ (by omega)
  have hwu : IntKind.i64.wrap u = u := IntWalk.i64_in _ (by omega)
  have hwd : IntKind.i64.wrap (d : Int) = (d : Int) := IntWalk.i64_in _ (by omega)
  have hz1 : ¬ (m.ss.length : Int) = 0 := by omega
  have hz2 : ¬ m.nw = 0 := by omega
  have hdN : (d : Int) < (N : Int) := by omega
  have hdT : d < m.nw.toNat := by omega
  have HN := hid hN
  have HDI := hid hdI
  have HDT := hid hdT
  have HSL := hid (show (strL m).length = m.ss.length by simp [strL])
  have HBL := hid (show (bndL m).length = N by rw [bndL_len]; omega)
  have HCK := hid (cst_ok (ready_iff.1 hr).2).1
  clear hr hN hk hu hd hdI hdT
  go_enter Try.func14, Try.ntmps14
  have K1 := hid (mready_any m A c A2 c2 A3 c3 (w.alloc (.cells #[.slice A m.old.length c, .int .i64 m.nw, .slice A2 m.ss.length c2, .slice A3 m.js.length c3] 26)) (HH.out.at_ HB0.out).toMIn)
  rw [HRD.out] at K1
  go_wp2_with fail
  refine K1.out.mono ?_
  rintro e w1 ⟨rfl, hb⟩
  have HB1 := hid (HB0.out.trans (hb.mono HB0.out.size))
  have HT1 := hid (HT0.out.keep hb)
  clear hb K1 t0 t1 t2 t3
  obtain ⟨t0, t1, t2, t3⟩ := HT1.out.c4
  go_wp2
  clear t0 t1 t2 t3
  obtain ⟨x0, x1, x2, x3⟩ := xt_c4 HT1.out
  refine wp_region_quiet_xt (by kernel_rfl) (by kernel_rfl) ?_
  repeat (go_big_quiet_step (fail))
  refine wpQuiet_nil ?_
  intro W3 hw3
  have hb := of_xt hw3
  have HB2 := hid (HB1.out.trans (hb.mono HB1.out.size))
  have HT2 := hid (HT1.out.keep hb)
  clear hb hw3 x0 x1 x2 x3 htk htu htd hwq hwk hwu hwd hz1 hz2
  generalize W3 = w2 at *
  obtain ⟨t0, t1, t2, t3⟩ := HT2.out.c4
  have K3 := hid (map_thin (HH.out.at_ HB2.out) HTH.out)
  go_wp2_with fail
  refine K3.out.mono ?_
  rintro e w3 ⟨P3, Q3, R3, rfl, hm, hb⟩
  have HB3 := hid (HB2.out.trans (hb.mono HB2.out.size))
  have HT3 := hid (HT2.out.keep hb)
  have M3 := hid hm
  clear hm
  clear hb K3 t0 t1 t2 t3
  obtain ⟨t0, t1, t2, t3⟩ := HT3.out.c4
  have K4 := hid (streets_good M3.out HCM.out)
  unfold GivesR0 at K4
  rw [HSL.out] at K4
  go_wp2_with fail
  refine K4.out.mono ?_
  rintro e w4 ⟨⟨A9, c9⟩, rfl, hy, hb⟩
  have HB4 := hid (HB3.out.trans (hb.mono HB3.out.size))
  have HT4 := hid (HT3.out.keep hb)
  have HYA := hid hy
  clear hy
  clear hb K4 t0 t1 t2 t3
  obtain ⟨t0, t1, t2, t3⟩ := HT4.out.c4
  have YA_0 := hid (HYA.out)
  have K5 := hid (map_thin (HH.out.at_ HB4.out) HTH.out)
  go_wp2_with fail
  refine K5.out.mono ?_
  rintro e w5 ⟨P5, Q5, R5, rfl, hm, hb⟩
  have HB5 := hid (HB4.out.trans (hb.mono HB4.out.size))
  have HT5 := hid (HT4.out.keep hb)
  have YA_5 := hid (YA_0.out.at_ hb)
  have M5 := hid hm
  clear hm
  clear hb K5 t0 t1 t2 t3
  obtain ⟨t0, t1, t2, t3⟩ := HT5.out.c4
  have K6 := hid (bounds_good M5.out HCM.out)
  unfold GivesR0 at K6
  rw [HBL.out] at K6
  go_wp2_with fail
  refine K6.out.mono ?_
  rintro e w6 ⟨⟨A11, c11⟩, rfl, hy, hb⟩
  have HB6 := hid (HB5.out.trans (hb.mono HB5.out.size))
  have HT6 := hid (HT5.out.keep hb)
  have YA_6 := hid (YA_5.out.at_ hb)
  have HYB := hid hy
  clear hy
  clear hb K6 t0 t1 t2 t3
  obtain ⟨t0, t1, t2, t3⟩ := HT6.out.c4
  have YB_0 := hid (HYB.out)
  rw [HN.out] at t1
  go_wp2
  clear t0 t1 t2 t3
  refine (wpIn_wide (n := 0)).1 ?_
  refine wpIn_region_each 6 (fun i v W' => match i with | 0 => v = .agg #[.slice A m.old.length c, .int .i64 m.nw, .slice A2 m.ss.length c2, .slice A3 m.js.length c3] | 1 => v = .agg #[.slice A m.old.length c, .int .i64 m.nw, .slice A2 m.ss.length c2, .slice A3 m.js.length c3] | 2 => v = .int .i64 (k : Int) | 3 => ∃ (y : Option Addr × Nat), v = .slice y.1 (lst m (aloneL k)).length y.2 ∧ IntsAt y (lst m (aloneL k)) W' | 4 => v = .bool high | 5 => ∃ (y : Addr × Nat), v = .slice (some y.1) m.ss.length y.2 ∧ SomeAt (Pushed m (aloneP k) high) y W' | _ => True) (fun A B => Below A.heap.size A B) (fun _ _ => True) (by kernel_rfl) (by kernel_rfl) ?_ (fun h k => h.trans (k.mono h.size)) ⟨rfl, rfl, rfl, Nat.le_refl _, fun _ _ => rfl⟩ trivial (by kernel_rfl) ?_ ?_
  · intro i v W1 W2 hb h
    match i, h with
    | 0, h => exact h
    | 1, h => exact h
    | 2, h => exact h
    | 3, h =>
      obtain ⟨y, rfl, h1⟩ := h
      exact ⟨_, rfl, h1.at_ hb⟩
    | 4, h => exact h
    | 5, h =>
      obtain ⟨y, rfl, h1⟩ := h
      exact ⟨_, rfl, h1.at_ hb⟩
    | i + 6, h => trivial
  · refine ⟨?_, ?_, ?_, ?_, ?_, ?_, trivial⟩
    · -- 0
      intro li a1 W2 hA K hK
      have e3 := hA.par 3 (by kernel_rfl)
      obtain ⟨q1, q2, q3, q4⟩ := (HT6.out.keep hA.st).c4
      refine opStep none 0 rfl rfl (fun c hc => by cases hc) ?_
      go_simp
      exact hK _ _ rfl (Below.refl _ _) trivial
    · -- 1
      intro li a1 W2 hA K hK
      have e3 := hA.par 3 (by kernel_rfl)
      obtain ⟨q1, q2, q3, q4⟩ := (HT6.out.keep hA.st).c4
      refine opStep none 0 rfl rfl (fun c hc => by cases hc) ?_
      go_simp
      exact hK _ _ rfl (Below.refl _ _) trivial
    · -- 2
      intro li a1 W2 hA K hK
      have e7 := hA.par 7 (by kernel_rfl)
      refine opStep none 0 rfl rfl (fun c hc => by cases hc) ?_
      go_simp
      exact hK _ _ rfl (Below.refl _ _) trivial
    · -- 3
      intro li a1 W2 hA K hK
      have e66 : a1.tmps.getD 66 undef = .agg #[.slice A m.old.length c, .int .i64 m.nw, .slice A2 m.ss.length c2, .slice A3 m.js.length c3] := hA.val 1 66 (by kernel_rfl) (by kernel_rfl)
      have e67 : a1.tmps.getD 67 undef = .int .i64 (k : Int) := hA.val 2 67 (by kernel_rfl) (by kernel_rfl)
      refine opStep none 0 rfl rfl (fun c hc => by cases hc) ?_
      go_simp
      refine ((qalone_any m k A c A2 c2 A3 c3 W2 (HH.out.at_ (HB6.out.trans (hA.st.mono HB6.out.size))).toMIn (by have := OK.out.s8; omega) hkS).mono fun _ _ => GivesInts.i).mono ?_
      rintro e W3 ⟨y, rfl, hy, hb3⟩
      exact hK _ _ ⟨y, rfl, hy⟩ hb3 trivial
    · -- 4
      intro li a1 W2 hA K hK
      have e2 := hA.par 2 (by kernel_rfl)
      refine opStep none 0 rfl rfl (fun c hc => by cases hc) ?_
      go_simp
      exact hK _ _ rfl (Below.refl _ _) trivial
    · -- 5
      intro li a1 W2 hA K hK
      have e65 : a1.tmps.getD 65 undef = .agg #[.slice A m.old.length c, .int .i64 m.nw, .slice A2 m.ss.length c2, .slice A3 m.js.length c3] := hA.val 0 65 (by kernel_rfl) (by kernel_rfl)
      obtain ⟨y68, e68, h68⟩ := hA.val 3 68 (by kernel_rfl) (by kernel_rfl)
      have e69 : a1.tmps.getD 69 undef = .bool high := hA.val 4 69 (by kernel_rfl) (by kernel_rfl)
      refine opStep none 0 rfl rfl (fun c hc => by cases hc) ?_
      go_simp
      refine (pushed_alone (HH.out.at_ (HB6.out.trans (hA.st.mono HB6.out.size))).toMIn HCM.out high h68).mono ?_
      rintro e W3 ⟨y, rfl, hy, hb3⟩
      exact hK _ _ ⟨y, rfl, hy⟩ hb3 trivial
  intro li a1 W2 hD
  obtain ⟨y70, e70, h70⟩ := hD.val 5 70 (by kernel_rfl) (by kernel_rfl)
  have hkp2 := hD.keeps (ds := [65, 66, 67, 68, 69, 70, 13]) (by kernel_rfl)
  have hds := hD.size
  have hsz9 : a1.tmps.size = 144 := hD.size
  have hdd := hD.defers
  have hst := hD.st
  refine tail_val (i := 6) (v := .slice (some y70.1) m.ss.length y70.2) (W' := W2) none 0 rfl rfl rfl (fun c hc => by cases hc) (by go_simp) (by rw [hsz9]; decide) ?_
  intro a3 s3 d3 f3 o3
  have hkp3 := keeps_then hkp2 o3 (by decide)
  have e := act_mix [65, 66, 67, 68, 69, 70, 13] (s3.trans (hds)) (d3.trans (hdd)) (fun i _ hc => hkp3 i hc)
  have hgg0 : (fun i => a3.tmps.getD i undef) 13 = .slice (some y70.1) m.ss.length y70.2 := f3
  generalize (fun i => a3.tmps.getD i undef) = g' at e hgg0
  refine wpListIn_nil ?_
  rw [e]
  clear e hD hkp2 hkp3 hds hdd hsz9 s3 d3 f3 o3 e70
  simp only [mix, List.contains_cons, List.contains_nil, Nat.reduceAdd, Nat.reduceBEq, Bool.or_false, Bool.or_true, cond_true, cond_false, hgg0]
  clear hgg0
  have hb := hst
  clear hst
  have HB7 := hid (HB6.out.trans (hb.mono HB6.out.size))
  have HT7 := hid (HT6.out.keep hb)
  have YA_7 := hid (YA_6.out.at_ hb)
  have YB_7 := hid (YB_0.out.at_ hb)
  obtain ⟨xs1, hp1, hi1⟩ := h70
  have HP1 := hid hp1
  have HI1 := hid hi1
  clear hp1 hi1
  clear hb
  generalize W2 = w7 at *
  obtain ⟨t0, t1, t2, t3⟩ := HT7.out.c4
  have I1_0 := hid (HI1.out)
  clear t0 t1 t2 t3
  go_wp2
  refine (wpIn_wide (n := 0)).1 ?_
  refine wpIn_region_each 6 (fun i v W' => match i with | 0 => v = .agg #[.slice A m.old.length c, .int .i64 m.nw, .slice A2 m.ss.length c2, .slice A3 m.js.length c3] | 1 => v = .agg #[.slice A m.old.length c, .int .i64 m.nw, .slice A2 m.ss.length c2, .slice A3 m.js.length c3] | 2 => ∃ (y : Option Addr × Nat), v = .slice y.1 (lst m (ownL m)).length y.2 ∧ IntsAt y (lst m (ownL m)) W' | 3 => v = .int .i64 (d : Int) | 4 => v = .bool high | 5 => ∃ (y : Addr × Nat), v = .slice (some y.1) m.ss.length y.2 ∧ SomeAt (Pushed m (inD (ownL m) (d : Int)) high) y W' | _ => True) (fun A B => Below A.heap.size A B) (fun _ _ => True) (by kernel_rfl) (by kernel_rfl) ?_ (fun h k => h.trans (k.mono h.size)) ⟨rfl, rfl, rfl, Nat.le_refl _, fun _ _ => rfl⟩ trivial (by kernel_rfl) ?_ ?_
  · intro i v W1 W2 hb h
    match i, h with
    | 0, h => exact h
    | 1, h => exact h
    | 2, h =>
      obtain ⟨y, rfl, h1⟩ := h
      exact ⟨_, rfl, h1.at_ hb⟩
    | 3, h => exact h
    | 4, h => exact h
    | 5, h =>
      obtain ⟨y, rfl, h1⟩ := h
      exact ⟨_, rfl, h1.at_ hb⟩
    | i + 6, h => trivial
  · refine ⟨?_, ?_, ?_, ?_, ?_, ?_, trivial⟩
    · -- 0
      intro li a1 W2 hA K hK
      have e3 := hA.par 3 (by kernel_rfl)
      obtain ⟨q1, q2, q3, q4⟩ := (HT7.out.keep hA.st).c4
      refine opStep none 0 rfl rfl (fun c hc => by cases hc) ?_
      go_simp
      exact hK _ _ rfl (Below.refl _ _) trivial
    · -- 1
      intro li a1 W2 hA K hK
      have e3 := hA.par 3 (by kernel_rfl)
      obtain ⟨q1, q2, q3, q4⟩ := (HT7.out.keep hA.st).c4
      refine opStep none 0 rfl rfl (fun c hc => by cases hc) ?_
      go_simp
      exact hK _ _ rfl (Below.refl _ _) trivial
    · -- 2
      intro li a1 W2 hA K hK
      have e72 : a1.tmps.getD 72 undef = .agg #[.slice A m.old.length c, .int .i64 m.nw, .slice A2 m.ss.length c2, .slice A3 m.js.length c3] := hA.val 1 72 (by kernel_rfl) (by kernel_rfl)
      refine opStep none 0 rfl rfl (fun c hc => by cases hc) ?_
      go_simp
      refine ((qown_any m A c A2 c2 A3 c3 W2 (HH.out.at_ (HB7.out.trans (hA.st.mono HB7.out.size))).toMIn (by have := OK.out.s8; omega)).mono fun _ _ => GivesInts.i).mono ?_
      rintro e W3 ⟨y, rfl, hy, hb3⟩
      exact hK _ _ ⟨y, rfl, hy⟩ hb3 trivial
    · -- 3
      intro li a1 W2 hA K hK
      have e8 := hA.par 8 (by kernel_rfl)
      refine opStep none 0 rfl rfl (fun c hc => by cases hc) ?_
      go_simp
      exact hK _ _ rfl (Below.refl _ _) trivial
    · -- 4
      intro li a1 W2 hA K hK
      have e2 := hA.par 2 (by kernel_rfl)
      refine opStep none 0 rfl rfl (fun c hc => by cases hc) ?_
      go_simp
      exact hK _ _ rfl (Below.refl _ _) trivial
    · -- 5
      intro li a1 W2 hA K hK
      have e71 : a1.tmps.getD 71 undef = .agg #[.slice A m.old.length c, .int .i64 m.nw, .slice A2 m.ss.length c2, .slice A3 m.js.length c3] := hA.val 0 71 (by kernel_rfl) (by kernel_rfl)
      obtain ⟨y73, e73, h73⟩ := hA.val 2 73 (by kernel_rfl) (by kernel_rfl)
      have e74 : a1.tmps.getD 74 undef = .int .i64 (d : Int) := hA.val 3 74 (by kernel_rfl) (by kernel_rfl)
      have e75 : a1.tmps.getD 75 undef = .bool high := hA.val 4 75 (by kernel_rfl) (by kernel_rfl)
      refine opStep none 0 rfl rfl (fun c hc => by cases hc) ?_
      go_simp
      refine (pushed_own (HH.out.at_ (HB7.out.trans (hA.st.mono HB7.out.size))).toMIn HCM.out d high h73).mono ?_
      rintro e W3 ⟨y, rfl, hy, hb3⟩
      exact hK _ _ ⟨y, rfl, hy⟩ hb3 trivial
  intro li a1 W2 hD
  obtain ⟨y76, e76, h76⟩ := hD.val 5 76 (by kernel_rfl) (by kernel_rfl)
  have hkp2 := hD.keeps (ds := [71, 72, 73, 74, 75, 76, 14]) (by kernel_rfl)
  have hds := hD.size
  have hsz9 : a1.tmps.size = 144 := hD.size
  have hdd := hD.defers
  have hst := hD.st
  refine tail_val (i := 6) (v := .slice (some y76.1) m.ss.length y76.2) (W' := W2) none 0 rfl rfl rfl (fun c hc => by cases hc) (by go_simp) (by rw [hsz9]; decide) ?_
  intro a3 s3 d3 f3 o3
  have hkp3 := keeps_then hkp2 o3 (by decide)
  have e := act_mix [71, 72, 73, 74, 75, 76, 14] (s3.trans (hds)) (d3.trans (hdd)) (fun i _ hc => hkp3 i hc)
  have hgg0 : (fun i => a3.tmps.getD i undef) 14 = .slice (some y76.1) m.ss.length y76.2 := f3
  generalize (fun i => a3.tmps.getD i undef) = g' at e hgg0
  refine wpListIn_nil ?_
  rw [e]
  clear e hD hkp2 hkp3 hds hdd hsz9 s3 d3 f3 o3 e76
  simp only [mix, List.contains_cons, List.contains_nil, Nat.reduceAdd, Nat.reduceBEq, Bool.or_false, Bool.or_true, cond_true, cond_false, hgg0]
  clear hgg0
  have hb := hst
  clear hst
  have HB8 := hid (HB7.out.trans (hb.mono HB7.out.size))
  have HT8 := hid (HT7.out.keep hb)
  have YA_8 := hid (YA_7.out.at_ hb)
  have YB_8 := hid (YB_7.out.at_ hb)
  have I1_8 := hid (I1_0.out.at_ hb)
  obtain ⟨xs2, hp2, hi2⟩ := h76
  have HP2 := hid hp2
  have HI2 := hid hi2
  have HSZ := hid (szX_get (m := m) (xs := xs2) HDT.out)
  clear hp2 hi2
  clear hb
  generalize W2 = w8 at *
  obtain ⟨t0, t1, t2, t3⟩ := HT8.out.c4
  have I2_0 := hid (HI2.out)
  clear t0 t1 t2 t3
  go_wp2
  refine (wpIn_wide (n := 0)).1 ?_
  refine wpIn_region_each 8 (fun i v W' => match i with | 0 => v = .agg #[.slice A m.old.length c, .int .i64 m.nw, .slice A2 m.ss.length c2, .slice A3 m.js.length c3] | 1 => v = .agg #[.slice A m.old.length c, .int .i64 m.nw, .slice A2 m.ss.length c2, .slice A3 m.js.length c3] | 2 => ∃ (y : Option Addr × Nat), v = .slice y.1 (lst m (ownL m)).length y.2 ∧ IntsAt y (lst m (ownL m)) W' | 3 => v = .slice (some y76.1) m.ss.length y76.2 | 4 => ∃ (y : Addr × Nat), v = .slice (some y.1) N y.2 ∧ IntsAt (some y.1, y.2) (smD m (ownL m) xs2) W' | 5 => v = .int .i64 (d : Int) | 6 => ∃ (y : Addr × Nat), v = .pointer (some (y.1.add d)) ∧ IntsAt (some y.1, y.2) (smD m (ownL m) xs2) W' | 7 => v = .int .i64 (szX m xs2 d) | _ => True) (fun A B => Below A.heap.size A B) (fun _ _ => True) (by kernel_rfl) (by kernel_rfl) ?_ (fun h k => h.trans (k.mono h.size)) ⟨rfl, rfl, rfl, Nat.le_refl _, fun _ _ => rfl⟩ trivial (by kernel_rfl) ?_ ?_
  · intro i v W1 W2 hb h
    match i, h with
    | 0, h => exact h
    | 1, h => exact h
    | 2, h =>
      obtain ⟨y, rfl, h1⟩ := h
      exact ⟨_, rfl, h1.at_ hb⟩
    | 3, h => exact h
    | 4, h =>
      obtain ⟨y, rfl, h1⟩ := h
      exact ⟨_, rfl, h1.at_ hb⟩
    | 5, h => exact h
    | 6, h =>
      obtain ⟨y, rfl, h1⟩ := h
      exact ⟨_, rfl, h1.at_ hb⟩
    | 7, h => exact h
    | i + 8, h => trivial
  · refine ⟨?_, ?_, ?_, ?_, ?_, ?_, ?_, ?_, trivial⟩
    · -- 0
      intro li a1 W2 hA K hK
      have e3 := hA.par 3 (by kernel_rfl)
      obtain ⟨q1, q2, q3, q4⟩ := (HT8.out.keep hA.st).c4
      refine opStep none 0 rfl rfl (fun c hc => by cases hc) ?_
      go_simp
      exact hK _ _ rfl (Below.refl _ _) trivial
    · -- 1
      intro li a1 W2 hA K hK
      have e3 := hA.par 3 (by kernel_rfl)
      obtain ⟨q1, q2, q3, q4⟩ := (HT8.out.keep hA.st).c4
      refine opStep none 0 rfl rfl (fun c hc => by cases hc) ?_
      go_simp
      exact hK _ _ rfl (Below.refl _ _) trivial
    · -- 2
      intro li a1 W2 hA K hK
      have e78 : a1.tmps.getD 78 undef = .agg #[.slice A m.old.length c, .int .i64 m.nw, .slice A2 m.ss.length c2, .slice A3 m.js.length c3] := hA.val 1 78 (by kernel_rfl) (by kernel_rfl)
      refine opStep none 0 rfl rfl (fun c hc => by cases hc) ?_
      go_simp
      refine ((qown_any m A c A2 c2 A3 c3 W2 (HH.out.at_ (HB8.out.trans (hA.st.mono HB8.out.size))).toMIn (by have := OK.out.s8; omega)).mono fun _ _ => GivesInts.i).mono ?_
      rintro e W3 ⟨y, rfl, hy, hb3⟩
      exact hK _ _ ⟨y, rfl, hy⟩ hb3 trivial
    · -- 3
      intro li a1 W2 hA K hK
      have e14 := hA.par 14 (by kernel_rfl)
      refine opStep none 0 rfl rfl (fun c hc => by cases hc) ?_
      go_simp
      exact hK _ _ rfl (Below.refl _ _) trivial
    · -- 4
      intro li a1 W2 hA K hK
      have e77 : a1.tmps.getD 77 undef = .agg #[.slice A m.old.length c, .int .i64 m.nw, .slice A2 m.ss.length c2, .slice A3 m.js.length c3] := hA.val 0 77 (by kernel_rfl) (by kernel_rfl)
      obtain ⟨y79, e79, h79⟩ := hA.val 2 79 (by kernel_rfl) (by kernel_rfl)
      have e80 : a1.tmps.getD 80 undef = .slice (some y76.1) m.ss.length y76.2 := hA.val 3 80 (by kernel_rfl) (by kernel_rfl)
      refine opStep none 0 rfl rfl (fun c hc => by cases hc) ?_
      go_simp
      refine (sums_some m A c A2 c2 A3 c3 OK.out HN.out h79 (z := (some y76.1, y76.2)) (I2_0.out.at_ hA.st) HP2.out.1).mono ?_
      rintro e W3 ⟨y, rfl, hy, hb3⟩
      exact hK _ _ ⟨y, rfl, hy⟩ hb3 trivial
    · -- 5
      intro li a1 W2 hA K hK
      have e8 := hA.par 8 (by kernel_rfl)
      refine opStep none 0 rfl rfl (fun c hc => by cases hc) ?_
      go_simp
      exact hK _ _ rfl (Below.refl _ _) trivial
    · -- 6
      intro li a1 W2 hA K hK
      obtain ⟨y81, e81, h81⟩ := hA.val 4 81 (by kernel_rfl) (by kernel_rfl)
      have e82 : a1.tmps.getD 82 undef = .int .i64 (d : Int) := hA.val 5 82 (by kernel_rfl) (by kernel_rfl)
      refine opStep none 0 rfl rfl (fun c hc => by cases hc) ?_
      go_simp
      exact hK _ _ ⟨_, rfl, h81⟩ (Below.refl _ _) trivial
    · -- 7
      intro li a1 W2 hA K hK
      obtain ⟨y83, e83, h83⟩ := hA.val 6 83 (by kernel_rfl) (by kernel_rfl)
      have q1 := int_at h83.1 HSZ.out
      refine opStep none 0 rfl rfl (fun c hc => by cases hc) ?_
      go_simp
      exact hK _ _ rfl (Below.refl _ _) trivial
  intro li a1 W2 hD
  have e84 : a1.tmps.getD 84 undef = .int .i64 (szX m xs2 d) := hD.val 7 84 (by kernel_rfl) (by kernel_rfl)
  have hkp2 := hD.keeps (ds := [77, 78, 79, 80, 81, 82, 83, 84, 15]) (by kernel_rfl)
  have hds := hD.size
  have hsz9 : a1.tmps.size = 144 := hD.size
  have hdd := hD.defers
  have hst := hD.st
  refine tail_val (i := 8) (v := .int .i64 (szX m xs2 d)) (W' := W2) none 0 rfl rfl rfl (fun c hc => by cases hc) (by go_simp) (by rw [hsz9]; decide) ?_
  intro a3 s3 d3 f3 o3
  have hkp3 := keeps_then hkp2 o3 (by decide)
  have e := act_mix [77, 78, 79, 80, 81, 82, 83, 84, 15] (s3.trans (hds)) (d3.trans (hdd)) (fun i _ hc => hkp3 i hc)
  have hgg0 : (fun i => a3.tmps.getD i undef) 15 = .int .i64 (szX m xs2 d) := f3
  generalize (fun i => a3.tmps.getD i undef) = g' at e hgg0
  refine wpListIn_nil ?_
  rw [e]
  clear e hD hkp2 hkp3 hds hdd hsz9 s3 d3 f3 o3 e84
  simp only [mix, List.contains_cons, List.contains_nil, Nat.reduceAdd, Nat.reduceBEq, Bool.or_false, Bool.or_true, cond_true, cond_false, hgg0]
  clear hgg0
  have hb := hst
  clear hst
  have HB9 := hid (HB8.out.trans (hb.mono HB8.out.size))
  have HT9 := hid (HT8.out.keep hb)
  have YA_9 := hid (YA_8.out.at_ hb)
  have YB_9 := hid (YB_8.out.at_ hb)
  have I1_9 := hid (I1_8.out.at_ hb)
  have I2_9 := hid (I2_0.out.at_ hb)
  clear hb
  generalize W2 = w9 at *
  obtain ⟨t0, t1, t2, t3⟩ := HT9.out.c4
  have K10 := hid (map_thin (HH.out.at_ HB9.out) HTH.out)
  go_wp2_with fail
  refine K10.out.mono ?_
  rintro e w10 ⟨P10, Q10, R10, rfl, hm, hb⟩
  have HB10 := hid (HB9.out.trans (hb.mono HB9.out.size))
  have HT10 := hid (HT9.out.keep hb)
  have I2_10 := hid (I2_9.out.at_ hb)
  have I1_10 := hid (I1_9.out.at_ hb)
  have YB_10 := hid (YB_9.out.at_ hb)
  have YA_10 := hid (YA_9.out.at_ hb)
  have M10 := hid hm
  clear hm
  clear hb K10 t0 t1 t2 t3
  obtain ⟨t0, t1, t2, t3⟩ := HT10.out.c4
  have K11 := hid (list_some I1_10.out HP1.out.1.len (by omega))
  go_wp2_with fail
  refine K11.out.mono ?_
  rintro e w11 ⟨z1, rfl, hz, hb⟩
  have HB11 := hid (HB10.out.trans (hb.mono HB10.out.size))
  have HT11 := hid (HT10.out.keep hb)
  have I2_11 := hid (I2_10.out.at_ hb)
  have I1_11 := hid (I1_10.out.at_ hb)
  have YB_11 := hid (YB_10.out.at_ hb)
  have YA_11 := hid (YA_10.out.at_ hb)
  have HZL := hid hz
  have MM := hid (M10.out.at_ hb)
  clear hz
  clear hb K11 t0 t1 t2 t3
  obtain ⟨t0, t1, t2, t3⟩ := HT11.out.c4
  have K12 := hid (truth_yes MM.out HCK.out HP1.out.1 HZL.out)
  go_wp2_with fail
  refine K12.out.mono ?_
  rintro e w12 ⟨rfl, hb⟩
  have HB12 := hid (HB11.out.trans (hb.mono HB11.out.size))
  have HT12 := hid (HT11.out.keep hb)
  have I2_12 := hid (I2_11.out.at_ hb)
  have I1_12 := hid (I1_11.out.at_ hb)
  have YB_12 := hid (YB_11.out.at_ hb)
  have YA_12 := hid (YA_11.out.at_ hb)
  clear MM HZL
  clear hb K12 t0 t1 t2 t3
  obtain ⟨t0, t1, t2, t3⟩ := HT12.out.c4
  have K13 := hid (map_thin (HH.out.at_ HB12.out) HTH.out)
  go_wp2_with fail
  refine K13.out.mono ?_
  rintro e w13 ⟨P13, Q13, R13, rfl, hm, hb⟩
  have HB13 := hid (HB12.out.trans (hb.mono HB12.out.size))
  have HT13 := hid (HT12.out.keep hb)
  have I2_13 := hid (I2_12.out.at_ hb)
  have I1_13 := hid (I1_12.out.at_ hb)
  have YB_13 := hid (YB_12.out.at_ hb)
  have YA_13 := hid (YA_12.out.at_ hb)
  have M13 := hid hm
  clear hm
  clear hb K13 t0 t1 t2 t3
  obtain ⟨t0, t1, t2, t3⟩ := HT13.out.c4
  have K14 := hid (list_some I2_13.out HP2.out.1.len (by omega))
  go_wp2_with fail
  refine K14.out.mono ?_
  rintro e w14 ⟨z2, rfl, hz, hb⟩
  have HB14 := hid (HB13.out.trans (hb.mono HB13.out.size))
  have HT14 := hid (HT13.out.keep hb)
  have I2_14 := hid (I2_13.out.at_ hb)
  have I1_14 := hid (I1_13.out.at_ hb)
  have YB_14 := hid (YB_13.out.at_ hb)
  have YA_14 := hid (YA_13.out.at_ hb)
  have HZL := hid hz
  have MM := hid (M13.out.at_ hb)
  clear hz
  clear hb K14 t0 t1 t2 t3
  obtain ⟨t0, t1, t2, t3⟩ := HT14.out.c4
  have K15 := hid (truth_yes MM.out HCK.out HP2.out.1 HZL.out)
  go_wp2_with fail
  refine K15.out.mono ?_
  rintro e w15 ⟨rfl, hb⟩
  have HB15 := hid (HB14.out.trans (hb.mono HB14.out.size))
  have HT15 := hid (HT14.out.keep hb)
  have I2_15 := hid (I2_14.out.at_ hb)
  have I1_15 := hid (I1_14.out.at_ hb)
  have YB_15 := hid (YB_14.out.at_ hb)
  have YA_15 := hid (YA_14.out.at_ hb)
  clear MM HZL
  clear hb K15 t0 t1 t2 t3
  obtain ⟨t0, t1, t2, t3⟩ := HT15.out.c4
  skip
  cases high with
  | true =>
    clear t0 t1 t2 t3
    obtain ⟨a9, e9, g9, f9a, f9b⟩ := (YA_15.out).1 k (strOne m k) (by unfold strL; rw [List.getElem?_map, List.getElem?_range hkS]; rfl)
    obtain ⟨a11, e11, g11, f11a, f11b⟩ := (YB_15.out).1 d (bndOne m d) (bndL_at HDT.out)
    replace e9 : A9 = some a9 := e9
    replace e11 : A11 = some a11 := e11
    subst e9 e11
    have hfs := int_at (I1_15.out).1 (xs_get HP1.out.1.len hkS)
    rw [show xs1.getD k 0 = (strOne m k).2 from push_street OK.out hkS HP1.out] at hfs
    have hsz : szX m xs2 d = (bndOne m d).2 := push_size OK.out HDT.out HP2.out
    have HF := hid (And.intro hfs (And.intro f9b f11b))
    rw [hsz]
    clear hfs f9a f9b f11a f11b g9 g11 hsz
    go_wp2
    refine (wpIn_wide (n := 0)).1 ?_
    refine wpIn_region_each 22 (fun i v W' => match i with | 0 => v = .slice (some y70.1) m.ss.length y70.2 | 1 => v = .int .i64 (k : Int) | 2 => v = .pointer (some (y70.1.add k)) | 3 => v = .int .i64 (strOne m k).2 | 4 => v = .slice (some a9) m.ss.length c9 | 5 => v = .int .i64 (k : Int) | 6 => v = .pointer (some (a9.add (k * 2))) | 7 => v = .pointer (some ⟨(a9.add (k * 2)).block, (a9.add (k * 2)).off + 1, none⟩) | 8 => v = .int .i64 (strOne m k).2 | 9 => v = .bool true | 10 => v = .bool true | 11 => v = .int .i64 (bndOne m d).2 | 12 => v = .slice (some a11) N c11 | 13 => v = .int .i64 (d : Int) | 14 => v = .pointer (some (a11.add (d * 2))) | 15 => v = .pointer (some ⟨(a11.add (d * 2)).block, (a11.add (d * 2)).off + 1, none⟩) | 16 => v = .int .i64 (bndOne m d).2 | 17 => v = .bool true | 18 => v = .bool true | 19 => v = .bool true | 20 => v = .bool true | 21 => v = .bool true | _ => True) (fun A B => Below A.heap.size A B) (fun _ _ => True) (by kernel_rfl) (by kernel_rfl) ?_ (fun h k => h.trans (k.mono h.size)) ⟨rfl, rfl, rfl, Nat.le_refl _, fun _ _ => rfl⟩ trivial (by kernel_rfl) ?_ ?_
    · intro i v W1 W2 hb h
      match i, h with
      | 0, h => exact h
      | 1, h => exact h
      | 2, h => exact h
      | 3, h => exact h
      | 4, h => exact h
      | 5, h => exact h
      | 6, h => exact h
      | 7, h => exact h
      | 8, h => exact h
      | 9, h => exact h
      | 10, h => exact h
      | 11, h => exact h
      | 12, h => exact h
      | 13, h => exact h
      | 14, h => exact h
      | 15, h => exact h
      | 16, h => exact h
      | 17, h => exact h
      | 18, h => exact h
      | 19, h => exact h
      | 20, h => exact h
      | 21, h => exact h
      | i + 22, h => trivial
    · refine ⟨?_, ?_, ?_, ?_, ?_, ?_, ?_, ?_, ?_, ?_, ?_, ?_, ?_, ?_, ?_, ?_, ?_, ?_, ?_, ?_, ?_, ?_, trivial⟩
      · -- 0
        intro li a1 W2 hA K hK
        have e13 := hA.par 13 (by kernel_rfl)
        refine opStep none 0 rfl rfl (fun c hc => by cases hc) ?_
        go_simp
        exact hK _ _ rfl (Below.refl _ _) trivial
      · -- 1
        intro li a1 W2 hA K hK
        have e7 := hA.par 7 (by kernel_rfl)
        refine opStep none 0 rfl rfl (fun c hc => by cases hc) ?_
        go_simp
        exact hK _ _ rfl (Below.refl _ _) trivial
      · -- 2
        intro li a1 W2 hA K hK
        have e100 : a1.tmps.getD 100 undef = .slice (some y70.1) m.ss.length y70.2 := hA.val 0 100 (by kernel_rfl) (by kernel_rfl)
        have e101 : a1.tmps.getD 101 undef = .int .i64 (k : Int) := hA.val 1 101 (by kernel_rfl) (by kernel_rfl)
        refine opStep none 0 rfl rfl (fun c hc => by cases hc) ?_
        go_simp
        exact hK _ _ (by first | rfl | exact congrArg (fun q => Value.pointer (some q)) (add_blk _ _)) (Below.refl _ _) trivial
      · -- 3
        intro li a1 W2 hA K hK
        have e102 : a1.tmps.getD 102 undef = .pointer (some (y70.1.add k)) := hA.val 2 102 (by kernel_rfl) (by kernel_rfl)
        have q1 := (hA.st.cell (World.block_lt_of_cell? _ _ HF.out.1)).trans HF.out.1
        refine opStep none 0 rfl rfl (fun c hc => by cases hc) ?_
        go_simp
        exact hK _ _ rfl (Below.refl _ _) trivial
      · -- 4
        intro li a1 W2 hA K hK
        have e9 := hA.par 9 (by kernel_rfl)
        refine opStep none 0 rfl rfl (fun c hc => by cases hc) ?_
        go_simp
        exact hK _ _ rfl (Below.refl _ _) trivial
      · -- 5
        intro li a1 W2 hA K hK
        have e7 := hA.par 7 (by kernel_rfl)
        refine opStep none 0 rfl rfl (fun c hc => by cases hc) ?_
        go_simp
        exact hK _ _ rfl (Below.refl _ _) trivial
      · -- 6
        intro li a1 W2 hA K hK
        have e104 : a1.tmps.getD 104 undef = .slice (some a9) m.ss.length c9 := hA.val 4 104 (by kernel_rfl) (by kernel_rfl)
        have e105 : a1.tmps.getD 105 undef = .int .i64 (k : Int) := hA.val 5 105 (by kernel_rfl) (by kernel_rfl)
        refine opStep none 0 rfl rfl (fun c hc => by cases hc) ?_
        go_simp
        exact hK _ _ (by first | rfl | exact congrArg (fun q => Value.pointer (some q)) (add_blk _ _)) (Below.refl _ _) trivial
      · -- 7
        intro li a1 W2 hA K hK
        have e106 : a1.tmps.getD 106 undef = .pointer (some (a9.add (k * 2))) := hA.val 6 106 (by kernel_rfl) (by kernel_rfl)
        refine opStep none 0 rfl rfl (fun c hc => by cases hc) ?_
        go_simp
        exact hK _ _ rfl (Below.refl _ _) trivial
      · -- 8
        intro li a1 W2 hA K hK
        have e107 : a1.tmps.getD 107 undef = .pointer (some ⟨(a9.add (k * 2)).block, (a9.add (k * 2)).off + 1, none⟩) := hA.val 7 107 (by kernel_rfl) (by kernel_rfl)
        have q1 := (hA.st.cell (World.block_lt_of_cell? _ _ HF.out.2.1)).trans HF.out.2.1
        refine opStep none 0 rfl rfl (fun c hc => by cases hc) ?_
        go_simp
        exact hK _ _ rfl (Below.refl _ _) trivial
      · -- 9
        intro li a1 W2 hA K hK
        have e103 : a1.tmps.getD 103 undef = .int .i64 (strOne m k).2 := hA.val 3 103 (by kernel_rfl) (by kernel_rfl)
        have e108 : a1.tmps.getD 108 undef = .int .i64 (strOne m k).2 := hA.val 8 108 (by kernel_rfl) (by kernel_rfl)
        refine opStep none 0 rfl rfl (fun c hc => by cases hc) ?_
        go_simp
        exact hK _ _ (by first | rfl | simp) (Below.refl _ _) trivial
      · -- 10
        intro li a1 W2 hA K hK
        have e109 : a1.tmps.getD 109 undef = .bool true := hA.val 9 109 (by kernel_rfl) (by kernel_rfl)
        refine opStep none 0 rfl rfl (fun c hc => by cases hc) ?_
        go_simp
        exact hK _ _ rfl (Below.refl _ _) trivial
      · -- 11
        intro li a1 W2 hA K hK
        have eg110 : a1.tmps.getD 110 undef = .bool true := hA.val 10 110 (by kernel_rfl) (by kernel_rfl)
        have e15 := hA.par 15 (by kernel_rfl)
        refine opStep none 0 rfl (wanted_yes (j := 10) (d := 110) (b := true) rfl (by kernel_rfl) eg110) (fun c hc => by cases hc) ?_
        go_simp
        exact hK _ _ rfl (Below.refl _ _) trivial
      · -- 12
        intro li a1 W2 hA K hK
        have eg110 : a1.tmps.getD 110 undef = .bool true := hA.val 10 110 (by kernel_rfl) (by kernel_rfl)
        have e11 := hA.par 11 (by kernel_rfl)
        refine opStep none 0 rfl (wanted_yes (j := 10) (d := 110) (b := true) rfl (by kernel_rfl) eg110) (fun c hc => by cases hc) ?_
        go_simp
        exact hK _ _ rfl (Below.refl _ _) trivial
      · -- 13
        intro li a1 W2 hA K hK
        have eg110 : a1.tmps.getD 110 undef = .bool true := hA.val 10 110 (by kernel_rfl) (by kernel_rfl)
        have e8 := hA.par 8 (by kernel_rfl)
        refine opStep none 0 rfl (wanted_yes (j := 10) (d := 110) (b := true) rfl (by kernel_rfl) eg110) (fun c hc => by cases hc) ?_
        go_simp
        exact hK _ _ rfl (Below.refl _ _) trivial
      · -- 14
        intro li a1 W2 hA K hK
        have eg110 : a1.tmps.getD 110 undef = .bool true := hA.val 10 110 (by kernel_rfl) (by kernel_rfl)
        have e112 : a1.tmps.getD 112 undef = .slice (some a11) N c11 := hA.val 12 112 (by kernel_rfl) (by kernel_rfl)
        have e113 : a1.tmps.getD 113 undef = .int .i64 (d : Int) := hA.val 13 113 (by kernel_rfl) (by kernel_rfl)
        refine opStep none 0 rfl (wanted_yes (j := 10) (d := 110) (b := true) rfl (by kernel_rfl) eg110) (fun c hc => by cases hc) ?_
        go_simp
        exact hK _ _ (by first | rfl | exact congrArg (fun q => Value.pointer (some q)) (add_blk _ _)) (Below.refl _ _) trivial
      · -- 15
        intro li a1 W2 hA K hK
        have eg110 : a1.tmps.getD 110 undef = .bool true := hA.val 10 110 (by kernel_rfl) (by kernel_rfl)
        have e114 : a1.tmps.getD 114 undef = .pointer (some (a11.add (d * 2))) := hA.val 14 114 (by kernel_rfl) (by kernel_rfl)
        refine opStep none 0 rfl (wanted_yes (j := 10) (d := 110) (b := true) rfl (by kernel_rfl) eg110) (fun c hc => by cases hc) ?_
        go_simp
        exact hK _ _ rfl (Below.refl _ _) trivial
      · -- 16
        intro li a1 W2 hA K hK
        have eg110 : a1.tmps.getD 110 undef = .bool true := hA.val 10 110 (by kernel_rfl) (by kernel_rfl)
        have e115 : a1.tmps.getD 115 undef = .pointer (some ⟨(a11.add (d * 2)).block, (a11.add (d * 2)).off + 1, none⟩) := hA.val 15 115 (by kernel_rfl) (by kernel_rfl)
        have q1 := (hA.st.cell (World.block_lt_of_cell? _ _ HF.out.2.2)).trans HF.out.2.2
        refine opStep none 0 rfl (wanted_yes (j := 10) (d := 110) (b := true) rfl (by kernel_rfl) eg110) (fun c hc => by cases hc) ?_
        go_simp
        exact hK _ _ rfl (Below.refl _ _) trivial
      · -- 17
        intro li a1 W2 hA K hK
        have eg110 : a1.tmps.getD 110 undef = .bool true := hA.val 10 110 (by kernel_rfl) (by kernel_rfl)
        have e111 : a1.tmps.getD 111 undef = .int .i64 (bndOne m d).2 := hA.val 11 111 (by kernel_rfl) (by kernel_rfl)
        have e116 : a1.tmps.getD 116 undef = .int .i64 (bndOne m d).2 := hA.val 16 116 (by kernel_rfl) (by kernel_rfl)
        refine opStep none 0 rfl (wanted_yes (j := 10) (d := 110) (b := true) rfl (by kernel_rfl) eg110) (fun c hc => by cases hc) ?_
        go_simp
        exact hK _ _ (by first | rfl | simp) (Below.refl _ _) trivial
      · -- 18
        intro li a1 W2 hA K hK
        have e110 : a1.tmps.getD 110 undef = .bool true := hA.val 10 110 (by kernel_rfl) (by kernel_rfl)
        have e117 : a1.tmps.getD 117 undef = .bool true := hA.val 17 117 (by kernel_rfl) (by kernel_rfl)
        refine opStep none 0 rfl rfl (fun c hc => by cases hc) ?_
        go_simp
        exact hK _ _ rfl (Below.refl _ _) trivial
      · -- 19
        intro li a1 W2 hA K hK
        have e118 : a1.tmps.getD 118 undef = .bool true := hA.val 18 118 (by kernel_rfl) (by kernel_rfl)
        refine opStep none 0 rfl rfl (fun c hc => by cases hc) ?_
        go_simp
        exact hK _ _ rfl (Below.refl _ _) trivial
      · -- 20
        intro li a1 W2 hA K hK
        have eg119 : a1.tmps.getD 119 undef = .bool true := hA.val 19 119 (by kernel_rfl) (by kernel_rfl)
        refine opStep none 0 rfl (wanted_yes (j := 19) (d := 119) (b := true) rfl (by kernel_rfl) eg119) (fun c hc => by cases hc) ?_
        go_simp
        refine (awake_any W2).mono ?_
        rintro e W3 ⟨rfl, hb3⟩
        exact hK _ _ rfl hb3 trivial
      · -- 21
        intro li a1 W2 hA K hK
        have e119 : a1.tmps.getD 119 undef = .bool true := hA.val 19 119 (by kernel_rfl) (by kernel_rfl)
        have e120 : a1.tmps.getD 120 undef = .bool true := hA.val 20 120 (by kernel_rfl) (by kernel_rfl)
        refine opStep none 0 rfl rfl (fun c hc => by cases hc) ?_
        go_simp
        exact hK _ _ rfl (Below.refl _ _) trivial
    · intro li a1 W2 hD
      have e121 : a1.tmps.getD 121 undef = .bool true := hD.val 21 121 (by kernel_rfl) (by kernel_rfl)
      have hsz : a1.tmps.size = 144 := hD.size
      have hdd : a1.defers = [] := hD.defers
      have hst := hD.st
      refine tail_val (i := 22) (v := .bool true) (W' := W2) none 0 rfl rfl rfl (fun c hc => by cases hc) (by go_simp) (by rw [hsz]; decide) ?_
      intro a2 s2 d2 f2 o2
      refine wpListIn_nil ?_
      have e := act_eq (s2.trans hsz) (d2.trans hdd)
      have g0 : (fun i => a2.tmps.getD i undef) 6 = .bool true := f2
      generalize (fun i => a2.tmps.getD i undef) = g at e g0
      rw [e]
      have HF := hid (HB15.out.trans (hst.mono HB15.out.size))
      clear e hD e121 hsz hdd hst s2 d2 f2 o2
      simp only [List.range, List.range.loop, List.map_cons, List.map_nil, g0]
      go_wp2
      go_ret
      exact ⟨rfl, HF.out⟩
  | false =>
    clear t0 t1 t2 t3
    obtain ⟨a9, e9, g9, f9a, f9b⟩ := (YA_15.out).1 k (strOne m k) (by unfold strL; rw [List.getElem?_map, List.getElem?_range hkS]; rfl)
    obtain ⟨a11, e11, g11, f11a, f11b⟩ := (YB_15.out).1 d (bndOne m d) (bndL_at HDT.out)
    replace e9 : A9 = some a9 := e9
    replace e11 : A11 = some a11 := e11
    subst e9 e11
    have hfs := int_at (I1_15.out).1 (xs_get HP1.out.1.len hkS)
    rw [show xs1.getD k 0 = (strOne m k).1 from push_street OK.out hkS HP1.out] at hfs
    have hsz : szX m xs2 d = (bndOne m d).1 := push_size OK.out HDT.out HP2.out
    have HF := hid (And.intro hfs (And.intro f9a f11a))
    rw [hsz]
    clear hfs f9a f9b f11a f11b g9 g11 hsz
    go_wp2
    refine (wpIn_wide (n := 0)).1 ?_
    refine wpIn_region_each 22 (fun i v W' => match i with | 0 => v = .slice (some y70.1) m.ss.length y70.2 | 1 => v = .int .i64 (k : Int) | 2 => v = .pointer (some (y70.1.add k)) | 3 => v = .int .i64 (strOne m k).1 | 4 => v = .slice (some a9) m.ss.length c9 | 5 => v = .int .i64 (k : Int) | 6 => v = .pointer (some (a9.add (k * 2))) | 7 => v = .pointer (some (a9.add (k * 2))) | 8 => v = .int .i64 (strOne m k).1 | 9 => v = .bool true | 10 => v = .bool true | 11 => v = .int .i64 (bndOne m d).1 | 12 => v = .slice (some a11) N c11 | 13 => v = .int .i64 (d : Int) | 14 => v = .pointer (some (a11.add (d * 2))) | 15 => v = .pointer (some (a11.add (d * 2))) | 16 => v = .int .i64 (bndOne m d).1 | 17 => v = .bool true | 18 => v = .bool true | 19 => v = .bool true | 20 => v = .bool true | 21 => v = .bool true | _ => True) (fun A B => Below A.heap.size A B) (fun _ _ => True) (by kernel_rfl) (by kernel_rfl) ?_ (fun h k => h.trans (k.mono h.size)) ⟨rfl, rfl, rfl, Nat.le_refl _, fun _ _ => rfl⟩ trivial (by kernel_rfl) ?_ ?_
    · intro i v W1 W2 hb h
      match i, h with
      | 0, h => exact h
      | 1, h => exact h
      | 2, h => exact h
      | 3, h => exact h
      | 4, h => exact h
      | 5, h => exact h
      | 6, h => exact h
      | 7, h => exact h
      | 8, h => exact h
      | 9, h => exact h
      | 10, h => exact h
      | 11, h => exact h
      | 12, h => exact h
      | 13, h => exact h
      | 14, h => exact h
      | 15, h => exact h
      | 16, h => exact h
      | 17, h => exact h
      | 18, h => exact h
      | 19, h => exact h
      | 20, h => exact h
      | 21, h => exact h
      | i + 22, h => trivial
    · refine ⟨?_, ?_, ?_, ?_, ?_, ?_, ?_, ?_, ?_, ?_, ?_, ?_, ?_, ?_, ?_, ?_, ?_, ?_, ?_, ?_, ?_, ?_, trivial⟩
      · -- 0
        intro li a1 W2 hA K hK
        have e13 := hA.par 13 (by kernel_rfl)
        refine opStep none 0 rfl rfl (fun c hc => by cases hc) ?_
        go_simp
        exact hK _ _ rfl (Below.refl _ _) trivial
      · -- 1
        intro li a1 W2 hA K hK
        have e7 := hA.par 7 (by kernel_rfl)
        refine opStep none 0 rfl rfl (fun c hc => by cases hc) ?_
        go_simp
        exact hK _ _ rfl (Below.refl _ _) trivial
      · -- 2
        intro li a1 W2 hA K hK
        have e122 : a1.tmps.getD 122 undef = .slice (some y70.1) m.ss.length y70.2 := hA.val 0 122 (by kernel_rfl) (by kernel_rfl)
        have e123 : a1.tmps.getD 123 undef = .int .i64 (k : Int) := hA.val 1 123 (by kernel_rfl) (by kernel_rfl)
        refine opStep none 0 rfl rfl (fun c hc => by cases hc) ?_
        go_simp
        exact hK _ _ (by first | rfl | exact congrArg (fun q => Value.pointer (some q)) (add_blk _ _)) (Below.refl _ _) trivial
      · -- 3
        intro li a1 W2 hA K hK
        have e124 : a1.tmps.getD 124 undef = .pointer (some (y70.1.add k)) := hA.val 2 124 (by kernel_rfl) (by kernel_rfl)
        have q1 := (hA.st.cell (World.block_lt_of_cell? _ _ HF.out.1)).trans HF.out.1
        refine opStep none 0 rfl rfl (fun c hc => by cases hc) ?_
        go_simp
        exact hK _ _ rfl (Below.refl _ _) trivial
      · -- 4
        intro li a1 W2 hA K hK
        have e9 := hA.par 9 (by kernel_rfl)
        refine opStep none 0 rfl rfl (fun c hc => by cases hc) ?_
        go_simp
        exact hK _ _ rfl (Below.refl _ _) trivial
      · -- 5
        intro li a1 W2 hA K hK
        have e7 := hA.par 7 (by kernel_rfl)
        refine opStep none 0 rfl rfl (fun c hc => by cases hc) ?_
        go_simp
        exact hK _ _ rfl (Below.refl _ _) trivial
      · -- 6
        intro li a1 W2 hA K hK
        have e126 : a1.tmps.getD 126 undef = .slice (some a9) m.ss.length c9 := hA.val 4 126 (by kernel_rfl) (by kernel_rfl)
        have e127 : a1.tmps.getD 127 undef = .int .i64 (k : Int) := hA.val 5 127 (by kernel_rfl) (by kernel_rfl)
        refine opStep none 0 rfl rfl (fun c hc => by cases hc) ?_
        go_simp
        exact hK _ _ (by first | rfl | exact congrArg (fun q => Value.pointer (some q)) (add_blk _ _)) (Below.refl _ _) trivial
      · -- 7
        intro li a1 W2 hA K hK
        have e128 : a1.tmps.getD 128 undef = .pointer (some (a9.add (k * 2))) := hA.val 6 128 (by kernel_rfl) (by kernel_rfl)
        refine opStep none 0 rfl rfl (fun c hc => by cases hc) ?_
        go_simp
        exact hK _ _ rfl (Below.refl _ _) trivial
      · -- 8
        intro li a1 W2 hA K hK
        have e129 : a1.tmps.getD 129 undef = .pointer (some (a9.add (k * 2))) := hA.val 7 129 (by kernel_rfl) (by kernel_rfl)
        have q1 := (hA.st.cell (World.block_lt_of_cell? _ _ HF.out.2.1)).trans HF.out.2.1
        refine opStep none 0 rfl rfl (fun c hc => by cases hc) ?_
        go_simp
        exact hK _ _ rfl (Below.refl _ _) trivial
      · -- 9
        intro li a1 W2 hA K hK
        have e125 : a1.tmps.getD 125 undef = .int .i64 (strOne m k).1 := hA.val 3 125 (by kernel_rfl) (by kernel_rfl)
        have e130 : a1.tmps.getD 130 undef = .int .i64 (strOne m k).1 := hA.val 8 130 (by kernel_rfl) (by kernel_rfl)
        refine opStep none 0 rfl rfl (fun c hc => by cases hc) ?_
        go_simp
        exact hK _ _ (by first | rfl | simp) (Below.refl _ _) trivial
      · -- 10
        intro li a1 W2 hA K hK
        have e131 : a1.tmps.getD 131 undef = .bool true := hA.val 9 131 (by kernel_rfl) (by kernel_rfl)
        refine opStep none 0 rfl rfl (fun c hc => by cases hc) ?_
        go_simp
        exact hK _ _ rfl (Below.refl _ _) trivial
      · -- 11
        intro li a1 W2 hA K hK
        have eg132 : a1.tmps.getD 132 undef = .bool true := hA.val 10 132 (by kernel_rfl) (by kernel_rfl)
        have e15 := hA.par 15 (by kernel_rfl)
        refine opStep none 0 rfl (wanted_yes (j := 10) (d := 132) (b := true) rfl (by kernel_rfl) eg132) (fun c hc => by cases hc) ?_
        go_simp
        exact hK _ _ rfl (Below.refl _ _) trivial
      · -- 12
        intro li a1 W2 hA K hK
        have eg132 : a1.tmps.getD 132 undef = .bool true := hA.val 10 132 (by kernel_rfl) (by kernel_rfl)
        have e11 := hA.par 11 (by kernel_rfl)
        refine opStep none 0 rfl (wanted_yes (j := 10) (d := 132) (b := true) rfl (by kernel_rfl) eg132) (fun c hc => by cases hc) ?_
        go_simp
        exact hK _ _ rfl (Below.refl _ _) trivial
      · -- 13
        intro li a1 W2 hA K hK
        have eg132 : a1.tmps.getD 132 undef = .bool true := hA.val 10 132 (by kernel_rfl) (by kernel_rfl)
        have e8 := hA.par 8 (by kernel_rfl)
        refine opStep none 0 rfl (wanted_yes (j := 10) (d := 132) (b := true) rfl (by kernel_rfl) eg132) (fun c hc => by cases hc) ?_
        go_simp
        exact hK _ _ rfl (Below.refl _ _) trivial
      · -- 14
        intro li a1 W2 hA K hK
        have eg132 : a1.tmps.getD 132 undef = .bool true := hA.val 10 132 (by kernel_rfl) (by kernel_rfl)
        have e134 : a1.tmps.getD 134 undef = .slice (some a11) N c11 := hA.val 12 134 (by kernel_rfl) (by kernel_rfl)
        have e135 : a1.tmps.getD 135 undef = .int .i64 (d : Int) := hA.val 13 135 (by kernel_rfl) (by kernel_rfl)
        refine opStep none 0 rfl (wanted_yes (j := 10) (d := 132) (b := true) rfl (by kernel_rfl) eg132) (fun c hc => by cases hc) ?_
        go_simp
        exact hK _ _ (by first | rfl | exact congrArg (fun q => Value.pointer (some q)) (add_blk _ _)) (Below.refl _ _) trivial
      · -- 15
        intro li a1 W2 hA K hK
        have eg132 : a1.tmps.getD 132 undef = .bool true := hA.val 10 132 (by kernel_rfl) (by kernel_rfl)
        have e136 : a1.tmps.getD 136 undef = .pointer (some (a11.add (d * 2))) := hA.val 14 136 (by kernel_rfl) (by kernel_rfl)
        refine opStep none 0 rfl (wanted_yes (j := 10) (d := 132) (b := true) rfl (by kernel_rfl) eg132) (fun c hc => by cases hc) ?_
        go_simp
        exact hK _ _ rfl (Below.refl _ _) trivial
      · -- 16
        intro li a1 W2 hA K hK
        have eg132 : a1.tmps.getD 132 undef = .bool true := hA.val 10 132 (by kernel_rfl) (by kernel_rfl)
        have e137 : a1.tmps.getD 137 undef = .pointer (some (a11.add (d * 2))) := hA.val 15 137 (by kernel_rfl) (by kernel_rfl)
        have q1 := (hA.st.cell (World.block_lt_of_cell? _ _ HF.out.2.2)).trans HF.out.2.2
        refine opStep none 0 rfl (wanted_yes (j := 10) (d := 132) (b := true) rfl (by kernel_rfl) eg132) (fun c hc => by cases hc) ?_
        go_simp
        exact hK _ _ rfl (Below.refl _ _) trivial
      · -- 17
        intro li a1 W2 hA K hK
        have eg132 : a1.tmps.getD 132 undef = .bool true := hA.val 10 132 (by kernel_rfl) (by kernel_rfl)
        have e133 : a1.tmps.getD 133 undef = .int .i64 (bndOne m d).1 := hA.val 11 133 (by kernel_rfl) (by kernel_rfl)
        have e138 : a1.tmps.getD 138 undef = .int .i64 (bndOne m d).1 := hA.val 16 138 (by kernel_rfl) (by kernel_rfl)
        refine opStep none 0 rfl (wanted_yes (j := 10) (d := 132) (b := true) rfl (by kernel_rfl) eg132) (fun c hc => by cases hc) ?_
        go_simp
        exact hK _ _ (by first | rfl | simp) (Below.refl _ _) trivial
      · -- 18
        intro li a1 W2 hA K hK
        have e132 : a1.tmps.getD 132 undef = .bool true := hA.val 10 132 (by kernel_rfl) (by kernel_rfl)
        have e139 : a1.tmps.getD 139 undef = .bool true := hA.val 17 139 (by kernel_rfl) (by kernel_rfl)
        refine opStep none 0 rfl rfl (fun c hc => by cases hc) ?_
        go_simp
        exact hK _ _ rfl (Below.refl _ _) trivial
      · -- 19
        intro li a1 W2 hA K hK
        have e140 : a1.tmps.getD 140 undef = .bool true := hA.val 18 140 (by kernel_rfl) (by kernel_rfl)
        refine opStep none 0 rfl rfl (fun c hc => by cases hc) ?_
        go_simp
        exact hK _ _ rfl (Below.refl _ _) trivial
      · -- 20
        intro li a1 W2 hA K hK
        have eg141 : a1.tmps.getD 141 undef = .bool true := hA.val 19 141 (by kernel_rfl) (by kernel_rfl)
        refine opStep none 0 rfl (wanted_yes (j := 19) (d := 141) (b := true) rfl (by kernel_rfl) eg141) (fun c hc => by cases hc) ?_
        go_simp
        refine (awake_any W2).mono ?_
        rintro e W3 ⟨rfl, hb3⟩
        exact hK _ _ rfl hb3 trivial
      · -- 21
        intro li a1 W2 hA K hK
        have e141 : a1.tmps.getD 141 undef = .bool true := hA.val 19 141 (by kernel_rfl) (by kernel_rfl)
        have e142 : a1.tmps.getD 142 undef = .bool true := hA.val 20 142 (by kernel_rfl) (by kernel_rfl)
        refine opStep none 0 rfl rfl (fun c hc => by cases hc) ?_
        go_simp
        exact hK _ _ rfl (Below.refl _ _) trivial
    · intro li a1 W2 hD
      have e143 : a1.tmps.getD 143 undef = .bool true := hD.val 21 143 (by kernel_rfl) (by kernel_rfl)
      have hsz : a1.tmps.size = 144 := hD.size
      have hdd : a1.defers = [] := hD.defers
      have hst := hD.st
      refine tail_val (i := 22) (v := .bool true) (W' := W2) none 0 rfl rfl rfl (fun c hc => by cases hc) (by go_simp) (by rw [hsz]; decide) ?_
      intro a2 s2 d2 f2 o2
      refine wpListIn_nil ?_
      have e := act_eq (s2.trans hsz) (d2.trans hdd)
      have g0 : (fun i => a2.tmps.getD i undef) 6 = .bool true := f2
      generalize (fun i => a2.tmps.getD i undef) = g at e g0
      rw [e]
      have HF := hid (HB15.out.trans (hst.mono HB15.out.size))
      clear e hD e143 hsz hdd hst s2 d2 f2 o2
      simp only [List.range, List.range.loop, List.map_cons, List.map_nil, g0]
      go_wp2
      go_ret
      exact ⟨rfl, HF.out⟩

theorem ends_any9 (m : MapD) (A : Option Addr) (c : Nat) (A2 : Option Addr) (c2 : Nat) (A3 : Option Addr) (c3 : Nat) (q : Int) (high : Bool) (w : World) (h : MArg m A c A2 c2 A3 c3 w) (hq0 : 0 ≤ q) (hq1 : q ≤ 255) :
    Calls Try.prog 14 #[.agg #[.slice A m.old.length c, .int .i64 m.nw, .slice A2 m.ss.length c2, .slice A3 m.js.length c3], .int .u8 q, .bool high] w fun e w' => e = .returned (.bool true) ∧ Below w.heap.size w w' := by
  cases hr : readyM m
  · exact ends_not m A c A2 c2 A3 c3 q high w h hr
  · exact ends_good m A c A2 c2 A3 c3 q high w h hr hq0 hq1

open Go.ChangeShapes Go.WideShapes Go.ChangeAt in
set_option maxRecDepth 100000 in
theorem endss_lifted (os : Os) (started : os.Started) (H : Type) (enc : TypeId × Value → H) :
    ReturnsInHanded {} Try.checked os 14 .any (Rows.borderEndsSpec.pre6 enc Try.prog Try.f14 Rows.borderEndsRow.domain false) (Rows.borderEndsSpec.post enc Try.prog Try.f14 false true false false) := by
  refine returnsInHanded_of_change (C := Try.checked) own started (by kernel_rfl) Try.func14
    (ChangeSpec.witness6 (enc := enc) (C := Try.checked) false ⟨#[], #[.agg #[.slice none 0 0, .int .i64 0, .slice none 0 0, .slice none 0 0], .int .u8 0, .bool false], []⟩ 8 (by kernel_rfl) (by kernel_rfl) (by kernel_rfl) (by kernel_rfl)) ?_
  intro W base args ds gs before hval0 hW hcnd _
  have hval : ∀ (j : Nat) t v, Try.f14.params[j]? = some t → args[j]? = some v → Value.okWide Try.prog W .any base t v := hval0
  have hW' := hW
  obtain ⟨p, q, hA0, hV, rfl, hfz, hnd⟩ := hW
  have hA : DataW.TrodAll enc Try.prog W 0 (fun _ => true) true Try.f14.params.toList args.toList ds p := hA0
  rw [Try.params14] at hA hval
  obtain ⟨v0, vs0, d0, ds0, p0, q0, hargs, rfl, rfl, h0, r0⟩ := trodAll_cons hA
  obtain ⟨v1, vs1, d1, ds1, p1, q1, rfl, rfl, rfl, h1, r1⟩ := trodAll_cons r0
  obtain ⟨v2, vs2, d2, ds2, p2, q2, rfl, rfl, rfl, h2, r2⟩ := trodAll_cons r1
  obtain ⟨rfl, rfl, rfl⟩ := trodAll_nil r2
  obtain rfl : args = #[v0, v1, v2] := by cases args; simp_all
  obtain ⟨rfl, rfl⟩ := trodVars_none hV
  obtain ⟨m, A, c, A2, c2, A3, c3, rfl, ht⟩ := open_map (hval 0 26 v0 rfl rfl) h0
  obtain ⟨q9, rfl, rfl, rfl, wk1⟩ := open_int Try.underlying5 (hval 1 5 v1 rfl rfl) h1
  have hbq9 : 0 ≤ q9 ∧ q9 ≤ 255 := by
    have h : decide (IntKind.u8.min ≤ q9) = true ∧ decide (q9 ≤ IntKind.u8.max) = true := by simpa [Lit.wf] using wk1
    have h2 := of_decide_eq_true h.1
    have h3 := of_decide_eq_true h.2
    have e1 : IntKind.u8.min = 0 := by decide
    have e2 : IntKind.u8.max = 255 := by decide
    omega
  obtain ⟨hi9, rfl, rfl, rfl⟩ := open_bool Try.underlying4 (hval 2 4 v2 rfl rfl) h2
  refine (ends_any9 m A c A2 c2 A3 c3 q9 hi9 W ht hbq9.1 hbq9.2).mono fun e W' ⟨he, hb⟩ => ⟨_, he, ?_⟩
  exact law_post laid_out rfl rfl (by kernel_rfl) hW' rfl hb

theorem endss_over : Rows.borderEndsRow.holds Try.pinned (OpenSpec.ofChange Rows.borderEndsSpec) :=
  OpenClaim.holds_of_wide 14 Try.f14 rfl rfl rfl rfl rfl rfl rfl ⟨rfl, rfl, rfl, rfl, rfl⟩ rfl rfl rfl rfl rfl (by kernel_rfl) Try.func14 (by kernel_rfl)
    (of_decide_eq_true (by kernel_rfl)) (by unfold Func.isWrapper; first | (rw [if_pos (by decide +kernel)]; kernel_rfl) | (rw [if_neg (by decide +kernel)]; exact ⟨rfl, rfl⟩))
    (fun os started H enc _ => endss_lifted os started H enc)
/-- the statement -/
theorem border_ends : Rows.BorderEndsSaid := endss_over
#print axioms border_ends
end Go.Proofs.Ytoeabajigfdkaaa
