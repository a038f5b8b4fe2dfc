/- For every map that is ready, best borders are right, no right borders are better, and if the borders of the map are right no street is moved: the statement BorderRight. No condition. -/
import Derived.Test.YtoeabajigfdkaaaG1
import Derived.Test.YtoeabajigfdkaaaG3
import Derived.Test.YtoeabajigfdkaaaG17
import Derived.Test.YtoeabajigfdkaaaG20
namespace Go.Proofs.Ytoeabajigfdkaaa
open Go.RowKit Go.Shelf

theorem lst_some {m : MapD} {l : Nat → Int} {y : Option Addr × Nat} {W : World} (h : IntsAt y (lst m l) W) (h1 : 1 ≤ m.ss.length) : y.1 = none → y.2 = 0 := fun e => by
  obtain ⟨a, e2, _⟩ := h.1 0 _ (lst_get (l := l) (show 0 < m.ss.length by omega))
  rw [e2] at e
  cases e
set_option maxRecDepth 100000 in
set_option maxHeartbeats 4000000 in
theorem rgt_not (m : MapD) (A : Option Addr) (c : Nat) (A2 : Option Addr) (c2 : Nat) (A3 : Option Addr) (c3 : Nat) (Ax : Option Addr) (cx : Nat) (xs : List Int) (p q : Int) (w : World) (h : MArg m A c A2 c2 A3 c3 w) (hx : IntsAt (Ax, cx) xs w) (hx0 : Ax = none → cx = 0) (hr : readyM m = false) :
    Calls Try.prog 11 #[.agg #[.slice A m.old.length c, .int .i64 m.nw, .slice A2 m.ss.length c2, .slice A3 m.js.length c3], .slice Ax xs.length cx, .int .u16 p, .int .u16 q] w fun e w' => e = .returned (.bool true) ∧ Below w.heap.size w w' := by
  have hB := below_box (w := w) #[.slice A m.old.length c, .int .i64 m.nw, .slice A2 m.ss.length c2, .slice A3 m.js.length c3] 26
  have hT := Blk.new w 26 #[.slice A m.old.length c, .int .i64 m.nw, .slice A2 m.ss.length c2, .slice A3 m.js.length c3]
  have HB0 := hid hB
  have HT0 := hid hT
  have HH := hid h
  obtain ⟨t0, t1, t2, t3⟩ := hT.c4
  clear h hB hT
  have HX := hid hx
  have HX0 := hid hx0
  clear hx hx0
  have HRD := hid hr
  clear hr
  go_enter Try.func11, Try.ntmps11
  have K1 := hid (mready_any m A c A2 c2 A3 c3 (w.alloc (.cells #[.slice A m.old.length c, .int .i64 m.nw, .slice A2 m.ss.length c2, .slice A3 m.js.length c3] 26)) (HH.out.at_ HB0.out).toMIn)
  rw [HRD.out] at K1
  go_wp2_with fail
  refine K1.out.mono ?_
  rintro e w1 ⟨rfl, hb⟩
  have HB1 := hid (HB0.out.trans (hb.mono HB0.out.size))
  have HT1 := hid (HT0.out.keep hb)
  clear hb K1 t0 t1 t2 t3
  obtain ⟨t0, t1, t2, t3⟩ := HT1.out.c4
  have K2 := hid (awake_any w1)
  go_wp2_with fail
  refine K2.out.mono ?_
  rintro e w2 ⟨rfl, hb⟩
  have HB2 := hid (HB1.out.trans (hb.mono HB1.out.size))
  have HT2 := hid (HT1.out.keep hb)
  clear hb K2 t0 t1 t2 t3
  obtain ⟨t0, t1, t2, t3⟩ := HT2.out.c4
  clear t0 t1 t2 t3
  go_wp2
  go_ret
  exact ⟨rfl, HB2.out⟩

set_option maxRecDepth 100000 in
set_option maxHeartbeats 4000000 in
theorem rgt_long (m : MapD) (A : Option Addr) (c : Nat) (A2 : Option Addr) (c2 : Nat) (A3 : Option Addr) (c3 : Nat) (Ax : Option Addr) (cx : Nat) (xs : List Int) (p q : Int) (w : World) (h : MArg m A c A2 c2 A3 c3 w) (hx : IntsAt (Ax, cx) xs w) (hx0 : Ax = none → cx = 0) (hr : readyM m = true) (hl : 12 < xs.length) :
    Calls Try.prog 11 #[.agg #[.slice A m.old.length c, .int .i64 m.nw, .slice A2 m.ss.length c2, .slice A3 m.js.length c3], .slice Ax xs.length cx, .int .u16 p, .int .u16 q] w fun e w' => e = .returned (.bool true) ∧ Below w.heap.size w w' := by
  have hB := below_box (w := w) #[.slice A m.old.length c, .int .i64 m.nw, .slice A2 m.ss.length c2, .slice A3 m.js.length c3] 26
  have hT := Blk.new w 26 #[.slice A m.old.length c, .int .i64 m.nw, .slice A2 m.ss.length c2, .slice A3 m.js.length c3]
  have HB0 := hid hB
  have HT0 := hid hT
  have HH := hid h
  obtain ⟨t0, t1, t2, t3⟩ := hT.c4
  clear h hB hT
  have HX := hid hx
  have HX0 := hid hx0
  clear hx hx0
  have HRD := hid hr
  have hlB : decide ((12 : Int) < (xs.length : Int)) = true := by simp; omega
  clear hr
  go_enter Try.func11, Try.ntmps11
  have K1 := hid (mready_any m A c A2 c2 A3 c3 (w.alloc (.cells #[.slice A m.old.length c, .int .i64 m.nw, .slice A2 m.ss.length c2, .slice A3 m.js.length c3] 26)) (HH.out.at_ HB0.out).toMIn)
  rw [HRD.out] at K1
  go_wp2_with fail
  refine K1.out.mono ?_
  rintro e w1 ⟨rfl, hb⟩
  have HB1 := hid (HB0.out.trans (hb.mono HB0.out.size))
  have HT1 := hid (HT0.out.keep hb)
  clear hb K1 t0 t1 t2 t3
  obtain ⟨t0, t1, t2, t3⟩ := HT1.out.c4
  have K2 := hid (awake_any w1)
  go_wp2_with fail
  refine K2.out.mono ?_
  rintro e w2 ⟨rfl, hb⟩
  have HB2 := hid (HB1.out.trans (hb.mono HB1.out.size))
  have HT2 := hid (HT1.out.keep hb)
  clear hb K2 t0 t1 t2 t3
  obtain ⟨t0, t1, t2, t3⟩ := HT2.out.c4
  clear t0 t1 t2 t3
  go_wp2
  go_ret
  exact ⟨rfl, HB2.out⟩

set_option maxRecDepth 100000 in
set_option maxHeartbeats 4000000 in
theorem rgt_none (m : MapD) (A : Option Addr) (c : Nat) (A2 : Option Addr) (c2 : Nat) (A3 : Option Addr) (c3 : Nat) (Ax : Option Addr) (cx : Nat) (xs : List Int) (p q : Int) (w : World) (h : MArg m A c A2 c2 A3 c3 w) (hx : IntsAt (Ax, cx) xs w) (hx0 : Ax = none → cx = 0) (hp0 : 0 ≤ p) (hp1 : p ≤ 65535) (hq0 : 0 ≤ q) (hq1 : q ≤ 65535) (hr : readyM m = true) (hl : ¬ 12 < xs.length) (hbb : bestB m (p % 2000) (min 40000 (p % 2000 + q)) = none) :
    Calls Try.prog 11 #[.agg #[.slice A m.old.length c, .int .i64 m.nw, .slice A2 m.ss.length c2, .slice A3 m.js.length c3], .slice Ax xs.length cx, .int .u16 p, .int .u16 q] w fun e w' => e = .returned (.bool true) ∧ Below w.heap.size w w' := by
  have hB := below_box (w := w) #[.slice A m.old.length c, .int .i64 m.nw, .slice A2 m.ss.length c2, .slice A3 m.js.length c3] 26
  have hT := Blk.new w 26 #[.slice A m.old.length c, .int .i64 m.nw, .slice A2 m.ss.length c2, .slice A3 m.js.length c3]
  have HB0 := hid hB
  have HT0 := hid hT
  have HH := hid h
  obtain ⟨t0, t1, t2, t3⟩ := hT.c4
  clear h hB hT
  have HX := hid hx
  have HX0 := hid hx0
  clear hx hx0
  have his := right_none hbb xs 99
  have how := right_none hbb (lst m (ownL m)) 0
  have HRD := hid hr
  have HCM := hid (ready_iff.1 hr).2
  have HTH := hid (ready_iff.1 hr).1
  have OK := hid (chk_okm (cst_ok (ready_iff.1 hr).2).1)
  have HLX := hid hl
  have hlB : decide ((12 : Int) < (xs.length : Int)) = false := by simp; omega
  obtain ⟨lo, hlo⟩ : ∃ lo, p % 2000 = lo := ⟨_, rfl⟩
  obtain ⟨hi, hhi⟩ : ∃ hi, min 40000 (lo + q) = hi := ⟨_, rfl⟩
  have hlo0 : 0 ≤ lo ∧ lo < 2000 := by rw [← hlo]; exact ⟨Int.emod_nonneg _ (by omega), Int.emod_lt_of_pos _ (by omega)⟩
  have HE0 := hid (ask_mk (ready_iff.1 hr).2 hlo0.1 (by omega) (by omega) : askE m lo hi = 0)
  have htm : p.tmod 2000 = lo := by rw [Int.tmod_eq_emod_of_nonneg hp0]; exact hlo
  have hwp : IntKind.i64.wrap p = p := IntWalk.i64_in _ (by omega)
  have hwq : IntKind.i64.wrap q = q := IntWalk.i64_in _ (by omega)
  have hwl : IntKind.i64.wrap lo = lo := IntWalk.i64_in _ (by omega)
  have hws : IntKind.i64.wrap (lo + q) = lo + q := IntWalk.i64_in _ (by omega)
  have hite : (if lo + q < 40000 then lo + q else 40000) = hi := by rw [← hhi]; split <;> omega
  have hitv : (if lo + q < 40000 then Value.int .i64 (lo + q) else Value.int .i64 40000) = Value.int .i64 hi := by rw [← hhi]; split <;> congr 1 <;> omega
  rw [hlo, hhi] at hbb his how
  have HBB := hid hbb
  have HIS := hid his
  have HOW := hid how
  clear hr his how hbb hlo hhi
  go_enter Try.func11, Try.ntmps11
  have K1 := hid (mready_any m A c A2 c2 A3 c3 (w.alloc (.cells #[.slice A m.old.length c, .int .i64 m.nw, .slice A2 m.ss.length c2, .slice A3 m.js.length c3] 26)) (HH.out.at_ HB0.out).toMIn)
  rw [HRD.out] at K1
  go_wp2_with fail
  refine K1.out.mono ?_
  rintro e w1 ⟨rfl, hb⟩
  have HB1 := hid (HB0.out.trans (hb.mono HB0.out.size))
  have HT1 := hid (HT0.out.keep hb)
  clear hb K1 t0 t1 t2 t3
  obtain ⟨t0, t1, t2, t3⟩ := HT1.out.c4
  have K2 := hid (between_any lo hi w1)
  go_wp2_with fail
  refine K2.out.mono ?_
  rintro e w2 ⟨rfl, hb⟩
  have HB2 := hid (HB1.out.trans (hb.mono HB1.out.size))
  have HT2 := hid (HT1.out.keep hb)
  clear hb K2 t0 t1 t2 t3
  obtain ⟨t0, t1, t2, t3⟩ := HT2.out.c4
  go_upto_region 4 with (fail)
  refine gen (p := Code.wp _ _ _ _) (fun W => Below w2.heap.size w2 W ∧ Blk W w2.heap.size 49 #[.int .i64 lo, .int .i64 hi]) ⟨below_box _ _, Blk.new _ _ _⟩ ?_
  rintro w3 ⟨hb, hl9⟩
  have HB3 := hid (HB2.out.trans (hb.mono HB2.out.size))
  have HT3 := hid (HT2.out.keep hb)
  have LB0 := hid hl9
  clear hb hl9 t0 t1 t2 t3
  generalize w2.heap.size = LN at *
  obtain ⟨t0, t1, t2, t3⟩ := HT3.out.c4
  obtain ⟨l0, l1⟩ := LB0.out.c2
  clear t0 t1 t2 t3 l0 l1
  go_wp2
  refine (wpIn_wide (n := 0)).1 ?_
  refine wpIn_region_each 10 (fun i v W' => match i with | 0 => v = .agg #[.slice A m.old.length c, .int .i64 m.nw, .slice A2 m.ss.length c2, .slice A3 m.js.length c3] | 1 => ∃ (y : (Option Addr × Nat) × (Option Addr × Nat) × (Option Addr × Nat)), v = .agg #[.slice y.1.1 m.old.length y.1.2, .int .i64 m.nw, .slice y.2.1.1 m.ss.length y.2.1.2, .slice y.2.2.1 m.js.length y.2.2.2] ∧ MIn m y.1.1 y.1.2 y.2.1.1 y.2.1.2 y.2.2.1 y.2.2.2 W' | 2 => v = .agg #[.int .i64 lo, .int .i64 hi] | 3 => v = .tuple #[.slice none 0 0, .int .i64 0, .int .i64 7] | 4 => v = .tuple #[.slice none 0 0, .int .i64 0, .int .i64 7] | 5 => v = .slice none 0 0 | 6 => v = .int .i64 0 | 7 => v = .int .i64 7 | 8 => v = .slice none 0 0 | 9 => v = .int .i64 0 | _ => True) (fun A B => Below A.heap.size A B) (fun _ _ => True) (by kernel_rfl) (by kernel_rfl) ?_ (fun h k => h.trans (k.mono h.size)) ⟨rfl, rfl, rfl, Nat.le_refl _, fun _ _ => rfl⟩ trivial (by kernel_rfl) ?_ ?_
  · intro i v W1 W2 hb h
    match i, h with
    | 0, h => exact h
    | 1, h =>
      obtain ⟨y, rfl, h1⟩ := h
      exact ⟨_, rfl, h1.at_ hb⟩
    | 2, h => exact h
    | 3, h => exact h
    | 4, h => exact h
    | 5, h => exact h
    | 6, h => exact h
    | 7, h => exact h
    | 8, h => exact h
    | 9, h => exact h
    | i + 10, h => trivial
  · refine ⟨?_, ?_, ?_, ?_, ?_, ?_, ?_, ?_, ?_, ?_, trivial⟩
    · -- 0
      intro li a1 W2 hA K hK
      have e4 := hA.par 4 (by kernel_rfl)
      obtain ⟨q1, q2, q3, q4⟩ := (HT3.out.keep hA.st).c4
      refine opStep none 0 rfl rfl (fun c hc => by cases hc) ?_
      go_simp
      exact hK _ _ rfl (Below.refl _ _) trivial
    · -- 1
      intro li a1 W2 hA K hK
      have e38 : a1.tmps.getD 38 undef = .agg #[.slice A m.old.length c, .int .i64 m.nw, .slice A2 m.ss.length c2, .slice A3 m.js.length c3] := hA.val 0 38 (by kernel_rfl) (by kernel_rfl)
      refine opStep none 0 rfl rfl (fun c hc => by cases hc) ?_
      go_simp
      refine (map_thin (HH.out.at_ (HB3.out.trans (hA.st.mono HB3.out.size))) HTH.out).mono ?_
      rintro e W3 ⟨P, Q, R, rfl, hy, hb3⟩
      exact hK _ _ ⟨(P, Q, R), rfl, hy⟩ hb3 trivial
    · -- 2
      intro li a1 W2 hA K hK
      have e9 := hA.par 9 (by kernel_rfl)
      obtain ⟨q1, q2⟩ := (LB0.out.keep hA.st).c2
      refine opStep none 0 rfl rfl (fun c hc => by cases hc) ?_
      go_simp
      exact hK _ _ rfl (Below.refl _ _) trivial
    · -- 3
      intro li a1 W2 hA K hK
      obtain ⟨y39, e39, h39⟩ := hA.val 1 39 (by kernel_rfl) (by kernel_rfl)
      have e40 : a1.tmps.getD 40 undef = .agg #[.int .i64 lo, .int .i64 hi] := hA.val 2 40 (by kernel_rfl) (by kernel_rfl)
      refine opStep none 0 rfl rfl (fun c hc => by cases hc) ?_
      go_simp
      refine (best_no h39 HE0.out HBB.out).mono ?_
      rintro e W3 ⟨rfl, hb3⟩
      exact hK _ _ rfl hb3 trivial
    · -- 4
      intro li a1 W2 hA K hK
      have e41 : a1.tmps.getD 41 undef = .tuple #[.slice none 0 0, .int .i64 0, .int .i64 7] := hA.val 3 41 (by kernel_rfl) (by kernel_rfl)
      refine opStep none 0 rfl rfl (fun c hc => by cases hc) ?_
      go_simp
      exact hK _ _ rfl (Below.refl _ _) trivial
    · -- 5
      intro li a1 W2 hA K hK
      have e37 : a1.tmps.getD 37 undef = .tuple #[.slice none 0 0, .int .i64 0, .int .i64 7] := hA.val 4 37 (by kernel_rfl) (by kernel_rfl)
      refine opStep none 0 rfl rfl (fun c hc => by cases hc) ?_
      go_simp
      exact hK _ _ rfl (Below.refl _ _) trivial
    · -- 6
      intro li a1 W2 hA K hK
      have e37 : a1.tmps.getD 37 undef = .tuple #[.slice none 0 0, .int .i64 0, .int .i64 7] := hA.val 4 37 (by kernel_rfl) (by kernel_rfl)
      refine opStep none 0 rfl rfl (fun c hc => by cases hc) ?_
      go_simp
      exact hK _ _ rfl (Below.refl _ _) trivial
    · -- 7
      intro li a1 W2 hA K hK
      have e37 : a1.tmps.getD 37 undef = .tuple #[.slice none 0 0, .int .i64 0, .int .i64 7] := hA.val 4 37 (by kernel_rfl) (by kernel_rfl)
      refine opStep none 0 rfl rfl (fun c hc => by cases hc) ?_
      go_simp
      exact hK _ _ rfl (Below.refl _ _) trivial
    · -- 8
      intro li a1 W2 hA K hK
      have e42 : a1.tmps.getD 42 undef = .slice none 0 0 := hA.val 5 42 (by kernel_rfl) (by kernel_rfl)
      refine opStep none 0 rfl rfl (fun c hc => by cases hc) ?_
      go_simp
      exact hK _ _ rfl (Below.refl _ _) trivial
    · -- 9
      intro li a1 W2 hA K hK
      have e43 : a1.tmps.getD 43 undef = .int .i64 0 := hA.val 6 43 (by kernel_rfl) (by kernel_rfl)
      refine opStep none 0 rfl rfl (fun c hc => by cases hc) ?_
      go_simp
      exact hK _ _ rfl (Below.refl _ _) trivial
  intro li a1 W2 hD
  have e10 : a1.tmps.getD 10 undef = .slice none 0 0 := hD.val 8 10 (by kernel_rfl) (by kernel_rfl)
  have e11 : a1.tmps.getD 11 undef = .int .i64 0 := hD.val 9 11 (by kernel_rfl) (by kernel_rfl)
  have e44 : a1.tmps.getD 44 undef = .int .i64 7 := hD.val 7 44 (by kernel_rfl) (by kernel_rfl)
  have hkp2 := hD.keeps (ds := [38, 39, 40, 41, 37, 42, 43, 44, 10, 11, 12]) (by kernel_rfl)
  have hds := hD.size
  have hsz9 : a1.tmps.size = 143 := hD.size
  have hdd := hD.defers
  have hst := hD.st
  refine tail_val (i := 10) (v := .int .i64 7) (W' := W2) none 0 rfl rfl rfl (fun c hc => by cases hc) (by go_simp) (by rw [hsz9]; decide) ?_
  intro a3 s3 d3 f3 o3
  have hkp3 := keeps_then hkp2 o3 (by decide)
  have e := act_mix [38, 39, 40, 41, 37, 42, 43, 44, 10, 11, 12] (s3.trans (hds)) (d3.trans (hdd)) (fun i _ hc => hkp3 i hc)
  have hgg0 : (fun i => a3.tmps.getD i undef) 12 = .int .i64 7 := f3
  have hgk10 : (fun i => a3.tmps.getD i undef) 10 = .slice none 0 0 := (o3 10 (by decide)).trans (e10)
  have hgk11 : (fun i => a3.tmps.getD i undef) 11 = .int .i64 0 := (o3 11 (by decide)).trans (e11)
  generalize (fun i => a3.tmps.getD i undef) = g' at e hgg0 hgk10 hgk11
  refine wpListIn_nil ?_
  rw [e]
  clear e hD hkp2 hkp3 hds hdd hsz9 s3 d3 f3 o3 e44 e10 e11
  simp only [mix, List.contains_cons, List.contains_nil, Nat.reduceAdd, Nat.reduceBEq, Bool.or_false, Bool.or_true, cond_true, cond_false, hgg0, hgk10, hgk11]
  clear hgg0 hgk10 hgk11
  have hb := hst
  clear hst
  have HB4 := hid (HB3.out.trans (hb.mono HB3.out.size))
  have HT4 := hid (HT3.out.keep hb)
  have LB4 := hid (LB0.out.keep hb)
  clear hb
  generalize W2 = w4 at *
  obtain ⟨t0, t1, t2, t3⟩ := HT4.out.c4
  obtain ⟨l0, l1⟩ := LB4.out.c2
  clear t0 t1 t2 t3 l0 l1
  go_wp2
  refine (wpIn_wide (n := 0)).1 ?_
  refine wpIn_region_each 6 (fun i v W' => match i with | 0 => v = .agg #[.slice A m.old.length c, .int .i64 m.nw, .slice A2 m.ss.length c2, .slice A3 m.js.length c3] | 1 => ∃ (y : (Option Addr × Nat) × (Option Addr × Nat) × (Option Addr × Nat)), v = .agg #[.slice y.1.1 m.old.length y.1.2, .int .i64 m.nw, .slice y.2.1.1 m.ss.length y.2.1.2, .slice y.2.2.1 m.js.length y.2.2.2] ∧ MIn m y.1.1 y.1.2 y.2.1.1 y.2.1.2 y.2.2.1 y.2.2.2 W' | 2 => v = .slice Ax xs.length cx | 3 => ∃ (y : Option Addr × Nat), v = .slice y.1 xs.length y.2 ∧ IntsAt y xs W' | 4 => v = .agg #[.int .i64 lo, .int .i64 hi] | 5 => v = .bool false | _ => True) (fun A B => Below A.heap.size A B) (fun _ _ => True) (by kernel_rfl) (by kernel_rfl) ?_ (fun h k => h.trans (k.mono h.size)) ⟨rfl, rfl, rfl, Nat.le_refl _, fun _ _ => rfl⟩ trivial (by kernel_rfl) ?_ ?_
  · intro i v W1 W2 hb h
    match i, h with
    | 0, h => exact h
    | 1, h =>
      obtain ⟨y, rfl, h1⟩ := h
      exact ⟨_, rfl, h1.at_ hb⟩
    | 2, h => exact h
    | 3, h =>
      obtain ⟨y, rfl, h1⟩ := h
      exact ⟨_, rfl, h1.at_ hb⟩
    | 4, h => exact h
    | 5, h => exact h
    | i + 6, h => trivial
  · refine ⟨?_, ?_, ?_, ?_, ?_, ?_, trivial⟩
    · -- 0
      intro li a1 W2 hA K hK
      have e4 := hA.par 4 (by kernel_rfl)
      obtain ⟨q1, q2, q3, q4⟩ := (HT4.out.keep hA.st).c4
      refine opStep none 0 rfl rfl (fun c hc => by cases hc) ?_
      go_simp
      exact hK _ _ rfl (Below.refl _ _) trivial
    · -- 1
      intro li a1 W2 hA K hK
      have e45 : a1.tmps.getD 45 undef = .agg #[.slice A m.old.length c, .int .i64 m.nw, .slice A2 m.ss.length c2, .slice A3 m.js.length c3] := hA.val 0 45 (by kernel_rfl) (by kernel_rfl)
      refine opStep none 0 rfl rfl (fun c hc => by cases hc) ?_
      go_simp
      refine (map_thin (HH.out.at_ (HB4.out.trans (hA.st.mono HB4.out.size))) HTH.out).mono ?_
      rintro e W3 ⟨P, Q, R, rfl, hy, hb3⟩
      exact hK _ _ ⟨(P, Q, R), rfl, hy⟩ hb3 trivial
    · -- 2
      intro li a1 W2 hA K hK
      have e1 := hA.par 1 (by kernel_rfl)
      refine opStep none 0 rfl rfl (fun c hc => by cases hc) ?_
      go_simp
      exact hK _ _ rfl (Below.refl _ _) trivial
    · -- 3
      intro li a1 W2 hA K hK
      have e47 : a1.tmps.getD 47 undef = .slice Ax xs.length cx := hA.val 2 47 (by kernel_rfl) (by kernel_rfl)
      refine opStep none 0 rfl rfl (fun c hc => by cases hc) ?_
      go_simp
      refine (lst_i (HX.out.at_ (HB4.out.trans (hA.st.mono HB4.out.size))) HX0.out (by have := HLX.out; omega)).mono ?_
      rintro e W3 ⟨y, rfl, hy, hb3⟩
      exact hK _ _ ⟨y, rfl, hy⟩ hb3 trivial
    · -- 4
      intro li a1 W2 hA K hK
      have e9 := hA.par 9 (by kernel_rfl)
      obtain ⟨q1, q2⟩ := (LB4.out.keep hA.st).c2
      refine opStep none 0 rfl rfl (fun c hc => by cases hc) ?_
      go_simp
      exact hK _ _ rfl (Below.refl _ _) trivial
    · -- 5
      intro li a1 W2 hA K hK
      obtain ⟨y46, e46, h46⟩ := hA.val 1 46 (by kernel_rfl) (by kernel_rfl)
      obtain ⟨y48, e48, h48⟩ := hA.val 3 48 (by kernel_rfl) (by kernel_rfl)
      have e49 : a1.tmps.getD 49 undef = .agg #[.int .i64 lo, .int .i64 hi] := hA.val 4 49 (by kernel_rfl) (by kernel_rfl)
      refine opStep none 0 rfl rfl (fun c hc => by cases hc) ?_
      go_simp
      have KM := hid (pb_is (mv := 99) h46 h48 HE0.out)
      rw [HIS.out] at KM
      refine KM.out.mono ?_
      rintro e W3 ⟨rfl, hb3⟩
      exact hK _ _ rfl hb3 trivial
  intro li a1 W2 hD
  have e50 : a1.tmps.getD 50 undef = .bool false := hD.val 5 50 (by kernel_rfl) (by kernel_rfl)
  have hkp2 := hD.keeps (ds := [45, 46, 47, 48, 49, 50, 13]) (by kernel_rfl)
  have hds := hD.size
  have hsz9 : a1.tmps.size = 143 := hD.size
  have hdd := hD.defers
  have hst := hD.st
  refine tail_val (i := 6) (v := .bool false) (W' := W2) none 0 rfl rfl rfl (fun c hc => by cases hc) (by go_simp) (by rw [hsz9]; decide) ?_
  intro a3 s3 d3 f3 o3
  have hkp3 := keeps_then hkp2 o3 (by decide)
  have e := act_mix [45, 46, 47, 48, 49, 50, 13] (s3.trans (hds)) (d3.trans (hdd)) (fun i _ hc => hkp3 i hc)
  have hgg0 : (fun i => a3.tmps.getD i undef) 13 = .bool false := f3
  generalize (fun i => a3.tmps.getD i undef) = g' at e hgg0
  refine wpListIn_nil ?_
  rw [e]
  clear e hD hkp2 hkp3 hds hdd hsz9 s3 d3 f3 o3 e50
  simp only [mix, List.contains_cons, List.contains_nil, Nat.reduceAdd, Nat.reduceBEq, Bool.or_false, Bool.or_true, cond_true, cond_false, hgg0]
  clear hgg0
  have hb := hst
  clear hst
  have HB5 := hid (HB4.out.trans (hb.mono HB4.out.size))
  have HT5 := hid (HT4.out.keep hb)
  have LB5 := hid (LB4.out.keep hb)
  clear hb
  generalize W2 = w5 at *
  obtain ⟨t0, t1, t2, t3⟩ := HT5.out.c4
  obtain ⟨l0, l1⟩ := LB5.out.c2
  clear t0 t1 t2 t3 l0 l1
  go_wp2
  refine (wpIn_wide (n := 0)).1 ?_
  refine wpIn_region_each 6 (fun i v W' => match i with | 0 => v = .agg #[.slice A m.old.length c, .int .i64 m.nw, .slice A2 m.ss.length c2, .slice A3 m.js.length c3] | 1 => ∃ (y : (Option Addr × Nat) × (Option Addr × Nat) × (Option Addr × Nat)), v = .agg #[.slice y.1.1 m.old.length y.1.2, .int .i64 m.nw, .slice y.2.1.1 m.ss.length y.2.1.2, .slice y.2.2.1 m.js.length y.2.2.2] ∧ MIn m y.1.1 y.1.2 y.2.1.1 y.2.1.2 y.2.2.1 y.2.2.2 W' | 2 => v = .agg #[.slice A m.old.length c, .int .i64 m.nw, .slice A2 m.ss.length c2, .slice A3 m.js.length c3] | 3 => ∃ (y : Option Addr × Nat), v = .slice y.1 (lst m (ownL m)).length y.2 ∧ IntsAt y (lst m (ownL m)) W' | 4 => v = .agg #[.int .i64 lo, .int .i64 hi] | 5 => v = .bool false | _ => True) (fun A B => Below A.heap.size A B) (fun _ _ => True) (by kernel_rfl) (by kernel_rfl) ?_ (fun h k => h.trans (k.mono h.size)) ⟨rfl, rfl, rfl, Nat.le_refl _, fun _ _ => rfl⟩ trivial (by kernel_rfl) ?_ ?_
  · intro i v W1 W2 hb h
    match i, h with
    | 0, h => exact h
    | 1, h =>
      obtain ⟨y, rfl, h1⟩ := h
      exact ⟨_, rfl, h1.at_ hb⟩
    | 2, h => exact h
    | 3, h =>
      obtain ⟨y, rfl, h1⟩ := h
      exact ⟨_, rfl, h1.at_ hb⟩
    | 4, h => exact h
    | 5, h => exact h
    | i + 6, h => trivial
  · refine ⟨?_, ?_, ?_, ?_, ?_, ?_, trivial⟩
    · -- 0
      intro li a1 W2 hA K hK
      have e4 := hA.par 4 (by kernel_rfl)
      obtain ⟨q1, q2, q3, q4⟩ := (HT5.out.keep hA.st).c4
      refine opStep none 0 rfl rfl (fun c hc => by cases hc) ?_
      go_simp
      exact hK _ _ rfl (Below.refl _ _) trivial
    · -- 1
      intro li a1 W2 hA K hK
      have e51 : a1.tmps.getD 51 undef = .agg #[.slice A m.old.length c, .int .i64 m.nw, .slice A2 m.ss.length c2, .slice A3 m.js.length c3] := hA.val 0 51 (by kernel_rfl) (by kernel_rfl)
      refine opStep none 0 rfl rfl (fun c hc => by cases hc) ?_
      go_simp
      refine (map_thin (HH.out.at_ (HB5.out.trans (hA.st.mono HB5.out.size))) HTH.out).mono ?_
      rintro e W3 ⟨P, Q, R, rfl, hy, hb3⟩
      exact hK _ _ ⟨(P, Q, R), rfl, hy⟩ hb3 trivial
    · -- 2
      intro li a1 W2 hA K hK
      have e4 := hA.par 4 (by kernel_rfl)
      obtain ⟨q1, q2, q3, q4⟩ := (HT5.out.keep hA.st).c4
      refine opStep none 0 rfl rfl (fun c hc => by cases hc) ?_
      go_simp
      exact hK _ _ rfl (Below.refl _ _) trivial
    · -- 3
      intro li a1 W2 hA K hK
      have e53 : a1.tmps.getD 53 undef = .agg #[.slice A m.old.length c, .int .i64 m.nw, .slice A2 m.ss.length c2, .slice A3 m.js.length c3] := hA.val 2 53 (by kernel_rfl) (by kernel_rfl)
      refine opStep none 0 rfl rfl (fun c hc => by cases hc) ?_
      go_simp
      refine ((qown_any m A c A2 c2 A3 c3 W2 (HH.out.at_ (HB5.out.trans (hA.st.mono HB5.out.size))).toMIn (by have := OK.out.s8; omega)).mono fun _ _ => GivesInts.i).mono ?_
      rintro e W3 ⟨y, rfl, hy, hb3⟩
      exact hK _ _ ⟨y, rfl, hy⟩ hb3 trivial
    · -- 4
      intro li a1 W2 hA K hK
      have e9 := hA.par 9 (by kernel_rfl)
      obtain ⟨q1, q2⟩ := (LB5.out.keep hA.st).c2
      refine opStep none 0 rfl rfl (fun c hc => by cases hc) ?_
      go_simp
      exact hK _ _ rfl (Below.refl _ _) trivial
    · -- 5
      intro li a1 W2 hA K hK
      obtain ⟨y52, e52, h52⟩ := hA.val 1 52 (by kernel_rfl) (by kernel_rfl)
      obtain ⟨y54, e54, h54⟩ := hA.val 3 54 (by kernel_rfl) (by kernel_rfl)
      have e55 : a1.tmps.getD 55 undef = .agg #[.int .i64 lo, .int .i64 hi] := hA.val 4 55 (by kernel_rfl) (by kernel_rfl)
      refine opStep none 0 rfl rfl (fun c hc => by cases hc) ?_
      go_simp
      have KM := hid (pb_is (mv := 0) h52 h54 HE0.out)
      rw [HOW.out] at KM
      refine KM.out.mono ?_
      rintro e W3 ⟨rfl, hb3⟩
      exact hK _ _ rfl hb3 trivial
  intro li a1 W2 hD
  have e56 : a1.tmps.getD 56 undef = .bool false := hD.val 5 56 (by kernel_rfl) (by kernel_rfl)
  have hkp2 := hD.keeps (ds := [51, 52, 53, 54, 55, 56, 14]) (by kernel_rfl)
  have hds := hD.size
  have hsz9 : a1.tmps.size = 143 := hD.size
  have hdd := hD.defers
  have hst := hD.st
  refine tail_val (i := 6) (v := .bool false) (W' := W2) none 0 rfl rfl rfl (fun c hc => by cases hc) (by go_simp) (by rw [hsz9]; decide) ?_
  intro a3 s3 d3 f3 o3
  have hkp3 := keeps_then hkp2 o3 (by decide)
  have e := act_mix [51, 52, 53, 54, 55, 56, 14] (s3.trans (hds)) (d3.trans (hdd)) (fun i _ hc => hkp3 i hc)
  have hgg0 : (fun i => a3.tmps.getD i undef) 14 = .bool false := f3
  generalize (fun i => a3.tmps.getD i undef) = g' at e hgg0
  refine wpListIn_nil ?_
  rw [e]
  clear e hD hkp2 hkp3 hds hdd hsz9 s3 d3 f3 o3 e56
  simp only [mix, List.contains_cons, List.contains_nil, Nat.reduceAdd, Nat.reduceBEq, Bool.or_false, Bool.or_true, cond_true, cond_false, hgg0]
  clear hgg0
  have hb := hst
  clear hst
  have HB6 := hid (HB5.out.trans (hb.mono HB5.out.size))
  have HT6 := hid (HT5.out.keep hb)
  have LB6 := hid (LB5.out.keep hb)
  clear hb
  generalize W2 = w6 at *
  obtain ⟨t0, t1, t2, t3⟩ := HT6.out.c4
  obtain ⟨l0, l1⟩ := LB6.out.c2
  have K7 := hid (awake_any w6)
  go_wp2_with fail
  refine K7.out.mono ?_
  rintro e w7 ⟨rfl, hb⟩
  have HB7 := hid (HB6.out.trans (hb.mono HB6.out.size))
  have HT7 := hid (HT6.out.keep hb)
  have LB7 := hid (LB6.out.keep hb)
  clear hb K7 t0 t1 t2 t3 l0 l1
  obtain ⟨t0, t1, t2, t3⟩ := HT7.out.c4
  obtain ⟨l0, l1⟩ := LB7.out.c2
  clear t0 t1 t2 t3 l0 l1
  go_wp2
  go_ret
  exact ⟨rfl, HB7.out⟩

set_option maxRecDepth 100000 in
set_option maxHeartbeats 8000000 in
theorem rgt_some (m : MapD) (A : Option Addr) (c : Nat) (A2 : Option Addr) (c2 : Nat) (A3 : Option Addr) (c3 : Nat) (Ax : Option Addr) (cx : Nat) (xs : List Int) (p q : Int) (w : World) (h : MArg m A c A2 c2 A3 c3 w) (hx : IntsAt (Ax, cx) xs w) (hx0 : Ax = none → cx = 0) (hp0 : 0 ≤ p) (hp1 : p ≤ 65535) (hq0 : 0 ≤ q) (hq1 : q ≤ 65535) (hr : readyM m = true) (hl : ¬ 12 < xs.length) (j : Nat) (l : Nat → Int) (hbb : bestB m (p % 2000) (min 40000 (p % 2000 + q)) = some (j, l)) (b : Bool) (his : isB m xs (p % 2000) (min 40000 (p % 2000 + q)) 99 = b) :
    Calls Try.prog 11 #[.agg #[.slice A m.old.length c, .int .i64 m.nw, .slice A2 m.ss.length c2, .slice A3 m.js.length c3], .slice Ax xs.length cx, .int .u16 p, .int .u16 q] w fun e w' => e = .returned (.bool true) ∧ Below w.heap.size w w' := by
  have hB := below_box (w := w) #[.slice A m.old.length c, .int .i64 m.nw, .slice A2 m.ss.length c2, .slice A3 m.js.length c3] 26
  have hT := Blk.new w 26 #[.slice A m.old.length c, .int .i64 m.nw, .slice A2 m.ss.length c2, .slice A3 m.js.length c3]
  have HB0 := hid hB
  have HT0 := hid hT
  have HH := hid h
  obtain ⟨t0, t1, t2, t3⟩ := hT.c4
  clear h hB hT
  have HX := hid hx
  have HX0 := hid hx0
  clear hx hx0
  have ok9 := chk_okm (cst_ok (ready_iff.1 hr).2).1
  have how := right_own ok9 hbb
  have hrb := right_best hbb
  have hcn := fun (d : Nat) (hd : (d : Int) < m.nw) => right_conn hbb hd
  have hjs := bestB_le hbb
  have hs8 := ok9.s8
  have HCS := hid (show b = true → xs.length = m.ss.length ∧ ((j : Int) < movN m (fnO xs) xs.length ∨ (movN m (fnO xs) xs.length = j ∧ befB xs (lst m l) = false)) from fun e => right_is hbb (his.trans e))
  have HRD := hid hr
  have HCM := hid (ready_iff.1 hr).2
  have HTH := hid (ready_iff.1 hr).1
  have OK := hid (chk_okm (cst_ok (ready_iff.1 hr).2).1)
  have HLX := hid hl
  have hlB : decide ((12 : Int) < (xs.length : Int)) = false := by simp; omega
  obtain ⟨lo, hlo⟩ : ∃ lo, p % 2000 = lo := ⟨_, rfl⟩
  obtain ⟨hi, hhi⟩ : ∃ hi, min 40000 (lo + q) = hi := ⟨_, rfl⟩
  have hlo0 : 0 ≤ lo ∧ lo < 2000 := by rw [← hlo]; exact ⟨Int.emod_nonneg _ (by omega), Int.emod_lt_of_pos _ (by omega)⟩
  have HE0 := hid (ask_mk (ready_iff.1 hr).2 hlo0.1 (by omega) (by omega) : askE m lo hi = 0)
  have htm : p.tmod 2000 = lo := by rw [Int.tmod_eq_emod_of_nonneg hp0]; exact hlo
  have hwp : IntKind.i64.wrap p = p := IntWalk.i64_in _ (by omega)
  have hwq : IntKind.i64.wrap q = q := IntWalk.i64_in _ (by omega)
  have hwl : IntKind.i64.wrap lo = lo := IntWalk.i64_in _ (by omega)
  have hws : IntKind.i64.wrap (lo + q) = lo + q := IntWalk.i64_in _ (by omega)
  have hite : (if lo + q < 40000 then lo + q else 40000) = hi := by rw [← hhi]; split <;> omega
  have hitv : (if lo + q < 40000 then Value.int .i64 (lo + q) else Value.int .i64 40000) = Value.int .i64 hi := by rw [← hhi]; split <;> congr 1 <;> omega
  rw [hlo, hhi] at hbb his how hrb
  have HBB := hid hbb
  have HIS := hid his
  obtain ⟨ob, hob⟩ : ∃ b, decide (j = 0) = b := ⟨_, rfl⟩
  have HOW := hid (how.trans hob)
  have HRB := hid hrb
  have HCN := hid hcn
  have hj0 : ((j : Int) == 0) = ob := by rw [← hob]; by_cases e : j = 0 <;> simp [e]
  have HJ0 := hid hj0
  have HWJ := hid (IntWalk.i64_in _ (by omega) : IntKind.i64.wrap ((j : Int) - 1) = (j : Int) - 1)
  have HMJ := hid (show movN m (fnO (lst m l)) (lst m l).length = (j : Int) by rw [lst_len]; exact hrb.2.2.2)
  obtain ⟨N, hN⟩ : ∃ N : Nat, m.nw = (N : Int) := ⟨m.nw.toNat, by have := ok9.n1; omega⟩
  have hN4 : N ≤ 4 := by have := ok9.n4; omega
  have HN := hid hN
  clear hr his how hbb hlo hhi hrb hob ok9 hcn hN hj0
  go_enter Try.func11, Try.ntmps11
  have K1 := hid (mready_any m A c A2 c2 A3 c3 (w.alloc (.cells #[.slice A m.old.length c, .int .i64 m.nw, .slice A2 m.ss.length c2, .slice A3 m.js.length c3] 26)) (HH.out.at_ HB0.out).toMIn)
  rw [HRD.out] at K1
  go_wp2_with fail
  refine K1.out.mono ?_
  rintro e w1 ⟨rfl, hb⟩
  have HB1 := hid (HB0.out.trans (hb.mono HB0.out.size))
  have HT1 := hid (HT0.out.keep hb)
  clear hb K1 t0 t1 t2 t3
  obtain ⟨t0, t1, t2, t3⟩ := HT1.out.c4
  have K2 := hid (between_any lo hi w1)
  go_wp2_with fail
  refine K2.out.mono ?_
  rintro e w2 ⟨rfl, hb⟩
  have HB2 := hid (HB1.out.trans (hb.mono HB1.out.size))
  have HT2 := hid (HT1.out.keep hb)
  clear hb K2 t0 t1 t2 t3
  obtain ⟨t0, t1, t2, t3⟩ := HT2.out.c4
  go_upto_region 4 with (fail)
  refine gen (p := Code.wp _ _ _ _) (fun W => Below w2.heap.size w2 W ∧ Blk W w2.heap.size 49 #[.int .i64 lo, .int .i64 hi]) ⟨below_box _ _, Blk.new _ _ _⟩ ?_
  rintro w3 ⟨hb, hl9⟩
  have HB3 := hid (HB2.out.trans (hb.mono HB2.out.size))
  have HT3 := hid (HT2.out.keep hb)
  have LB0 := hid hl9
  clear hb hl9 t0 t1 t2 t3
  generalize w2.heap.size = LN at *
  obtain ⟨t0, t1, t2, t3⟩ := HT3.out.c4
  obtain ⟨l0, l1⟩ := LB0.out.c2
  clear t0 t1 t2 t3 l0 l1
  go_wp2
  refine (wpIn_wide (n := 0)).1 ?_
  refine wpIn_region_each 10 (fun i v W' => match i with | 0 => v = .agg #[.slice A m.old.length c, .int .i64 m.nw, .slice A2 m.ss.length c2, .slice A3 m.js.length c3] | 1 => ∃ (y : (Option Addr × Nat) × (Option Addr × Nat) × (Option Addr × Nat)), v = .agg #[.slice y.1.1 m.old.length y.1.2, .int .i64 m.nw, .slice y.2.1.1 m.ss.length y.2.1.2, .slice y.2.2.1 m.js.length y.2.2.2] ∧ MIn m y.1.1 y.1.2 y.2.1.1 y.2.1.2 y.2.2.1 y.2.2.2 W' | 2 => v = .agg #[.int .i64 lo, .int .i64 hi] | 3 => ∃ (y : Option Addr × Nat), v = .tuple #[.slice y.1 (lst m l).length y.2, .int .i64 (j : Int), .int .i64 0] ∧ IntsAt y (lst m l) W' | 4 => ∃ (y : Option Addr × Nat), v = .tuple #[.slice y.1 (lst m l).length y.2, .int .i64 (j : Int), .int .i64 0] ∧ IntsAt y (lst m l) W' | 5 => ∃ (y : Option Addr × Nat), v = .slice y.1 (lst m l).length y.2 ∧ IntsAt y (lst m l) W' | 6 => v = .int .i64 (j : Int) | 7 => v = .int .i64 0 | 8 => ∃ (y : Option Addr × Nat), v = .slice y.1 (lst m l).length y.2 ∧ IntsAt y (lst m l) W' | 9 => v = .int .i64 (j : Int) | _ => True) (fun A B => Below A.heap.size A B) (fun _ _ => True) (by kernel_rfl) (by kernel_rfl) ?_ (fun h k => h.trans (k.mono h.size)) ⟨rfl, rfl, rfl, Nat.le_refl _, fun _ _ => rfl⟩ trivial (by kernel_rfl) ?_ ?_
  · intro i v W1 W2 hb h
    match i, h with
    | 0, h => exact h
    | 1, h =>
      obtain ⟨y, rfl, h1⟩ := h
      exact ⟨_, rfl, h1.at_ hb⟩
    | 2, h => exact h
    | 3, h =>
      obtain ⟨y, rfl, h1⟩ := h
      exact ⟨_, rfl, h1.at_ hb⟩
    | 4, h =>
      obtain ⟨y, rfl, h1⟩ := h
      exact ⟨_, rfl, h1.at_ hb⟩
    | 5, h =>
      obtain ⟨y, rfl, h1⟩ := h
      exact ⟨_, rfl, h1.at_ hb⟩
    | 6, h => exact h
    | 7, h => exact h
    | 8, h =>
      obtain ⟨y, rfl, h1⟩ := h
      exact ⟨_, rfl, h1.at_ hb⟩
    | 9, h => exact h
    | i + 10, h => trivial
  · refine ⟨?_, ?_, ?_, ?_, ?_, ?_, ?_, ?_, ?_, ?_, trivial⟩
    · -- 0
      intro li a1 W2 hA K hK
      have e4 := hA.par 4 (by kernel_rfl)
      obtain ⟨q1, q2, q3, q4⟩ := (HT3.out.keep hA.st).c4
      refine opStep none 0 rfl rfl (fun c hc => by cases hc) ?_
      go_simp
      exact hK _ _ rfl (Below.refl _ _) trivial
    · -- 1
      intro li a1 W2 hA K hK
      have e38 : a1.tmps.getD 38 undef = .agg #[.slice A m.old.length c, .int .i64 m.nw, .slice A2 m.ss.length c2, .slice A3 m.js.length c3] := hA.val 0 38 (by kernel_rfl) (by kernel_rfl)
      refine opStep none 0 rfl rfl (fun c hc => by cases hc) ?_
      go_simp
      refine (map_thin (HH.out.at_ (HB3.out.trans (hA.st.mono HB3.out.size))) HTH.out).mono ?_
      rintro e W3 ⟨P, Q, R, rfl, hy, hb3⟩
      exact hK _ _ ⟨(P, Q, R), rfl, hy⟩ hb3 trivial
    · -- 2
      intro li a1 W2 hA K hK
      have e9 := hA.par 9 (by kernel_rfl)
      obtain ⟨q1, q2⟩ := (LB0.out.keep hA.st).c2
      refine opStep none 0 rfl rfl (fun c hc => by cases hc) ?_
      go_simp
      exact hK _ _ rfl (Below.refl _ _) trivial
    · -- 3
      intro li a1 W2 hA K hK
      obtain ⟨y39, e39, h39⟩ := hA.val 1 39 (by kernel_rfl) (by kernel_rfl)
      have e40 : a1.tmps.getD 40 undef = .agg #[.int .i64 lo, .int .i64 hi] := hA.val 2 40 (by kernel_rfl) (by kernel_rfl)
      refine opStep none 0 rfl rfl (fun c hc => by cases hc) ?_
      go_simp
      refine (best_yes h39 HE0.out HBB.out).mono ?_
      rintro e W3 ⟨y, rfl, hy, hb3⟩
      exact hK _ _ ⟨y, rfl, hy⟩ hb3 trivial
    · -- 4
      intro li a1 W2 hA K hK
      obtain ⟨y41, e41, h41⟩ := hA.val 3 41 (by kernel_rfl) (by kernel_rfl)
      refine opStep none 0 rfl rfl (fun c hc => by cases hc) ?_
      go_simp
      exact hK _ _ ⟨_, rfl, h41⟩ (Below.refl _ _) trivial
    · -- 5
      intro li a1 W2 hA K hK
      obtain ⟨y37, e37, h37⟩ := hA.val 4 37 (by kernel_rfl) (by kernel_rfl)
      refine opStep none 0 rfl rfl (fun c hc => by cases hc) ?_
      go_simp
      exact hK _ _ ⟨_, rfl, h37⟩ (Below.refl _ _) trivial
    · -- 6
      intro li a1 W2 hA K hK
      obtain ⟨y37, e37, h37⟩ := hA.val 4 37 (by kernel_rfl) (by kernel_rfl)
      refine opStep none 0 rfl rfl (fun c hc => by cases hc) ?_
      go_simp
      exact hK _ _ rfl (Below.refl _ _) trivial
    · -- 7
      intro li a1 W2 hA K hK
      obtain ⟨y37, e37, h37⟩ := hA.val 4 37 (by kernel_rfl) (by kernel_rfl)
      refine opStep none 0 rfl rfl (fun c hc => by cases hc) ?_
      go_simp
      exact hK _ _ rfl (Below.refl _ _) trivial
    · -- 8
      intro li a1 W2 hA K hK
      obtain ⟨y42, e42, h42⟩ := hA.val 5 42 (by kernel_rfl) (by kernel_rfl)
      refine opStep none 0 rfl rfl (fun c hc => by cases hc) ?_
      go_simp
      exact hK _ _ ⟨_, rfl, h42⟩ (Below.refl _ _) trivial
    · -- 9
      intro li a1 W2 hA K hK
      have e43 : a1.tmps.getD 43 undef = .int .i64 (j : Int) := hA.val 6 43 (by kernel_rfl) (by kernel_rfl)
      refine opStep none 0 rfl rfl (fun c hc => by cases hc) ?_
      go_simp
      exact hK _ _ rfl (Below.refl _ _) trivial
  intro li a1 W2 hD
  obtain ⟨y10, e10, h10⟩ := hD.val 8 10 (by kernel_rfl) (by kernel_rfl)
  have e11 : a1.tmps.getD 11 undef = .int .i64 (j : Int) := hD.val 9 11 (by kernel_rfl) (by kernel_rfl)
  have e44 : a1.tmps.getD 44 undef = .int .i64 0 := hD.val 7 44 (by kernel_rfl) (by kernel_rfl)
  have hkp2 := hD.keeps (ds := [38, 39, 40, 41, 37, 42, 43, 44, 10, 11, 12]) (by kernel_rfl)
  have hds := hD.size
  have hsz9 : a1.tmps.size = 143 := hD.size
  have hdd := hD.defers
  have hst := hD.st
  refine tail_val (i := 10) (v := .int .i64 0) (W' := W2) none 0 rfl rfl rfl (fun c hc => by cases hc) (by go_simp) (by rw [hsz9]; decide) ?_
  intro a3 s3 d3 f3 o3
  have hkp3 := keeps_then hkp2 o3 (by decide)
  have e := act_mix [38, 39, 40, 41, 37, 42, 43, 44, 10, 11, 12] (s3.trans (hds)) (d3.trans (hdd)) (fun i _ hc => hkp3 i hc)
  have hgg0 : (fun i => a3.tmps.getD i undef) 12 = .int .i64 0 := f3
  have hgk10 : (fun i => a3.tmps.getD i undef) 10 = .slice y10.1 (lst m l).length y10.2 := (o3 10 (by decide)).trans (e10)
  have hgk11 : (fun i => a3.tmps.getD i undef) 11 = .int .i64 (j : Int) := (o3 11 (by decide)).trans (e11)
  generalize (fun i => a3.tmps.getD i undef) = g' at e hgg0 hgk10 hgk11
  refine wpListIn_nil ?_
  rw [e]
  clear e hD hkp2 hkp3 hds hdd hsz9 s3 d3 f3 o3 e44 e10 e11
  simp only [mix, List.contains_cons, List.contains_nil, Nat.reduceAdd, Nat.reduceBEq, Bool.or_false, Bool.or_true, cond_true, cond_false, hgg0, hgk10, hgk11]
  clear hgg0 hgk10 hgk11
  have hb := hst
  clear hst
  have HB4 := hid (HB3.out.trans (hb.mono HB3.out.size))
  have HT4 := hid (HT3.out.keep hb)
  have LB4 := hid (LB0.out.keep hb)
  have HYB := hid h10
  clear h10
  clear hb
  generalize W2 = w4 at *
  obtain ⟨t0, t1, t2, t3⟩ := HT4.out.c4
  obtain ⟨l0, l1⟩ := LB4.out.c2
  have BB0 := hid (Below.refl w4.heap.size w4)
  clear t0 t1 t2 t3 l0 l1
  go_wp2
  refine (wpIn_wide (n := 0)).1 ?_
  refine wpIn_region_each 6 (fun i v W' => match i with | 0 => v = .agg #[.slice A m.old.length c, .int .i64 m.nw, .slice A2 m.ss.length c2, .slice A3 m.js.length c3] | 1 => ∃ (y : (Option Addr × Nat) × (Option Addr × Nat) × (Option Addr × Nat)), v = .agg #[.slice y.1.1 m.old.length y.1.2, .int .i64 m.nw, .slice y.2.1.1 m.ss.length y.2.1.2, .slice y.2.2.1 m.js.length y.2.2.2] ∧ MIn m y.1.1 y.1.2 y.2.1.1 y.2.1.2 y.2.2.1 y.2.2.2 W' | 2 => v = .slice Ax xs.length cx | 3 => ∃ (y : Option Addr × Nat), v = .slice y.1 xs.length y.2 ∧ IntsAt y xs W' | 4 => v = .agg #[.int .i64 lo, .int .i64 hi] | 5 => v = .bool b | _ => True) (fun A B => Below A.heap.size A B) (fun _ _ => True) (by kernel_rfl) (by kernel_rfl) ?_ (fun h k => h.trans (k.mono h.size)) ⟨rfl, rfl, rfl, Nat.le_refl _, fun _ _ => rfl⟩ trivial (by kernel_rfl) ?_ ?_
  · intro i v W1 W2 hb h
    match i, h with
    | 0, h => exact h
    | 1, h =>
      obtain ⟨y, rfl, h1⟩ := h
      exact ⟨_, rfl, h1.at_ hb⟩
    | 2, h => exact h
    | 3, h =>
      obtain ⟨y, rfl, h1⟩ := h
      exact ⟨_, rfl, h1.at_ hb⟩
    | 4, h => exact h
    | 5, h => exact h
    | i + 6, h => trivial
  · refine ⟨?_, ?_, ?_, ?_, ?_, ?_, trivial⟩
    · -- 0
      intro li a1 W2 hA K hK
      have e4 := hA.par 4 (by kernel_rfl)
      obtain ⟨q1, q2, q3, q4⟩ := (HT4.out.keep hA.st).c4
      refine opStep none 0 rfl rfl (fun c hc => by cases hc) ?_
      go_simp
      exact hK _ _ rfl (Below.refl _ _) trivial
    · -- 1
      intro li a1 W2 hA K hK
      have e45 : a1.tmps.getD 45 undef = .agg #[.slice A m.old.length c, .int .i64 m.nw, .slice A2 m.ss.length c2, .slice A3 m.js.length c3] := hA.val 0 45 (by kernel_rfl) (by kernel_rfl)
      refine opStep none 0 rfl rfl (fun c hc => by cases hc) ?_
      go_simp
      refine (map_thin (HH.out.at_ (HB4.out.trans (hA.st.mono HB4.out.size))) HTH.out).mono ?_
      rintro e W3 ⟨P, Q, R, rfl, hy, hb3⟩
      exact hK _ _ ⟨(P, Q, R), rfl, hy⟩ hb3 trivial
    · -- 2
      intro li a1 W2 hA K hK
      have e1 := hA.par 1 (by kernel_rfl)
      refine opStep none 0 rfl rfl (fun c hc => by cases hc) ?_
      go_simp
      exact hK _ _ rfl (Below.refl _ _) trivial
    · -- 3
      intro li a1 W2 hA K hK
      have e47 : a1.tmps.getD 47 undef = .slice Ax xs.length cx := hA.val 2 47 (by kernel_rfl) (by kernel_rfl)
      refine opStep none 0 rfl rfl (fun c hc => by cases hc) ?_
      go_simp
      refine (lst_i (HX.out.at_ (HB4.out.trans (hA.st.mono HB4.out.size))) HX0.out (by have := HLX.out; omega)).mono ?_
      rintro e W3 ⟨y, rfl, hy, hb3⟩
      exact hK _ _ ⟨y, rfl, hy⟩ hb3 trivial
    · -- 4
      intro li a1 W2 hA K hK
      have e9 := hA.par 9 (by kernel_rfl)
      obtain ⟨q1, q2⟩ := (LB4.out.keep hA.st).c2
      refine opStep none 0 rfl rfl (fun c hc => by cases hc) ?_
      go_simp
      exact hK _ _ rfl (Below.refl _ _) trivial
    · -- 5
      intro li a1 W2 hA K hK
      obtain ⟨y46, e46, h46⟩ := hA.val 1 46 (by kernel_rfl) (by kernel_rfl)
      obtain ⟨y48, e48, h48⟩ := hA.val 3 48 (by kernel_rfl) (by kernel_rfl)
      have e49 : a1.tmps.getD 49 undef = .agg #[.int .i64 lo, .int .i64 hi] := hA.val 4 49 (by kernel_rfl) (by kernel_rfl)
      refine opStep none 0 rfl rfl (fun c hc => by cases hc) ?_
      go_simp
      have KM := hid (pb_is (mv := 99) h46 h48 HE0.out)
      rw [HIS.out] at KM
      refine KM.out.mono ?_
      rintro e W3 ⟨rfl, hb3⟩
      exact hK _ _ rfl hb3 trivial
  intro li a1 W2 hD
  have e50 : a1.tmps.getD 50 undef = .bool b := hD.val 5 50 (by kernel_rfl) (by kernel_rfl)
  have hkp2 := hD.keeps (ds := [45, 46, 47, 48, 49, 50, 13]) (by kernel_rfl)
  have hds := hD.size
  have hsz9 : a1.tmps.size = 143 := hD.size
  have hdd := hD.defers
  have hst := hD.st
  refine tail_val (i := 6) (v := .bool b) (W' := W2) none 0 rfl rfl rfl (fun c hc => by cases hc) (by go_simp) (by rw [hsz9]; decide) ?_
  intro a3 s3 d3 f3 o3
  have hkp3 := keeps_then hkp2 o3 (by decide)
  have e := act_mix [45, 46, 47, 48, 49, 50, 13] (s3.trans (hds)) (d3.trans (hdd)) (fun i _ hc => hkp3 i hc)
  have hgg0 : (fun i => a3.tmps.getD i undef) 13 = .bool b := f3
  generalize (fun i => a3.tmps.getD i undef) = g' at e hgg0
  refine wpListIn_nil ?_
  rw [e]
  clear e hD hkp2 hkp3 hds hdd hsz9 s3 d3 f3 o3 e50
  simp only [mix, List.contains_cons, List.contains_nil, Nat.reduceAdd, Nat.reduceBEq, Bool.or_false, Bool.or_true, cond_true, cond_false, hgg0]
  clear hgg0
  have hb := hst
  clear hst
  have HB5 := hid (HB4.out.trans (hb.mono HB4.out.size))
  have HT5 := hid (HT4.out.keep hb)
  have BB5 := hid (BB0.out.trans (hb.mono BB0.out.size))
  have LB5 := hid (LB4.out.keep hb)
  clear hb
  generalize W2 = w5 at *
  obtain ⟨t0, t1, t2, t3⟩ := HT5.out.c4
  obtain ⟨l0, l1⟩ := LB5.out.c2
  clear t0 t1 t2 t3 l0 l1
  go_wp2
  refine (wpIn_wide (n := 0)).1 ?_
  refine wpIn_region_each 6 (fun i v W' => match i with | 0 => v = .agg #[.slice A m.old.length c, .int .i64 m.nw, .slice A2 m.ss.length c2, .slice A3 m.js.length c3] | 1 => ∃ (y : (Option Addr × Nat) × (Option Addr × Nat) × (Option Addr × Nat)), v = .agg #[.slice y.1.1 m.old.length y.1.2, .int .i64 m.nw, .slice y.2.1.1 m.ss.length y.2.1.2, .slice y.2.2.1 m.js.length y.2.2.2] ∧ MIn m y.1.1 y.1.2 y.2.1.1 y.2.1.2 y.2.2.1 y.2.2.2 W' | 2 => v = .agg #[.slice A m.old.length c, .int .i64 m.nw, .slice A2 m.ss.length c2, .slice A3 m.js.length c3] | 3 => ∃ (y : Option Addr × Nat), v = .slice y.1 (lst m (ownL m)).length y.2 ∧ IntsAt y (lst m (ownL m)) W' | 4 => v = .agg #[.int .i64 lo, .int .i64 hi] | 5 => v = .bool ob | _ => True) (fun A B => Below A.heap.size A B) (fun _ _ => True) (by kernel_rfl) (by kernel_rfl) ?_ (fun h k => h.trans (k.mono h.size)) ⟨rfl, rfl, rfl, Nat.le_refl _, fun _ _ => rfl⟩ trivial (by kernel_rfl) ?_ ?_
  · intro i v W1 W2 hb h
    match i, h with
    | 0, h => exact h
    | 1, h =>
      obtain ⟨y, rfl, h1⟩ := h
      exact ⟨_, rfl, h1.at_ hb⟩
    | 2, h => exact h
    | 3, h =>
      obtain ⟨y, rfl, h1⟩ := h
      exact ⟨_, rfl, h1.at_ hb⟩
    | 4, h => exact h
    | 5, h => exact h
    | i + 6, h => trivial
  · refine ⟨?_, ?_, ?_, ?_, ?_, ?_, trivial⟩
    · -- 0
      intro li a1 W2 hA K hK
      have e4 := hA.par 4 (by kernel_rfl)
      obtain ⟨q1, q2, q3, q4⟩ := (HT5.out.keep hA.st).c4
      refine opStep none 0 rfl rfl (fun c hc => by cases hc) ?_
      go_simp
      exact hK _ _ rfl (Below.refl _ _) trivial
    · -- 1
      intro li a1 W2 hA K hK
      have e51 : a1.tmps.getD 51 undef = .agg #[.slice A m.old.length c, .int .i64 m.nw, .slice A2 m.ss.length c2, .slice A3 m.js.length c3] := hA.val 0 51 (by kernel_rfl) (by kernel_rfl)
      refine opStep none 0 rfl rfl (fun c hc => by cases hc) ?_
      go_simp
      refine (map_thin (HH.out.at_ (HB5.out.trans (hA.st.mono HB5.out.size))) HTH.out).mono ?_
      rintro e W3 ⟨P, Q, R, rfl, hy, hb3⟩
      exact hK _ _ ⟨(P, Q, R), rfl, hy⟩ hb3 trivial
    · -- 2
      intro li a1 W2 hA K hK
      have e4 := hA.par 4 (by kernel_rfl)
      obtain ⟨q1, q2, q3, q4⟩ := (HT5.out.keep hA.st).c4
      refine opStep none 0 rfl rfl (fun c hc => by cases hc) ?_
      go_simp
      exact hK _ _ rfl (Below.refl _ _) trivial
    · -- 3
      intro li a1 W2 hA K hK
      have e53 : a1.tmps.getD 53 undef = .agg #[.slice A m.old.length c, .int .i64 m.nw, .slice A2 m.ss.length c2, .slice A3 m.js.length c3] := hA.val 2 53 (by kernel_rfl) (by kernel_rfl)
      refine opStep none 0 rfl rfl (fun c hc => by cases hc) ?_
      go_simp
      refine ((qown_any m A c A2 c2 A3 c3 W2 (HH.out.at_ (HB5.out.trans (hA.st.mono HB5.out.size))).toMIn (by have := OK.out.s8; omega)).mono fun _ _ => GivesInts.i).mono ?_
      rintro e W3 ⟨y, rfl, hy, hb3⟩
      exact hK _ _ ⟨y, rfl, hy⟩ hb3 trivial
    · -- 4
      intro li a1 W2 hA K hK
      have e9 := hA.par 9 (by kernel_rfl)
      obtain ⟨q1, q2⟩ := (LB5.out.keep hA.st).c2
      refine opStep none 0 rfl rfl (fun c hc => by cases hc) ?_
      go_simp
      exact hK _ _ rfl (Below.refl _ _) trivial
    · -- 5
      intro li a1 W2 hA K hK
      obtain ⟨y52, e52, h52⟩ := hA.val 1 52 (by kernel_rfl) (by kernel_rfl)
      obtain ⟨y54, e54, h54⟩ := hA.val 3 54 (by kernel_rfl) (by kernel_rfl)
      have e55 : a1.tmps.getD 55 undef = .agg #[.int .i64 lo, .int .i64 hi] := hA.val 4 55 (by kernel_rfl) (by kernel_rfl)
      refine opStep none 0 rfl rfl (fun c hc => by cases hc) ?_
      go_simp
      have KM := hid (pb_is (mv := 0) h52 h54 HE0.out)
      rw [HOW.out] at KM
      refine KM.out.mono ?_
      rintro e W3 ⟨rfl, hb3⟩
      exact hK _ _ rfl hb3 trivial
  intro li a1 W2 hD
  have e56 : a1.tmps.getD 56 undef = .bool ob := hD.val 5 56 (by kernel_rfl) (by kernel_rfl)
  have hkp2 := hD.keeps (ds := [51, 52, 53, 54, 55, 56, 14]) (by kernel_rfl)
  have hds := hD.size
  have hsz9 : a1.tmps.size = 143 := hD.size
  have hdd := hD.defers
  have hst := hD.st
  refine tail_val (i := 6) (v := .bool ob) (W' := W2) none 0 rfl rfl rfl (fun c hc => by cases hc) (by go_simp) (by rw [hsz9]; decide) ?_
  intro a3 s3 d3 f3 o3
  have hkp3 := keeps_then hkp2 o3 (by decide)
  have e := act_mix [51, 52, 53, 54, 55, 56, 14] (s3.trans (hds)) (d3.trans (hdd)) (fun i _ hc => hkp3 i hc)
  have hgg0 : (fun i => a3.tmps.getD i undef) 14 = .bool ob := f3
  generalize (fun i => a3.tmps.getD i undef) = g' at e hgg0
  refine wpListIn_nil ?_
  rw [e]
  clear e hD hkp2 hkp3 hds hdd hsz9 s3 d3 f3 o3 e56
  simp only [mix, List.contains_cons, List.contains_nil, Nat.reduceAdd, Nat.reduceBEq, Bool.or_false, Bool.or_true, cond_true, cond_false, hgg0]
  clear hgg0
  have hb := hst
  clear hst
  have HB6 := hid (HB5.out.trans (hb.mono HB5.out.size))
  have HT6 := hid (HT5.out.keep hb)
  have BB6 := hid (BB5.out.trans (hb.mono BB5.out.size))
  have LB6 := hid (LB5.out.keep hb)
  clear hb
  generalize W2 = w6 at *
  obtain ⟨t0, t1, t2, t3⟩ := HT6.out.c4
  obtain ⟨l0, l1⟩ := LB6.out.c2
  clear t0 t1 t2 t3 l0 l1
  go_wp2
  refine (wpIn_wide (n := 0)).1 ?_
  refine wpIn_region_each 36 (fun i v W' => match i with | 0 => v = .agg #[.slice A m.old.length c, .int .i64 m.nw, .slice A2 m.ss.length c2, .slice A3 m.js.length c3] | 1 => v = .slice y10.1 (lst m l).length y10.2 | 2 => v = .bool true | 3 => v = .bool false | 4 => v = .bool false | 5 => v = .int .i64 (j : Int) | 6 => v = .agg #[.slice A m.old.length c, .int .i64 m.nw, .slice A2 m.ss.length c2, .slice A3 m.js.length c3] | 7 => v = .slice y10.1 (lst m l).length y10.2 | 8 => v = .int .i64 (j : Int) | 9 => v = .bool false | 10 => v = .bool false | 11 => v = .bool false | 12 => v = .agg #[.slice A m.old.length c, .int .i64 m.nw, .slice A2 m.ss.length c2, .slice A3 m.js.length c3] | 13 => ∃ (y : (Option Addr × Nat) × (Option Addr × Nat) × (Option Addr × Nat)), v = .agg #[.slice y.1.1 m.old.length y.1.2, .int .i64 m.nw, .slice y.2.1.1 m.ss.length y.2.1.2, .slice y.2.2.1 m.js.length y.2.2.2] ∧ MIn m y.1.1 y.1.2 y.2.1.1 y.2.1.2 y.2.2.1 y.2.2.2 W' | 14 => v = .slice y10.1 (lst m l).length y10.2 | 15 => ∃ (y : Option Addr × Nat), v = .slice y.1 (lst m l).length y.2 ∧ IntsAt y (lst m l) W' | 16 => v = .agg #[.int .i64 lo, .int .i64 hi] | 17 => v = .int .i64 (j : Int) | 18 => v = .bool true | 19 => v = .bool false | 20 => v = .bool false | 21 => v = .bool false | 22 => v = .agg #[.slice A m.old.length c, .int .i64 m.nw, .slice A2 m.ss.length c2, .slice A3 m.js.length c3] | 23 => ∃ (y : (Option Addr × Nat) × (Option Addr × Nat) × (Option Addr × Nat)), v = .agg #[.slice y.1.1 m.old.length y.1.2, .int .i64 m.nw, .slice y.2.1.1 m.ss.length y.2.1.2, .slice y.2.2.1 m.js.length y.2.2.2] ∧ MIn m y.1.1 y.1.2 y.2.1.1 y.2.1.2 y.2.2.1 y.2.2.2 W' | 24 => v = .slice y10.1 (lst m l).length y10.2 | 25 => ∃ (y : Option Addr × Nat), v = .slice y.1 (lst m l).length y.2 ∧ IntsAt y (lst m l) W' | 26 => v = .agg #[.int .i64 lo, .int .i64 hi] | 27 => v = .int .i64 (j : Int) | 28 => v = .int .i64 ((j : Int) - 1) | 29 => v = .bool false | 30 => v = .bool false | 31 => v = .bool false | 32 => v = .bool ob | 33 => v = .int .i64 (j : Int) | 34 => v = .bool ob | 35 => v = .bool false | _ => True) (fun A B => Below A.heap.size A B) (fun _ _ => True) (by kernel_rfl) (by kernel_rfl) ?_ (fun h k => h.trans (k.mono h.size)) ⟨rfl, rfl, rfl, Nat.le_refl _, fun _ _ => rfl⟩ trivial (by kernel_rfl) ?_ ?_
  · intro i v W1 W2 hb h
    match i, h with
    | 0, h => exact h
    | 1, h => exact h
    | 2, h => exact h
    | 3, h => exact h
    | 4, h => exact h
    | 5, h => exact h
    | 6, h => exact h
    | 7, h => exact h
    | 8, h => exact h
    | 9, h => exact h
    | 10, h => exact h
    | 11, h => exact h
    | 12, h => exact h
    | 13, h =>
      obtain ⟨y, rfl, h1⟩ := h
      exact ⟨_, rfl, h1.at_ hb⟩
    | 14, h => exact h
    | 15, h =>
      obtain ⟨y, rfl, h1⟩ := h
      exact ⟨_, rfl, h1.at_ hb⟩
    | 16, h => exact h
    | 17, h => exact h
    | 18, h => exact h
    | 19, h => exact h
    | 20, h => exact h
    | 21, h => exact h
    | 22, h => exact h
    | 23, h =>
      obtain ⟨y, rfl, h1⟩ := h
      exact ⟨_, rfl, h1.at_ hb⟩
    | 24, h => exact h
    | 25, h =>
      obtain ⟨y, rfl, h1⟩ := h
      exact ⟨_, rfl, h1.at_ hb⟩
    | 26, h => exact h
    | 27, h => exact h
    | 28, h => exact h
    | 29, h => exact h
    | 30, h => exact h
    | 31, h => exact h
    | 32, h => exact h
    | 33, h => exact h
    | 34, h => exact h
    | 35, h => exact h
    | i + 36, h => trivial
  · refine ⟨?_, ?_, ?_, ?_, ?_, ?_, ?_, ?_, ?_, ?_, ?_, ?_, ?_, ?_, ?_, ?_, ?_, ?_, ?_, ?_, ?_, ?_, ?_, ?_, ?_, ?_, ?_, ?_, ?_, ?_, ?_, ?_, ?_, ?_, ?_, ?_, trivial⟩
    · -- 0
      intro li a1 W2 hA K hK
      have e4 := hA.par 4 (by kernel_rfl)
      obtain ⟨q1, q2, q3, q4⟩ := (HT6.out.keep hA.st).c4
      refine opStep none 0 rfl rfl (fun c hc => by cases hc) ?_
      go_simp
      exact hK _ _ rfl (Below.refl _ _) trivial
    · -- 1
      intro li a1 W2 hA K hK
      have e10 := hA.par 10 (by kernel_rfl)
      refine opStep none 0 rfl rfl (fun c hc => by cases hc) ?_
      go_simp
      exact hK _ _ rfl (Below.refl _ _) trivial
    · -- 2
      intro li a1 W2 hA K hK
      have e72 : a1.tmps.getD 72 undef = .agg #[.slice A m.old.length c, .int .i64 m.nw, .slice A2 m.ss.length c2, .slice A3 m.js.length c3] := hA.val 0 72 (by kernel_rfl) (by kernel_rfl)
      have e73 : a1.tmps.getD 73 undef = .slice y10.1 (lst m l).length y10.2 := hA.val 1 73 (by kernel_rfl) (by kernel_rfl)
      refine opStep none 0 rfl rfl (fun c hc => by cases hc) ?_
      go_simp
      have KM := hid (qare (HH.out.at_ (HB6.out.trans (hA.st.mono HB6.out.size))).toMIn OK.out (HYB.out.at_ (BB6.out.trans (hA.st.mono BB6.out.size))) (by rw [lst_len]; have := OK.out.s8; omega))
      rw [HRB.out.2.2.1] at KM
      refine KM.out.mono ?_
      rintro e W3 ⟨rfl, hb3⟩
      exact hK _ _ rfl hb3 trivial
    · -- 3
      intro li a1 W2 hA K hK
      have e74 : a1.tmps.getD 74 undef = .bool true := hA.val 2 74 (by kernel_rfl) (by kernel_rfl)
      refine opStep none 0 rfl rfl (fun c hc => by cases hc) ?_
      go_simp
      exact hK _ _ rfl (Below.refl _ _) trivial
    · -- 4
      intro li a1 W2 hA K hK
      have e75 : a1.tmps.getD 75 undef = .bool false := hA.val 3 75 (by kernel_rfl) (by kernel_rfl)
      refine opStep none 0 rfl rfl (fun c hc => by cases hc) ?_
      go_simp
      exact hK _ _ rfl (Below.refl _ _) trivial
    · -- 5
      intro li a1 W2 hA K hK
      have eg76 : a1.tmps.getD 76 undef = .bool false := hA.val 4 76 (by kernel_rfl) (by kernel_rfl)
      have e11 := hA.par 11 (by kernel_rfl)
      refine opStep none 0 rfl (wanted_yes (j := 4) (d := 76) (b := false) rfl (by kernel_rfl) eg76) (fun c hc => by cases hc) ?_
      go_simp
      exact hK _ _ rfl (Below.refl _ _) trivial
    · -- 6
      intro li a1 W2 hA K hK
      have eg76 : a1.tmps.getD 76 undef = .bool false := hA.val 4 76 (by kernel_rfl) (by kernel_rfl)
      have e4 := hA.par 4 (by kernel_rfl)
      obtain ⟨q1, q2, q3, q4⟩ := (HT6.out.keep hA.st).c4
      refine opStep none 0 rfl (wanted_yes (j := 4) (d := 76) (b := false) rfl (by kernel_rfl) eg76) (fun c hc => by cases hc) ?_
      go_simp
      exact hK _ _ rfl (Below.refl _ _) trivial
    · -- 7
      intro li a1 W2 hA K hK
      have eg76 : a1.tmps.getD 76 undef = .bool false := hA.val 4 76 (by kernel_rfl) (by kernel_rfl)
      have e10 := hA.par 10 (by kernel_rfl)
      refine opStep none 0 rfl (wanted_yes (j := 4) (d := 76) (b := false) rfl (by kernel_rfl) eg76) (fun c hc => by cases hc) ?_
      go_simp
      exact hK _ _ rfl (Below.refl _ _) trivial
    · -- 8
      intro li a1 W2 hA K hK
      have eg76 : a1.tmps.getD 76 undef = .bool false := hA.val 4 76 (by kernel_rfl) (by kernel_rfl)
      have e78 : a1.tmps.getD 78 undef = .agg #[.slice A m.old.length c, .int .i64 m.nw, .slice A2 m.ss.length c2, .slice A3 m.js.length c3] := hA.val 6 78 (by kernel_rfl) (by kernel_rfl)
      have e79 : a1.tmps.getD 79 undef = .slice y10.1 (lst m l).length y10.2 := hA.val 7 79 (by kernel_rfl) (by kernel_rfl)
      refine opStep none 0 rfl (wanted_yes (j := 4) (d := 76) (b := false) rfl (by kernel_rfl) eg76) (fun c hc => by cases hc) ?_
      go_simp
      have KM := hid (qmov (HH.out.at_ (HB6.out.trans (hA.st.mono HB6.out.size))).toMIn OK.out (HYB.out.at_ (BB6.out.trans (hA.st.mono BB6.out.size))) (lst_len m l))
      rw [HMJ.out] at KM
      refine KM.out.mono ?_
      rintro e W3 ⟨rfl, hb3⟩
      exact hK _ _ rfl hb3 trivial
    · -- 9
      intro li a1 W2 hA K hK
      have eg76 : a1.tmps.getD 76 undef = .bool false := hA.val 4 76 (by kernel_rfl) (by kernel_rfl)
      have e77 : a1.tmps.getD 77 undef = .int .i64 (j : Int) := hA.val 5 77 (by kernel_rfl) (by kernel_rfl)
      have e80 : a1.tmps.getD 80 undef = .int .i64 (j : Int) := hA.val 8 80 (by kernel_rfl) (by kernel_rfl)
      refine opStep none 0 rfl (wanted_yes (j := 4) (d := 76) (b := false) rfl (by kernel_rfl) eg76) (fun c hc => by cases hc) ?_
      go_simp
      exact hK _ _ (by first | rfl | simp) (Below.refl _ _) trivial
    · -- 10
      intro li a1 W2 hA K hK
      have e76 : a1.tmps.getD 76 undef = .bool false := hA.val 4 76 (by kernel_rfl) (by kernel_rfl)
      have e81 : a1.tmps.getD 81 undef = .bool false := hA.val 9 81 (by kernel_rfl) (by kernel_rfl)
      refine opStep none 0 rfl rfl (fun c hc => by cases hc) ?_
      go_simp
      exact hK _ _ rfl (Below.refl _ _) trivial
    · -- 11
      intro li a1 W2 hA K hK
      have e82 : a1.tmps.getD 82 undef = .bool false := hA.val 10 82 (by kernel_rfl) (by kernel_rfl)
      refine opStep none 0 rfl rfl (fun c hc => by cases hc) ?_
      go_simp
      exact hK _ _ rfl (Below.refl _ _) trivial
    · -- 12
      intro li a1 W2 hA K hK
      have eg83 : a1.tmps.getD 83 undef = .bool false := hA.val 11 83 (by kernel_rfl) (by kernel_rfl)
      have e4 := hA.par 4 (by kernel_rfl)
      obtain ⟨q1, q2, q3, q4⟩ := (HT6.out.keep hA.st).c4
      refine opStep none 0 rfl (wanted_yes (j := 11) (d := 83) (b := false) rfl (by kernel_rfl) eg83) (fun c hc => by cases hc) ?_
      go_simp
      exact hK _ _ rfl (Below.refl _ _) trivial
    · -- 13
      intro li a1 W2 hA K hK
      have eg83 : a1.tmps.getD 83 undef = .bool false := hA.val 11 83 (by kernel_rfl) (by kernel_rfl)
      have e84 : a1.tmps.getD 84 undef = .agg #[.slice A m.old.length c, .int .i64 m.nw, .slice A2 m.ss.length c2, .slice A3 m.js.length c3] := hA.val 12 84 (by kernel_rfl) (by kernel_rfl)
      refine opStep none 0 rfl (wanted_yes (j := 11) (d := 83) (b := false) rfl (by kernel_rfl) eg83) (fun c hc => by cases hc) ?_
      go_simp
      refine (map_thin (HH.out.at_ (HB6.out.trans (hA.st.mono HB6.out.size))) HTH.out).mono ?_
      rintro e W3 ⟨P, Q, R, rfl, hy, hb3⟩
      exact hK _ _ ⟨(P, Q, R), rfl, hy⟩ hb3 trivial
    · -- 14
      intro li a1 W2 hA K hK
      have eg83 : a1.tmps.getD 83 undef = .bool false := hA.val 11 83 (by kernel_rfl) (by kernel_rfl)
      have e10 := hA.par 10 (by kernel_rfl)
      refine opStep none 0 rfl (wanted_yes (j := 11) (d := 83) (b := false) rfl (by kernel_rfl) eg83) (fun c hc => by cases hc) ?_
      go_simp
      exact hK _ _ rfl (Below.refl _ _) trivial
    · -- 15
      intro li a1 W2 hA K hK
      have eg83 : a1.tmps.getD 83 undef = .bool false := hA.val 11 83 (by kernel_rfl) (by kernel_rfl)
      have e86 : a1.tmps.getD 86 undef = .slice y10.1 (lst m l).length y10.2 := hA.val 14 86 (by kernel_rfl) (by kernel_rfl)
      refine opStep none 0 rfl (wanted_yes (j := 11) (d := 83) (b := false) rfl (by kernel_rfl) eg83) (fun c hc => by cases hc) ?_
      go_simp
      refine (lst_i (HYB.out.at_ (BB6.out.trans (hA.st.mono BB6.out.size))) (lst_some (HYB.out.at_ (BB6.out.trans (hA.st.mono BB6.out.size))) OK.out.s1) (by rw [lst_len]; have := OK.out.s8; omega)).mono ?_
      rintro e W3 ⟨y, rfl, hy, hb3⟩
      exact hK _ _ ⟨y, rfl, hy⟩ hb3 trivial
    · -- 16
      intro li a1 W2 hA K hK
      have eg83 : a1.tmps.getD 83 undef = .bool false := hA.val 11 83 (by kernel_rfl) (by kernel_rfl)
      have e9 := hA.par 9 (by kernel_rfl)
      obtain ⟨q1, q2⟩ := (LB6.out.keep hA.st).c2
      refine opStep none 0 rfl (wanted_yes (j := 11) (d := 83) (b := false) rfl (by kernel_rfl) eg83) (fun c hc => by cases hc) ?_
      go_simp
      exact hK _ _ rfl (Below.refl _ _) trivial
    · -- 17
      intro li a1 W2 hA K hK
      have eg83 : a1.tmps.getD 83 undef = .bool false := hA.val 11 83 (by kernel_rfl) (by kernel_rfl)
      have e11 := hA.par 11 (by kernel_rfl)
      refine opStep none 0 rfl (wanted_yes (j := 11) (d := 83) (b := false) rfl (by kernel_rfl) eg83) (fun c hc => by cases hc) ?_
      go_simp
      exact hK _ _ rfl (Below.refl _ _) trivial
    · -- 18
      intro li a1 W2 hA K hK
      have eg83 : a1.tmps.getD 83 undef = .bool false := hA.val 11 83 (by kernel_rfl) (by kernel_rfl)
      obtain ⟨y85, e85, h85⟩ := hA.val 13 85 (by kernel_rfl) (by kernel_rfl)
      obtain ⟨y87, e87, h87⟩ := hA.val 15 87 (by kernel_rfl) (by kernel_rfl)
      have e88 : a1.tmps.getD 88 undef = .agg #[.int .i64 lo, .int .i64 hi] := hA.val 16 88 (by kernel_rfl) (by kernel_rfl)
      have e89 : a1.tmps.getD 89 undef = .int .i64 (j : Int) := hA.val 17 89 (by kernel_rfl) (by kernel_rfl)
      refine opStep none 0 rfl (wanted_yes (j := 11) (d := 83) (b := false) rfl (by kernel_rfl) eg83) (fun c hc => by cases hc) ?_
      go_simp
      have KM := hid (pb_is (mv := (j : Int)) h85 h87 HE0.out)
      rw [HRB.out.1] at KM
      refine KM.out.mono ?_
      rintro e W3 ⟨rfl, hb3⟩
      exact hK _ _ rfl hb3 trivial
    · -- 19
      intro li a1 W2 hA K hK
      have eg83 : a1.tmps.getD 83 undef = .bool false := hA.val 11 83 (by kernel_rfl) (by kernel_rfl)
      have e90 : a1.tmps.getD 90 undef = .bool true := hA.val 18 90 (by kernel_rfl) (by kernel_rfl)
      refine opStep none 0 rfl (wanted_yes (j := 11) (d := 83) (b := false) rfl (by kernel_rfl) eg83) (fun c hc => by cases hc) ?_
      go_simp
      exact hK _ _ rfl (Below.refl _ _) trivial
    · -- 20
      intro li a1 W2 hA K hK
      have e83 : a1.tmps.getD 83 undef = .bool false := hA.val 11 83 (by kernel_rfl) (by kernel_rfl)
      have e91 : a1.tmps.getD 91 undef = .bool false := hA.val 19 91 (by kernel_rfl) (by kernel_rfl)
      refine opStep none 0 rfl rfl (fun c hc => by cases hc) ?_
      go_simp
      exact hK _ _ rfl (Below.refl _ _) trivial
    · -- 21
      intro li a1 W2 hA K hK
      have e92 : a1.tmps.getD 92 undef = .bool false := hA.val 20 92 (by kernel_rfl) (by kernel_rfl)
      refine opStep none 0 rfl rfl (fun c hc => by cases hc) ?_
      go_simp
      exact hK _ _ rfl (Below.refl _ _) trivial
    · -- 22
      intro li a1 W2 hA K hK
      have eg93 : a1.tmps.getD 93 undef = .bool false := hA.val 21 93 (by kernel_rfl) (by kernel_rfl)
      have e4 := hA.par 4 (by kernel_rfl)
      obtain ⟨q1, q2, q3, q4⟩ := (HT6.out.keep hA.st).c4
      refine opStep none 0 rfl (wanted_yes (j := 21) (d := 93) (b := false) rfl (by kernel_rfl) eg93) (fun c hc => by cases hc) ?_
      go_simp
      exact hK _ _ rfl (Below.refl _ _) trivial
    · -- 23
      intro li a1 W2 hA K hK
      have eg93 : a1.tmps.getD 93 undef = .bool false := hA.val 21 93 (by kernel_rfl) (by kernel_rfl)
      have e94 : a1.tmps.getD 94 undef = .agg #[.slice A m.old.length c, .int .i64 m.nw, .slice A2 m.ss.length c2, .slice A3 m.js.length c3] := hA.val 22 94 (by kernel_rfl) (by kernel_rfl)
      refine opStep none 0 rfl (wanted_yes (j := 21) (d := 93) (b := false) rfl (by kernel_rfl) eg93) (fun c hc => by cases hc) ?_
      go_simp
      refine (map_thin (HH.out.at_ (HB6.out.trans (hA.st.mono HB6.out.size))) HTH.out).mono ?_
      rintro e W3 ⟨P, Q, R, rfl, hy, hb3⟩
      exact hK _ _ ⟨(P, Q, R), rfl, hy⟩ hb3 trivial
    · -- 24
      intro li a1 W2 hA K hK
      have eg93 : a1.tmps.getD 93 undef = .bool false := hA.val 21 93 (by kernel_rfl) (by kernel_rfl)
      have e10 := hA.par 10 (by kernel_rfl)
      refine opStep none 0 rfl (wanted_yes (j := 21) (d := 93) (b := false) rfl (by kernel_rfl) eg93) (fun c hc => by cases hc) ?_
      go_simp
      exact hK _ _ rfl (Below.refl _ _) trivial
    · -- 25
      intro li a1 W2 hA K hK
      have eg93 : a1.tmps.getD 93 undef = .bool false := hA.val 21 93 (by kernel_rfl) (by kernel_rfl)
      have e96 : a1.tmps.getD 96 undef = .slice y10.1 (lst m l).length y10.2 := hA.val 24 96 (by kernel_rfl) (by kernel_rfl)
      refine opStep none 0 rfl (wanted_yes (j := 21) (d := 93) (b := false) rfl (by kernel_rfl) eg93) (fun c hc => by cases hc) ?_
      go_simp
      refine (lst_i (HYB.out.at_ (BB6.out.trans (hA.st.mono BB6.out.size))) (lst_some (HYB.out.at_ (BB6.out.trans (hA.st.mono BB6.out.size))) OK.out.s1) (by rw [lst_len]; have := OK.out.s8; omega)).mono ?_
      rintro e W3 ⟨y, rfl, hy, hb3⟩
      exact hK _ _ ⟨y, rfl, hy⟩ hb3 trivial
    · -- 26
      intro li a1 W2 hA K hK
      have eg93 : a1.tmps.getD 93 undef = .bool false := hA.val 21 93 (by kernel_rfl) (by kernel_rfl)
      have e9 := hA.par 9 (by kernel_rfl)
      obtain ⟨q1, q2⟩ := (LB6.out.keep hA.st).c2
      refine opStep none 0 rfl (wanted_yes (j := 21) (d := 93) (b := false) rfl (by kernel_rfl) eg93) (fun c hc => by cases hc) ?_
      go_simp
      exact hK _ _ rfl (Below.refl _ _) trivial
    · -- 27
      intro li a1 W2 hA K hK
      have eg93 : a1.tmps.getD 93 undef = .bool false := hA.val 21 93 (by kernel_rfl) (by kernel_rfl)
      have e11 := hA.par 11 (by kernel_rfl)
      refine opStep none 0 rfl (wanted_yes (j := 21) (d := 93) (b := false) rfl (by kernel_rfl) eg93) (fun c hc => by cases hc) ?_
      go_simp
      exact hK _ _ rfl (Below.refl _ _) trivial
    · -- 28
      intro li a1 W2 hA K hK
      have eg93 : a1.tmps.getD 93 undef = .bool false := hA.val 21 93 (by kernel_rfl) (by kernel_rfl)
      have e99 : a1.tmps.getD 99 undef = .int .i64 (j : Int) := hA.val 27 99 (by kernel_rfl) (by kernel_rfl)
      refine opStep none 0 rfl (wanted_yes (j := 21) (d := 93) (b := false) rfl (by kernel_rfl) eg93) (fun c hc => by cases hc) ?_
      go_simp
      exact hK _ _ (by first | rfl | exact congrArg (Value.int .i64) HWJ.out) (Below.refl _ _) trivial
    · -- 29
      intro li a1 W2 hA K hK
      have eg93 : a1.tmps.getD 93 undef = .bool false := hA.val 21 93 (by kernel_rfl) (by kernel_rfl)
      obtain ⟨y95, e95, h95⟩ := hA.val 23 95 (by kernel_rfl) (by kernel_rfl)
      obtain ⟨y97, e97, h97⟩ := hA.val 25 97 (by kernel_rfl) (by kernel_rfl)
      have e98 : a1.tmps.getD 98 undef = .agg #[.int .i64 lo, .int .i64 hi] := hA.val 26 98 (by kernel_rfl) (by kernel_rfl)
      have e100 : a1.tmps.getD 100 undef = .int .i64 ((j : Int) - 1) := hA.val 28 100 (by kernel_rfl) (by kernel_rfl)
      refine opStep none 0 rfl (wanted_yes (j := 21) (d := 93) (b := false) rfl (by kernel_rfl) eg93) (fun c hc => by cases hc) ?_
      go_simp
      have KM := hid (pb_is (mv := (j : Int) - 1) h95 h97 HE0.out)
      rw [HRB.out.2.1] at KM
      refine KM.out.mono ?_
      rintro e W3 ⟨rfl, hb3⟩
      exact hK _ _ rfl hb3 trivial
    · -- 30
      intro li a1 W2 hA K hK
      have e93 : a1.tmps.getD 93 undef = .bool false := hA.val 21 93 (by kernel_rfl) (by kernel_rfl)
      have e101 : a1.tmps.getD 101 undef = .bool false := hA.val 29 101 (by kernel_rfl) (by kernel_rfl)
      refine opStep none 0 rfl rfl (fun c hc => by cases hc) ?_
      go_simp
      exact hK _ _ rfl (Below.refl _ _) trivial
    · -- 31
      intro li a1 W2 hA K hK
      have e102 : a1.tmps.getD 102 undef = .bool false := hA.val 30 102 (by kernel_rfl) (by kernel_rfl)
      refine opStep none 0 rfl rfl (fun c hc => by cases hc) ?_
      go_simp
      exact hK _ _ rfl (Below.refl _ _) trivial
    · -- 32
      intro li a1 W2 hA K hK
      have eg103 : a1.tmps.getD 103 undef = .bool false := hA.val 31 103 (by kernel_rfl) (by kernel_rfl)
      have e14 := hA.par 14 (by kernel_rfl)
      refine opStep none 0 rfl (wanted_yes (j := 31) (d := 103) (b := false) rfl (by kernel_rfl) eg103) (fun c hc => by cases hc) ?_
      go_simp
      exact hK _ _ rfl (Below.refl _ _) trivial
    · -- 33
      intro li a1 W2 hA K hK
      have eg103 : a1.tmps.getD 103 undef = .bool false := hA.val 31 103 (by kernel_rfl) (by kernel_rfl)
      have e11 := hA.par 11 (by kernel_rfl)
      refine opStep none 0 rfl (wanted_yes (j := 31) (d := 103) (b := false) rfl (by kernel_rfl) eg103) (fun c hc => by cases hc) ?_
      go_simp
      exact hK _ _ rfl (Below.refl _ _) trivial
    · -- 34
      intro li a1 W2 hA K hK
      have eg103 : a1.tmps.getD 103 undef = .bool false := hA.val 31 103 (by kernel_rfl) (by kernel_rfl)
      have e105 : a1.tmps.getD 105 undef = .int .i64 (j : Int) := hA.val 33 105 (by kernel_rfl) (by kernel_rfl)
      refine opStep none 0 rfl (wanted_yes (j := 31) (d := 103) (b := false) rfl (by kernel_rfl) eg103) (fun c hc => by cases hc) ?_
      go_simp
      exact hK _ _ (by first | rfl | exact congrArg Value.bool HJ0.out) (Below.refl _ _) trivial
    · -- 35
      intro li a1 W2 hA K hK
      have eg103 : a1.tmps.getD 103 undef = .bool false := hA.val 31 103 (by kernel_rfl) (by kernel_rfl)
      have e104 : a1.tmps.getD 104 undef = .bool ob := hA.val 32 104 (by kernel_rfl) (by kernel_rfl)
      have e106 : a1.tmps.getD 106 undef = .bool ob := hA.val 34 106 (by kernel_rfl) (by kernel_rfl)
      refine opStep none 0 rfl (wanted_yes (j := 31) (d := 103) (b := false) rfl (by kernel_rfl) eg103) (fun c hc => by cases hc) ?_
      go_simp
      exact hK _ _ (by first | rfl | simp) (Below.refl _ _) trivial
  intro li a1 W2 hD
  have e103 : a1.tmps.getD 103 undef = .bool false := hD.val 31 103 (by kernel_rfl) (by kernel_rfl)
  have e107 : a1.tmps.getD 107 undef = .bool false := hD.val 35 107 (by kernel_rfl) (by kernel_rfl)
  have hkp2 := hD.keeps (ds := [72, 73, 74, 75, 76, 77, 78, 79, 80, 81, 82, 83, 84, 85, 86, 87, 88, 89, 90, 91, 92, 93, 94, 95, 96, 97, 98, 99, 100, 101, 102, 103, 104, 105, 106, 107, 108]) (by kernel_rfl)
  have hds := hD.size
  have hsz9 : a1.tmps.size = 143 := hD.size
  have hdd := hD.defers
  have hst := hD.st
  refine tail_val (i := 36) (v := .bool false) (W' := W2) none 0 rfl rfl rfl (fun c hc => by cases hc) (by go_simp) (by rw [hsz9]; decide) ?_
  intro a3 s3 d3 f3 o3
  have hkp3 := keeps_then hkp2 o3 (by decide)
  have e := act_mix [72, 73, 74, 75, 76, 77, 78, 79, 80, 81, 82, 83, 84, 85, 86, 87, 88, 89, 90, 91, 92, 93, 94, 95, 96, 97, 98, 99, 100, 101, 102, 103, 104, 105, 106, 107, 108] (s3.trans (hds)) (d3.trans (hdd)) (fun i _ hc => hkp3 i hc)
  have hgg0 : (fun i => a3.tmps.getD i undef) 108 = .bool false := f3
  generalize (fun i => a3.tmps.getD i undef) = g' at e hgg0
  refine wpListIn_nil ?_
  rw [e]
  clear e hD hkp2 hkp3 hds hdd hsz9 s3 d3 f3 o3 e103 e107
  simp only [mix, List.contains_cons, List.contains_nil, Nat.reduceAdd, Nat.reduceBEq, Bool.or_false, Bool.or_true, cond_true, cond_false, hgg0]
  clear hgg0
  have hb := hst
  clear hst
  have HB7 := hid (HB6.out.trans (hb.mono HB6.out.size))
  have HT7 := hid (HT6.out.keep hb)
  have BB7 := hid (BB6.out.trans (hb.mono BB6.out.size))
  have LB7 := hid (LB6.out.keep hb)
  clear hb
  generalize W2 = w7 at *
  obtain ⟨t0, t1, t2, t3⟩ := HT7.out.c4
  obtain ⟨l0, l1⟩ := LB7.out.c2
  rw [HN.out] at t1
  go_wp2
  clear t0 t1 t2 t3 l0 l1
  go_loopw [15] (fun i W => ∃ d : Nat, d ≤ N ∧ i = .int .i64 d ∧ Below w7.heap.size w7 W) (fun i _ => N - (intOf i).toNat)
  case atStart => exact ⟨0, Nat.zero_le _, rfl, Below.refl _ _⟩
  case round =>
    obtain ⟨d, hd, rfl, hbr⟩ := hrel
    have HR := hid hbr
    have HTR := hid (HT7.out.keep hbr)
    have HBR := hid (HB7.out.trans (hbr.mono HB7.out.size))
    have HYR := hid (HYB.out.at_ (BB7.out.trans (hbr.mono BB7.out.size)))
    obtain ⟨t0, t1, t2, t3⟩ := HTR.out.c4
    rw [HN.out] at t1
    clear hbr
    by_cases hlt : d < N
    · have hdI : (d : Int) < (N : Int) := by omega
      have K1 := hid (qconn_any m (d : Int) A c A2 c2 A3 c3 y10.1 y10.2 (lst m l) wr (HH.out.at_ HBR.out).toMIn HYR.out.1 (lst_len m l) OK.out.s8)
      rw [HCN.out d (by rw [HN.out]; omega), HN.out] at K1
      go_wp2_with fail
      refine K1.out.mono ?_
      rintro e w9 ⟨rfl, hb⟩
      have HNX := hid (HR.out.trans (hb.mono HR.out.size))
      clear hb K1 t0 t1 t2 t3 HR HTR HBR HYR
      go_wp2
      go_roundw
      case rel => exact ⟨d + 1, by omega, by go_num, HNX.out⟩
      case measure => first | (simp [intOf]; done) | (simp [intOf]; omega)
    · have hdI : decide ((d : Int) < (N : Int)) = false := by simp; omega
      cases b with
      | false =>
        have K61 := hid (awake_any wr)
        go_wp2_with fail
        refine K61.out.mono ?_
        rintro e w61 ⟨rfl, hb⟩
        have HB61 := hid (HBR.out.trans (hb.mono HBR.out.size))
        have HT61 := hid (HTR.out.keep hb)
        clear hb K61 t0 t1 t2 t3
        obtain ⟨t0, t1, t2, t3⟩ := HT61.out.c4
        clear t0 t1 t2 t3
        go_wp2
        go_ret
        exact ⟨rfl, HB61.out⟩
      | true =>
        obtain ⟨hlen, hcs⟩ := HCS.out rfl
        have HLS := hid hlen
        obtain ⟨mN, hmN⟩ : ∃ z, movN m (fnO xs) xs.length = z := ⟨_, rfl⟩
        rw [hmN] at hcs
        have HMN := hid hmN
        clear hlen hmN
        rcases hcs with hcs | hcs
        ·
          have hgB : decide ((j : Int) < mN) = true := decide_eq_true hcs
          clear hcs
          have K61 := hid (qmov (HH.out.at_ HBR.out).toMIn OK.out (HX.out.at_ HBR.out) HLS.out)
          rw [HMN.out, HN.out] at K61
          go_wp2_with fail
          refine K61.out.mono ?_
          rintro e w61 ⟨rfl, hb⟩
          have HB61 := hid (HBR.out.trans (hb.mono HBR.out.size))
          have HT61 := hid (HTR.out.keep hb)
          clear hb K61 t0 t1 t2 t3
          obtain ⟨t0, t1, t2, t3⟩ := HT61.out.c4
          have K62 := hid (awake_any w61)
          go_wp2_with fail
          refine K62.out.mono ?_
          rintro e w62 ⟨rfl, hb⟩
          have HB62 := hid (HB61.out.trans (hb.mono HB61.out.size))
          have HT62 := hid (HT61.out.keep hb)
          clear hb K62 t0 t1 t2 t3
          obtain ⟨t0, t1, t2, t3⟩ := HT62.out.c4
          clear t0 t1 t2 t3
          go_wp2
          go_ret
          exact ⟨rfl, HB62.out⟩
        ·
          have hgB : decide ((j : Int) < mN) = false := by simp; omega
          have heB : (mN == (j : Int)) = true := by simp [hcs.1]
          have HBF := hid hcs.2
          clear hcs
          have K61 := hid (qmov (HH.out.at_ HBR.out).toMIn OK.out (HX.out.at_ HBR.out) HLS.out)
          rw [HMN.out, HN.out] at K61
          go_wp2_with fail
          refine K61.out.mono ?_
          rintro e w61 ⟨rfl, hb⟩
          have HB61 := hid (HBR.out.trans (hb.mono HBR.out.size))
          have HT61 := hid (HTR.out.keep hb)
          have HYR := hid (HYR.out.at_ hb)
          clear hb K61 t0 t1 t2 t3
          obtain ⟨t0, t1, t2, t3⟩ := HT61.out.c4
          have K62 := hid (qbefore_any Ax cx xs y10.1 y10.2 (lst m l) w61 (HX.out.at_ HB61.out).1 HYR.out.1 (by have := HLX.out; omega) (by rw [lst_len]; have := OK.out.s8; omega))
          rw [HBF.out] at K62
          go_wp2_with fail
          refine K62.out.mono ?_
          rintro e w62 ⟨rfl, hb⟩
          have HB62 := hid (HB61.out.trans (hb.mono HB61.out.size))
          have HT62 := hid (HT61.out.keep hb)
          clear hb K62 t0 t1 t2 t3
          obtain ⟨t0, t1, t2, t3⟩ := HT62.out.c4
          have K63 := hid (awake_any w62)
          go_wp2_with fail
          refine K63.out.mono ?_
          rintro e w63 ⟨rfl, hb⟩
          have HB63 := hid (HB62.out.trans (hb.mono HB62.out.size))
          have HT63 := hid (HT62.out.keep hb)
          clear hb K63 t0 t1 t2 t3
          obtain ⟨t0, t1, t2, t3⟩ := HT63.out.c4
          clear t0 t1 t2 t3
          go_wp2
          go_ret
          exact ⟨rfl, HB63.out⟩

theorem right_any9 (m : MapD) (A : Option Addr) (c : Nat) (A2 : Option Addr) (c2 : Nat) (A3 : Option Addr) (c3 : Nat) (Ax : Option Addr) (cx : Nat) (xs : List Int) (p q : Int) (w : World) (h : MArg m A c A2 c2 A3 c3 w) (hx : IntsAt (Ax, cx) xs w) (hx0 : Ax = none → cx = 0) (hp0 : 0 ≤ p) (hp1 : p ≤ 65535) (hq0 : 0 ≤ q) (hq1 : q ≤ 65535) :
    Calls Try.prog 11 #[.agg #[.slice A m.old.length c, .int .i64 m.nw, .slice A2 m.ss.length c2, .slice A3 m.js.length c3], .slice Ax xs.length cx, .int .u16 p, .int .u16 q] w fun e w' => e = .returned (.bool true) ∧ Below w.heap.size w w' := by
  cases hr : readyM m
  · exact rgt_not m A c A2 c2 A3 c3 Ax cx xs p q w h hx hx0 hr
  · by_cases hl : 12 < xs.length
    · exact rgt_long m A c A2 c2 A3 c3 Ax cx xs p q w h hx hx0 hr hl
    · cases hbb : bestB m (p % 2000) (min 40000 (p % 2000 + q)) with
      | none => exact rgt_none m A c A2 c2 A3 c3 Ax cx xs p q w h hx hx0 hp0 hp1 hq0 hq1 hr hl hbb
      | some z =>
        obtain ⟨j, l⟩ := z
        exact rgt_some m A c A2 c2 A3 c3 Ax cx xs p q w h hx hx0 hp0 hp1 hq0 hq1 hr hl j l hbb _ rfl

open Go.ChangeShapes Go.WideShapes Go.ChangeAt in
set_option maxRecDepth 100000 in
theorem rights_lifted (os : Os) (started : os.Started) (H : Type) (enc : TypeId × Value → H) :
    ReturnsInHanded {} Try.checked os 11 .any (Rows.borderRightSpec.pre6 enc Try.prog Try.f11 Rows.borderRightRow.domain false) (Rows.borderRightSpec.post enc Try.prog Try.f11 false true false false) := by
  refine returnsInHanded_of_change (C := Try.checked) own started (by kernel_rfl) Try.func11
    (ChangeSpec.witness6 (enc := enc) (C := Try.checked) false ⟨#[], #[.agg #[.slice none 0 0, .int .i64 0, .slice none 0 0, .slice none 0 0], .slice none 0 0, .int .u16 0, .int .u16 0], []⟩ 8 (by kernel_rfl) (by kernel_rfl) (by kernel_rfl) (by kernel_rfl)) ?_
  intro W base args ds gs before hval0 hW hcnd _
  have hval : ∀ (j : Nat) t v, Try.f11.params[j]? = some t → args[j]? = some v → Value.okWide Try.prog W .any base t v := hval0
  have hW' := hW
  obtain ⟨p, q, hA0, hV, rfl, hfz, hnd⟩ := hW
  have hA : DataW.TrodAll enc Try.prog W 0 (fun _ => true) true Try.f11.params.toList args.toList ds p := hA0
  rw [Try.params11] at hA hval
  obtain ⟨v0, vs0, d0, ds0, p0, q0, hargs, rfl, rfl, h0, r0⟩ := trodAll_cons hA
  obtain ⟨v1, vs1, d1, ds1, p1, q1, rfl, rfl, rfl, h1, r1⟩ := trodAll_cons r0
  obtain ⟨v2, vs2, d2, ds2, p2, q2, rfl, rfl, rfl, h2, r2⟩ := trodAll_cons r1
  obtain ⟨v3, vs3, d3, ds3, p3, q3, rfl, rfl, rfl, h3, r3⟩ := trodAll_cons r2
  obtain ⟨rfl, rfl, rfl⟩ := trodAll_nil r3
  obtain rfl : args = #[v0, v1, v2, v3] := by cases args; simp_all
  obtain ⟨rfl, rfl⟩ := trodVars_none hV
  obtain ⟨m, A, c, A2, c2, A3, c3, rfl, ht⟩ := open_map (hval 0 26 v0 rfl rfl) h0
  obtain ⟨Ax, cx, xs, rfl, u1, u2, u3, _, u5⟩ := open_nums Try.underlying22 Try.underlying3 (by kernel_rfl) (hval 1 22 v1 rfl rfl) h1
  obtain ⟨p9, rfl, rfl, rfl, wk2⟩ := open_int Try.underlying52 (hval 2 52 v2 rfl rfl) h2
  have hbp9 : 0 ≤ p9 ∧ p9 ≤ 65535 := by
    have h : decide (IntKind.u16.min ≤ p9) = true ∧ decide (p9 ≤ IntKind.u16.max) = true := by simpa [Lit.wf] using wk2
    have h2 := of_decide_eq_true h.1
    have h3 := of_decide_eq_true h.2
    have e1 : IntKind.u16.min = 0 := by decide
    have e2 : IntKind.u16.max = 65535 := by decide
    omega
  obtain ⟨q9, rfl, rfl, rfl, wk3⟩ := open_int Try.underlying52 (hval 3 52 v3 rfl rfl) h3
  have hbq9 : 0 ≤ q9 ∧ q9 ≤ 65535 := by
    have h : decide (IntKind.u16.min ≤ q9) = true ∧ decide (q9 ≤ IntKind.u16.max) = true := by simpa [Lit.wf] using wk3
    have h2 := of_decide_eq_true h.1
    have h3 := of_decide_eq_true h.2
    have e1 : IntKind.u16.min = 0 := by decide
    have e2 : IntKind.u16.max = 65535 := by decide
    omega
  refine (right_any9 m A c A2 c2 A3 c3 Ax cx xs p9 q9 W ht ⟨u5, u1, u2⟩ u3 hbp9.1 hbp9.2 hbq9.1 hbq9.2).mono fun e W' ⟨he, hb⟩ => ⟨_, he, ?_⟩
  exact law_post laid_out rfl rfl (by kernel_rfl) hW' rfl hb

theorem rights_over : Rows.borderRightRow.holds Try.pinned (OpenSpec.ofChange Rows.borderRightSpec) :=
  OpenClaim.holds_of_wide 11 Try.f11 rfl rfl rfl rfl rfl rfl rfl ⟨rfl, rfl, rfl, rfl, rfl⟩ rfl rfl rfl rfl rfl (by kernel_rfl) Try.func11 (by kernel_rfl)
    (of_decide_eq_true (by kernel_rfl)) (by unfold Func.isWrapper; first | (rw [if_pos (by decide +kernel)]; kernel_rfl) | (rw [if_neg (by decide +kernel)]; exact ⟨rfl, rfl⟩))
    (fun os started H enc _ => rights_lifted os started H enc)
/-- the statement -/
theorem border_right : Rows.BorderRightSaid := rights_over
#print axioms border_right
end Go.Proofs.Ytoeabajigfdkaaa
