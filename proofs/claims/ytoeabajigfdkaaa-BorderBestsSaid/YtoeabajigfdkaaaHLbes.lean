/- For every map and limits, the best borders, and whether borders are right, are as the reference says: the statement BorderBests. No condition. -/
import Derived.Test.YtoeabajigfdkaaaG3
import Derived.Test.YtoeabajigfdkaaaG20
namespace Go.Proofs.Ytoeabajigfdkaaa
open Go.RowKit Go.Shelf

set_option maxRecDepth 100000 in
set_option maxHeartbeats 4000000 in
theorem bes_not (m : MapD) (A : Option Addr) (c : Nat) (A2 : Option Addr) (c2 : Nat) (A3 : Option Addr) (c3 : Nat) (Ax : Option Addr) (cx : Nat) (xs : List Int) (lo hi mv : Int) (w : World) (h : MArg m A c A2 c2 A3 c3 w) (hx : IntsAt (Ax, cx) xs w) (hx0 : Ax = none → cx = 0) (ht : thinM m = false) :
    Calls Try.prog 10 #[.agg #[.slice A m.old.length c, .int .i64 m.nw, .slice A2 m.ss.length c2, .slice A3 m.js.length c3], .slice Ax xs.length cx, .agg #[.int .i64 lo, .int .i64 hi], .int .i64 mv] w fun e w' => e = .returned (.bool true) ∧ Below w.heap.size w w' := by
  have hB := (below_box (w := w) #[.slice A m.old.length c, .int .i64 m.nw, .slice A2 m.ss.length c2, .slice A3 m.js.length c3] 26).alloc (below_box (w := w) #[.slice A m.old.length c, .int .i64 m.nw, .slice A2 m.ss.length c2, .slice A3 m.js.length c3] 26).size (.cells #[.int .i64 lo, .int .i64 hi] 43)
  have hT := (Blk.new w 26 #[.slice A m.old.length c, .int .i64 m.nw, .slice A2 m.ss.length c2, .slice A3 m.js.length c3]).alloc (.cells #[.int .i64 lo, .int .i64 hi] 43)
  have hL := Blk.new (w.alloc (.cells #[.slice A m.old.length c, .int .i64 m.nw, .slice A2 m.ss.length c2, .slice A3 m.js.length c3] 26)) 43 #[.int .i64 lo, .int .i64 hi]
  rw [World.size_alloc] at hL
  have HB0 := hid hB
  have HT0 := hid hT
  have LB0 := hid hL
  have HH := hid h
  obtain ⟨t0, t1, t2, t3⟩ := hT.c4
  obtain ⟨l0, l1⟩ := hL.c2
  clear h hB hT hL
  have HX := hid hx
  have HX0 := hid hx0
  clear hx hx0
  have HTN := hid ht
  clear ht
  go_enter Try.func10, Try.ntmps10
  have K1 := hid (thin_any m A c A2 c2 A3 c3 ((w.alloc (.cells #[.slice A m.old.length c, .int .i64 m.nw, .slice A2 m.ss.length c2, .slice A3 m.js.length c3] 26)).alloc (.cells #[.int .i64 lo, .int .i64 hi] 43)))
  rw [HTN.out] at K1
  go_wp2_with fail
  refine K1.out.mono ?_
  rintro e w1 ⟨rfl, hb⟩
  have HB1 := hid (HB0.out.trans (hb.mono HB0.out.size))
  have HT1 := hid (HT0.out.keep hb)
  have LB1 := hid (LB0.out.keep hb)
  clear hb K1 t0 t1 t2 t3 l0 l1
  obtain ⟨t0, t1, t2, t3⟩ := HT1.out.c4
  obtain ⟨l0, l1⟩ := LB1.out.c2
  have K2 := hid (awake_any w1)
  go_wp2_with fail
  refine K2.out.mono ?_
  rintro e w2 ⟨rfl, hb⟩
  have HB2 := hid (HB1.out.trans (hb.mono HB1.out.size))
  have HT2 := hid (HT1.out.keep hb)
  have LB2 := hid (LB1.out.keep hb)
  clear hb K2 t0 t1 t2 t3 l0 l1
  obtain ⟨t0, t1, t2, t3⟩ := HT2.out.c4
  obtain ⟨l0, l1⟩ := LB2.out.c2
  clear t0 t1 t2 t3 l0 l1
  go_wp2
  go_ret
  exact ⟨rfl, HB2.out⟩

set_option maxRecDepth 100000 in
set_option maxHeartbeats 4000000 in
theorem bes_long (m : MapD) (A : Option Addr) (c : Nat) (A2 : Option Addr) (c2 : Nat) (A3 : Option Addr) (c3 : Nat) (Ax : Option Addr) (cx : Nat) (xs : List Int) (lo hi mv : Int) (w : World) (h : MArg m A c A2 c2 A3 c3 w) (hx : IntsAt (Ax, cx) xs w) (hx0 : Ax = none → cx = 0) (ht : thinM m = true) (hl : 12 < xs.length) :
    Calls Try.prog 10 #[.agg #[.slice A m.old.length c, .int .i64 m.nw, .slice A2 m.ss.length c2, .slice A3 m.js.length c3], .slice Ax xs.length cx, .agg #[.int .i64 lo, .int .i64 hi], .int .i64 mv] w fun e w' => e = .returned (.bool true) ∧ Below w.heap.size w w' := by
  have hB := (below_box (w := w) #[.slice A m.old.length c, .int .i64 m.nw, .slice A2 m.ss.length c2, .slice A3 m.js.length c3] 26).alloc (below_box (w := w) #[.slice A m.old.length c, .int .i64 m.nw, .slice A2 m.ss.length c2, .slice A3 m.js.length c3] 26).size (.cells #[.int .i64 lo, .int .i64 hi] 43)
  have hT := (Blk.new w 26 #[.slice A m.old.length c, .int .i64 m.nw, .slice A2 m.ss.length c2, .slice A3 m.js.length c3]).alloc (.cells #[.int .i64 lo, .int .i64 hi] 43)
  have hL := Blk.new (w.alloc (.cells #[.slice A m.old.length c, .int .i64 m.nw, .slice A2 m.ss.length c2, .slice A3 m.js.length c3] 26)) 43 #[.int .i64 lo, .int .i64 hi]
  rw [World.size_alloc] at hL
  have HB0 := hid hB
  have HT0 := hid hT
  have LB0 := hid hL
  have HH := hid h
  obtain ⟨t0, t1, t2, t3⟩ := hT.c4
  obtain ⟨l0, l1⟩ := hL.c2
  clear h hB hT hL
  have HX := hid hx
  have HX0 := hid hx0
  clear hx hx0
  have HTN := hid ht
  have hlB : decide ((12 : Int) < (xs.length : Int)) = true := by simp; omega
  clear ht
  go_enter Try.func10, Try.ntmps10
  have K1 := hid (thin_any m A c A2 c2 A3 c3 ((w.alloc (.cells #[.slice A m.old.length c, .int .i64 m.nw, .slice A2 m.ss.length c2, .slice A3 m.js.length c3] 26)).alloc (.cells #[.int .i64 lo, .int .i64 hi] 43)))
  rw [HTN.out] at K1
  go_wp2_with fail
  refine K1.out.mono ?_
  rintro e w1 ⟨rfl, hb⟩
  have HB1 := hid (HB0.out.trans (hb.mono HB0.out.size))
  have HT1 := hid (HT0.out.keep hb)
  have LB1 := hid (LB0.out.keep hb)
  clear hb K1 t0 t1 t2 t3 l0 l1
  obtain ⟨t0, t1, t2, t3⟩ := HT1.out.c4
  obtain ⟨l0, l1⟩ := LB1.out.c2
  have K2 := hid (awake_any w1)
  go_wp2_with fail
  refine K2.out.mono ?_
  rintro e w2 ⟨rfl, hb⟩
  have HB2 := hid (HB1.out.trans (hb.mono HB1.out.size))
  have HT2 := hid (HT1.out.keep hb)
  have LB2 := hid (LB1.out.keep hb)
  clear hb K2 t0 t1 t2 t3 l0 l1
  obtain ⟨t0, t1, t2, t3⟩ := HT2.out.c4
  obtain ⟨l0, l1⟩ := LB2.out.c2
  clear t0 t1 t2 t3 l0 l1
  go_wp2
  go_ret
  exact ⟨rfl, HB2.out⟩

set_option maxRecDepth 100000 in
set_option maxHeartbeats 4000000 in
theorem bes_flt (m : MapD) (A : Option Addr) (c : Nat) (A2 : Option Addr) (c2 : Nat) (A3 : Option Addr) (c3 : Nat) (Ax : Option Addr) (cx : Nat) (xs : List Int) (lo hi mv : Int) (w : World) (h : MArg m A c A2 c2 A3 c3 w) (hx : IntsAt (Ax, cx) xs w) (hx0 : Ax = none → cx = 0) (ht : thinM m = true) (hl : ¬ 12 < xs.length) (z : Int) (hz : z ≠ 0) (hc : chkM m = z) :
    Calls Try.prog 10 #[.agg #[.slice A m.old.length c, .int .i64 m.nw, .slice A2 m.ss.length c2, .slice A3 m.js.length c3], .slice Ax xs.length cx, .agg #[.int .i64 lo, .int .i64 hi], .int .i64 mv] w fun e w' => e = .returned (.bool true) ∧ Below w.heap.size w w' := by
  have hB := (below_box (w := w) #[.slice A m.old.length c, .int .i64 m.nw, .slice A2 m.ss.length c2, .slice A3 m.js.length c3] 26).alloc (below_box (w := w) #[.slice A m.old.length c, .int .i64 m.nw, .slice A2 m.ss.length c2, .slice A3 m.js.length c3] 26).size (.cells #[.int .i64 lo, .int .i64 hi] 43)
  have hT := (Blk.new w 26 #[.slice A m.old.length c, .int .i64 m.nw, .slice A2 m.ss.length c2, .slice A3 m.js.length c3]).alloc (.cells #[.int .i64 lo, .int .i64 hi] 43)
  have hL := Blk.new (w.alloc (.cells #[.slice A m.old.length c, .int .i64 m.nw, .slice A2 m.ss.length c2, .slice A3 m.js.length c3] 26)) 43 #[.int .i64 lo, .int .i64 hi]
  rw [World.size_alloc] at hL
  have HB0 := hid hB
  have HT0 := hid hT
  have LB0 := hid hL
  have HH := hid h
  obtain ⟨t0, t1, t2, t3⟩ := hT.c4
  obtain ⟨l0, l1⟩ := hL.c2
  clear h hB hT hL
  have HX := hid hx
  have HX0 := hid hx0
  clear hx hx0
  have HTN := hid ht
  have HTH := hid (thinM_iff.1 ht)
  have HLX := hid hl
  have hlB : decide ((12 : Int) < (xs.length : Int)) = false := by simp; omega
  have hez : askE m lo hi = z := by unfold askE; rw [if_neg (by rw [hc]; exact hz), hc]
  have HEZ := hid hez
  have HEN := hid (show askE m lo hi ≠ 0 by rw [hez]; exact hz)
  have hze : (z == 0) = false := by simpa using hz
  have hzn : (z != 0) = true := by simpa using hz
  have HC := hid hc
  clear ht hc hez hz
  go_enter Try.func10, Try.ntmps10
  have K1 := hid (thin_any m A c A2 c2 A3 c3 ((w.alloc (.cells #[.slice A m.old.length c, .int .i64 m.nw, .slice A2 m.ss.length c2, .slice A3 m.js.length c3] 26)).alloc (.cells #[.int .i64 lo, .int .i64 hi] 43)))
  rw [HTN.out] at K1
  go_wp2_with fail
  refine K1.out.mono ?_
  rintro e w1 ⟨rfl, hb⟩
  have HB1 := hid (HB0.out.trans (hb.mono HB0.out.size))
  have HT1 := hid (HT0.out.keep hb)
  have LB1 := hid (LB0.out.keep hb)
  clear hb K1 t0 t1 t2 t3 l0 l1
  obtain ⟨t0, t1, t2, t3⟩ := HT1.out.c4
  obtain ⟨l0, l1⟩ := LB1.out.c2
  clear t0 t1 t2 t3 l0 l1
  go_wp2
  refine (wpIn_wide (n := 0)).1 ?_
  refine wpIn_region_each 11 (fun i v W' => match i with | 0 => v = .agg #[.slice A m.old.length c, .int .i64 m.nw, .slice A2 m.ss.length c2, .slice A3 m.js.length c3] | 1 => ∃ (y : (Option Addr × Nat) × (Option Addr × Nat) × (Option Addr × Nat)), v = .agg #[.slice y.1.1 m.old.length y.1.2, .int .i64 m.nw, .slice y.2.1.1 m.ss.length y.2.1.2, .slice y.2.2.1 m.js.length y.2.2.2] ∧ MIn m y.1.1 y.1.2 y.2.1.1 y.2.1.2 y.2.2.1 y.2.2.2 W' | 2 => v = .agg #[.int .i64 lo, .int .i64 hi] | 3 => v = .agg #[.int .i64 lo, .int .i64 hi] | 4 => v = .tuple #[.slice none 0 0, .int .i64 0, .int .i64 z] | 5 => v = .tuple #[.slice none 0 0, .int .i64 0, .int .i64 z] | 6 => v = .slice none 0 0 | 7 => v = .int .i64 0 | 8 => v = .int .i64 z | 9 => v = .slice none 0 0 | 10 => v = .int .i64 0 | _ => True) (fun A B => Below A.heap.size A B) (fun _ _ => True) (by kernel_rfl) (by kernel_rfl) ?_ (fun h k => h.trans (k.mono h.size)) ⟨rfl, rfl, rfl, Nat.le_refl _, fun _ _ => rfl⟩ trivial (by kernel_rfl) ?_ ?_
  · intro i v W1 W2 hb h
    match i, h with
    | 0, h => exact h
    | 1, h =>
      obtain ⟨y, rfl, h1⟩ := h
      exact ⟨_, rfl, h1.at_ hb⟩
    | 2, h => exact h
    | 3, h => exact h
    | 4, h => exact h
    | 5, h => exact h
    | 6, h => exact h
    | 7, h => exact h
    | 8, h => exact h
    | 9, h => exact h
    | 10, h => exact h
    | i + 11, h => trivial
  · refine ⟨?_, ?_, ?_, ?_, ?_, ?_, ?_, ?_, ?_, ?_, ?_, trivial⟩
    · -- 0
      intro li a1 W2 hA K hK
      have e4 := hA.par 4 (by kernel_rfl)
      obtain ⟨q1, q2, q3, q4⟩ := (HT1.out.keep hA.st).c4
      refine opStep none 0 rfl rfl (fun c hc => by cases hc) ?_
      go_simp
      exact hK _ _ rfl (Below.refl _ _) trivial
    · -- 1
      intro li a1 W2 hA K hK
      have e26 : a1.tmps.getD 26 undef = .agg #[.slice A m.old.length c, .int .i64 m.nw, .slice A2 m.ss.length c2, .slice A3 m.js.length c3] := hA.val 0 26 (by kernel_rfl) (by kernel_rfl)
      refine opStep none 0 rfl rfl (fun c hc => by cases hc) ?_
      go_simp
      refine (map_thin (HH.out.at_ (HB1.out.trans (hA.st.mono HB1.out.size))) HTH.out).mono ?_
      rintro e W3 ⟨P, Q, R, rfl, hy, hb3⟩
      exact hK _ _ ⟨(P, Q, R), rfl, hy⟩ hb3 trivial
    · -- 2
      intro li a1 W2 hA K hK
      have e6 := hA.par 6 (by kernel_rfl)
      obtain ⟨q1, q2⟩ := (LB1.out.keep hA.st).c2
      refine opStep none 0 rfl rfl (fun c hc => by cases hc) ?_
      go_simp
      exact hK _ _ rfl (Below.refl _ _) trivial
    · -- 3
      intro li a1 W2 hA K hK
      have e28 : a1.tmps.getD 28 undef = .agg #[.int .i64 lo, .int .i64 hi] := hA.val 2 28 (by kernel_rfl) (by kernel_rfl)
      refine opStep none 0 rfl rfl (fun c hc => by cases hc) ?_
      go_simp
      refine (to_any lo hi W2).mono ?_
      rintro e W3 ⟨rfl, hb3⟩
      exact hK _ _ rfl hb3 trivial
    · -- 4
      intro li a1 W2 hA K hK
      obtain ⟨y27, e27, h27⟩ := hA.val 1 27 (by kernel_rfl) (by kernel_rfl)
      have e29 : a1.tmps.getD 29 undef = .agg #[.int .i64 lo, .int .i64 hi] := hA.val 3 29 (by kernel_rfl) (by kernel_rfl)
      refine opStep none 0 rfl rfl (fun c hc => by cases hc) ?_
      go_simp
      have KM := hid (bbest_bad m y27.1.1 y27.1.2 y27.2.1.1 y27.2.1.2 y27.2.2.1 y27.2.2.2 lo hi W2 h27 HEN.out)
      rw [HEZ.out] at KM
      refine KM.out.mono ?_
      rintro e W3 ⟨rfl, hb3⟩
      exact hK _ _ rfl hb3 trivial
    · -- 5
      intro li a1 W2 hA K hK
      have e30 : a1.tmps.getD 30 undef = .tuple #[.slice none 0 0, .int .i64 0, .int .i64 z] := hA.val 4 30 (by kernel_rfl) (by kernel_rfl)
      refine opStep none 0 rfl rfl (fun c hc => by cases hc) ?_
      go_simp
      exact hK _ _ rfl (Below.refl _ _) trivial
    · -- 6
      intro li a1 W2 hA K hK
      have e25 : a1.tmps.getD 25 undef = .tuple #[.slice none 0 0, .int .i64 0, .int .i64 z] := hA.val 5 25 (by kernel_rfl) (by kernel_rfl)
      refine opStep none 0 rfl rfl (fun c hc => by cases hc) ?_
      go_simp
      exact hK _ _ rfl (Below.refl _ _) trivial
    · -- 7
      intro li a1 W2 hA K hK
      have e25 : a1.tmps.getD 25 undef = .tuple #[.slice none 0 0, .int .i64 0, .int .i64 z] := hA.val 5 25 (by kernel_rfl) (by kernel_rfl)
      refine opStep none 0 rfl rfl (fun c hc => by cases hc) ?_
      go_simp
      exact hK _ _ rfl (Below.refl _ _) trivial
    · -- 8
      intro li a1 W2 hA K hK
      have e25 : a1.tmps.getD 25 undef = .tuple #[.slice none 0 0, .int .i64 0, .int .i64 z] := hA.val 5 25 (by kernel_rfl) (by kernel_rfl)
      refine opStep none 0 rfl rfl (fun c hc => by cases hc) ?_
      go_simp
      exact hK _ _ rfl (Below.refl _ _) trivial
    · -- 9
      intro li a1 W2 hA K hK
      have e31 : a1.tmps.getD 31 undef = .slice none 0 0 := hA.val 6 31 (by kernel_rfl) (by kernel_rfl)
      refine opStep none 0 rfl rfl (fun c hc => by cases hc) ?_
      go_simp
      exact hK _ _ rfl (Below.refl _ _) trivial
    · -- 10
      intro li a1 W2 hA K hK
      have e32 : a1.tmps.getD 32 undef = .int .i64 0 := hA.val 7 32 (by kernel_rfl) (by kernel_rfl)
      refine opStep none 0 rfl rfl (fun c hc => by cases hc) ?_
      go_simp
      exact hK _ _ rfl (Below.refl _ _) trivial
  intro li a1 W2 hD
  have e9 : a1.tmps.getD 9 undef = .slice none 0 0 := hD.val 9 9 (by kernel_rfl) (by kernel_rfl)
  have e10 : a1.tmps.getD 10 undef = .int .i64 0 := hD.val 10 10 (by kernel_rfl) (by kernel_rfl)
  have e33 : a1.tmps.getD 33 undef = .int .i64 z := hD.val 8 33 (by kernel_rfl) (by kernel_rfl)
  have hkp2 := hD.keeps (ds := [26, 27, 28, 29, 30, 25, 31, 32, 33, 9, 10, 11]) (by kernel_rfl)
  have hds := hD.size
  have hsz9 : a1.tmps.size = 141 := hD.size
  have hdd := hD.defers
  have hst := hD.st
  refine tail_val (i := 11) (v := .int .i64 z) (W' := W2) none 0 rfl rfl rfl (fun c hc => by cases hc) (by go_simp) (by rw [hsz9]; decide) ?_
  intro a3 s3 d3 f3 o3
  have hkp3 := keeps_then hkp2 o3 (by decide)
  have e := act_mix [26, 27, 28, 29, 30, 25, 31, 32, 33, 9, 10, 11] (s3.trans (hds)) (d3.trans (hdd)) (fun i _ hc => hkp3 i hc)
  have hgg0 : (fun i => a3.tmps.getD i undef) 11 = .int .i64 z := f3
  have hgk9 : (fun i => a3.tmps.getD i undef) 9 = .slice none 0 0 := (o3 9 (by decide)).trans (e9)
  have hgk10 : (fun i => a3.tmps.getD i undef) 10 = .int .i64 0 := (o3 10 (by decide)).trans (e10)
  generalize (fun i => a3.tmps.getD i undef) = g' at e hgg0 hgk9 hgk10
  refine wpListIn_nil ?_
  rw [e]
  clear e hD hkp2 hkp3 hds hdd hsz9 s3 d3 f3 o3 e33 e9 e10
  simp only [mix, List.contains_cons, List.contains_nil, Nat.reduceAdd, Nat.reduceBEq, Bool.or_false, Bool.or_true, cond_true, cond_false, hgg0, hgk9, hgk10]
  clear hgg0 hgk9 hgk10
  have hb := hst
  clear hst
  have HB2 := hid (HB1.out.trans (hb.mono HB1.out.size))
  have HT2 := hid (HT1.out.keep hb)
  have LB2 := hid (LB1.out.keep hb)
  clear hb
  generalize W2 = w2 at *
  obtain ⟨t0, t1, t2, t3⟩ := HT2.out.c4
  obtain ⟨l0, l1⟩ := LB2.out.c2
  clear t0 t1 t2 t3 l0 l1
  go_wp2
  refine (wpIn_wide (n := 0)).1 ?_
  refine wpIn_region_each 8 (fun i v W' => match i with | 0 => v = .agg #[.slice A m.old.length c, .int .i64 m.nw, .slice A2 m.ss.length c2, .slice A3 m.js.length c3] | 1 => ∃ (y : (Option Addr × Nat) × (Option Addr × Nat) × (Option Addr × Nat)), v = .agg #[.slice y.1.1 m.old.length y.1.2, .int .i64 m.nw, .slice y.2.1.1 m.ss.length y.2.1.2, .slice y.2.2.1 m.js.length y.2.2.2] ∧ MIn m y.1.1 y.1.2 y.2.1.1 y.2.1.2 y.2.2.1 y.2.2.2 W' | 2 => v = .slice Ax xs.length cx | 3 => ∃ (y : Option Addr × Nat), v = .slice y.1 xs.length y.2 ∧ IntsAt y xs W' | 4 => v = .agg #[.int .i64 lo, .int .i64 hi] | 5 => v = .agg #[.int .i64 lo, .int .i64 hi] | 6 => v = .int .i64 mv | 7 => v = .bool false | _ => True) (fun A B => Below A.heap.size A B) (fun _ _ => True) (by kernel_rfl) (by kernel_rfl) ?_ (fun h k => h.trans (k.mono h.size)) ⟨rfl, rfl, rfl, Nat.le_refl _, fun _ _ => rfl⟩ trivial (by kernel_rfl) ?_ ?_
  · intro i v W1 W2 hb h
    match i, h with
    | 0, h => exact h
    | 1, h =>
      obtain ⟨y, rfl, h1⟩ := h
      exact ⟨_, rfl, h1.at_ hb⟩
    | 2, h => exact h
    | 3, h =>
      obtain ⟨y, rfl, h1⟩ := h
      exact ⟨_, rfl, h1.at_ hb⟩
    | 4, h => exact h
    | 5, h => exact h
    | 6, h => exact h
    | 7, h => exact h
    | i + 8, h => trivial
  · refine ⟨?_, ?_, ?_, ?_, ?_, ?_, ?_, ?_, trivial⟩
    · -- 0
      intro li a1 W2 hA K hK
      have e4 := hA.par 4 (by kernel_rfl)
      obtain ⟨q1, q2, q3, q4⟩ := (HT2.out.keep hA.st).c4
      refine opStep none 0 rfl rfl (fun c hc => by cases hc) ?_
      go_simp
      exact hK _ _ rfl (Below.refl _ _) trivial
    · -- 1
      intro li a1 W2 hA K hK
      have e34 : a1.tmps.getD 34 undef = .agg #[.slice A m.old.length c, .int .i64 m.nw, .slice A2 m.ss.length c2, .slice A3 m.js.length c3] := hA.val 0 34 (by kernel_rfl) (by kernel_rfl)
      refine opStep none 0 rfl rfl (fun c hc => by cases hc) ?_
      go_simp
      refine (map_thin (HH.out.at_ (HB2.out.trans (hA.st.mono HB2.out.size))) HTH.out).mono ?_
      rintro e W3 ⟨P, Q, R, rfl, hy, hb3⟩
      exact hK _ _ ⟨(P, Q, R), rfl, hy⟩ hb3 trivial
    · -- 2
      intro li a1 W2 hA K hK
      have e1 := hA.par 1 (by kernel_rfl)
      refine opStep none 0 rfl rfl (fun c hc => by cases hc) ?_
      go_simp
      exact hK _ _ rfl (Below.refl _ _) trivial
    · -- 3
      intro li a1 W2 hA K hK
      have e36 : a1.tmps.getD 36 undef = .slice Ax xs.length cx := hA.val 2 36 (by kernel_rfl) (by kernel_rfl)
      refine opStep none 0 rfl rfl (fun c hc => by cases hc) ?_
      go_simp
      refine (lst_i (HX.out.at_ (HB2.out.trans (hA.st.mono HB2.out.size))) HX0.out (by have := HLX.out; omega)).mono ?_
      rintro e W3 ⟨y, rfl, hy, hb3⟩
      exact hK _ _ ⟨y, rfl, hy⟩ hb3 trivial
    · -- 4
      intro li a1 W2 hA K hK
      have e6 := hA.par 6 (by kernel_rfl)
      obtain ⟨q1, q2⟩ := (LB2.out.keep hA.st).c2
      refine opStep none 0 rfl rfl (fun c hc => by cases hc) ?_
      go_simp
      exact hK _ _ rfl (Below.refl _ _) trivial
    · -- 5
      intro li a1 W2 hA K hK
      have e38 : a1.tmps.getD 38 undef = .agg #[.int .i64 lo, .int .i64 hi] := hA.val 4 38 (by kernel_rfl) (by kernel_rfl)
      refine opStep none 0 rfl rfl (fun c hc => by cases hc) ?_
      go_simp
      refine (to_any lo hi W2).mono ?_
      rintro e W3 ⟨rfl, hb3⟩
      exact hK _ _ rfl hb3 trivial
    · -- 6
      intro li a1 W2 hA K hK
      have e3 := hA.par 3 (by kernel_rfl)
      refine opStep none 0 rfl rfl (fun c hc => by cases hc) ?_
      go_simp
      exact hK _ _ rfl (Below.refl _ _) trivial
    · -- 7
      intro li a1 W2 hA K hK
      obtain ⟨y35, e35, h35⟩ := hA.val 1 35 (by kernel_rfl) (by kernel_rfl)
      obtain ⟨y37, e37, h37⟩ := hA.val 3 37 (by kernel_rfl) (by kernel_rfl)
      have e39 : a1.tmps.getD 39 undef = .agg #[.int .i64 lo, .int .i64 hi] := hA.val 5 39 (by kernel_rfl) (by kernel_rfl)
      have e40 : a1.tmps.getD 40 undef = .int .i64 mv := hA.val 6 40 (by kernel_rfl) (by kernel_rfl)
      refine opStep none 0 rfl rfl (fun c hc => by cases hc) ?_
      go_simp
      refine (pb_bad h35 h37 HEN.out).mono ?_
      rintro e W3 ⟨rfl, hb3⟩
      exact hK _ _ rfl hb3 trivial
  intro li a1 W2 hD
  have e41 : a1.tmps.getD 41 undef = .bool false := hD.val 7 41 (by kernel_rfl) (by kernel_rfl)
  have hkp2 := hD.keeps (ds := [34, 35, 36, 37, 38, 39, 40, 41, 12]) (by kernel_rfl)
  have hds := hD.size
  have hsz9 : a1.tmps.size = 141 := hD.size
  have hdd := hD.defers
  have hst := hD.st
  refine tail_val (i := 8) (v := .bool false) (W' := W2) none 0 rfl rfl rfl (fun c hc => by cases hc) (by go_simp) (by rw [hsz9]; decide) ?_
  intro a3 s3 d3 f3 o3
  have hkp3 := keeps_then hkp2 o3 (by decide)
  have e := act_mix [34, 35, 36, 37, 38, 39, 40, 41, 12] (s3.trans (hds)) (d3.trans (hdd)) (fun i _ hc => hkp3 i hc)
  have hgg0 : (fun i => a3.tmps.getD i undef) 12 = .bool false := f3
  generalize (fun i => a3.tmps.getD i undef) = g' at e hgg0
  refine wpListIn_nil ?_
  rw [e]
  clear e hD hkp2 hkp3 hds hdd hsz9 s3 d3 f3 o3 e41
  simp only [mix, List.contains_cons, List.contains_nil, Nat.reduceAdd, Nat.reduceBEq, Bool.or_false, Bool.or_true, cond_true, cond_false, hgg0]
  clear hgg0
  have hb := hst
  clear hst
  have HB3 := hid (HB2.out.trans (hb.mono HB2.out.size))
  have HT3 := hid (HT2.out.keep hb)
  have LB3 := hid (LB2.out.keep hb)
  clear hb
  generalize W2 = w3 at *
  obtain ⟨t0, t1, t2, t3⟩ := HT3.out.c4
  obtain ⟨l0, l1⟩ := LB3.out.c2
  have K4 := hid (mfault_any m A c A2 c2 A3 c3 w3 (HH.out.at_ HB3.out).toMIn)
  rw [HC.out] at K4
  go_wp2_with fail
  refine K4.out.mono ?_
  rintro e w4 ⟨rfl, hb⟩
  have HB4 := hid (HB3.out.trans (hb.mono HB3.out.size))
  have HT4 := hid (HT3.out.keep hb)
  have LB4 := hid (LB3.out.keep hb)
  clear hb K4 t0 t1 t2 t3 l0 l1
  obtain ⟨t0, t1, t2, t3⟩ := HT4.out.c4
  obtain ⟨l0, l1⟩ := LB4.out.c2
  have K5 := hid (awake_any w4)
  go_wp2_with fail
  refine K5.out.mono ?_
  rintro e w5 ⟨rfl, hb⟩
  have HB5 := hid (HB4.out.trans (hb.mono HB4.out.size))
  have HT5 := hid (HT4.out.keep hb)
  have LB5 := hid (LB4.out.keep hb)
  clear hb K5 t0 t1 t2 t3 l0 l1
  obtain ⟨t0, t1, t2, t3⟩ := HT5.out.c4
  obtain ⟨l0, l1⟩ := LB5.out.c2
  clear t0 t1 t2 t3 l0 l1
  go_wp2
  go_ret
  exact ⟨rfl, HB5.out⟩

set_option maxRecDepth 100000 in
set_option maxHeartbeats 4000000 in
theorem bes_rlo (m : MapD) (A : Option Addr) (c : Nat) (A2 : Option Addr) (c2 : Nat) (A3 : Option Addr) (c3 : Nat) (Ax : Option Addr) (cx : Nat) (xs : List Int) (lo hi mv : Int) (w : World) (h : MArg m A c A2 c2 A3 c3 w) (hx : IntsAt (Ax, cx) xs w) (hx0 : Ax = none → cx = 0) (ht : thinM m = true) (hl : ¬ 12 < xs.length) (hc : chkM m = 0) (hr : inB lo 0 hi = false) :
    Calls Try.prog 10 #[.agg #[.slice A m.old.length c, .int .i64 m.nw, .slice A2 m.ss.length c2, .slice A3 m.js.length c3], .slice Ax xs.length cx, .agg #[.int .i64 lo, .int .i64 hi], .int .i64 mv] w fun e w' => e = .returned (.bool true) ∧ Below w.heap.size w w' := by
  have hB := (below_box (w := w) #[.slice A m.old.length c, .int .i64 m.nw, .slice A2 m.ss.length c2, .slice A3 m.js.length c3] 26).alloc (below_box (w := w) #[.slice A m.old.length c, .int .i64 m.nw, .slice A2 m.ss.length c2, .slice A3 m.js.length c3] 26).size (.cells #[.int .i64 lo, .int .i64 hi] 43)
  have hT := (Blk.new w 26 #[.slice A m.old.length c, .int .i64 m.nw, .slice A2 m.ss.length c2, .slice A3 m.js.length c3]).alloc (.cells #[.int .i64 lo, .int .i64 hi] 43)
  have hL := Blk.new (w.alloc (.cells #[.slice A m.old.length c, .int .i64 m.nw, .slice A2 m.ss.length c2, .slice A3 m.js.length c3] 26)) 43 #[.int .i64 lo, .int .i64 hi]
  rw [World.size_alloc] at hL
  have HB0 := hid hB
  have HT0 := hid hT
  have LB0 := hid hL
  have HH := hid h
  obtain ⟨t0, t1, t2, t3⟩ := hT.c4
  obtain ⟨l0, l1⟩ := hL.c2
  clear h hB hT hL
  have HX := hid hx
  have HX0 := hid hx0
  clear hx hx0
  have HTN := hid ht
  have HTH := hid (thinM_iff.1 ht)
  have HLX := hid hl
  have hlB : decide ((12 : Int) < (xs.length : Int)) = false := by simp; omega
  have hez : askE m lo hi = 2 := by
    unfold askE
    rw [if_pos hc, if_neg]
    unfold rngOk
    rw [decide_eq_true_eq]
    unfold inB at hr
    simp only [decide_eq_false_iff_not] at hr
    omega
  have HEZ := hid hez
  have HEN := hid (show askE m lo hi ≠ 0 by rw [hez]; decide)
  have HC := hid hc
  have HIN := hid hr
  clear ht hc hez hr
  go_enter Try.func10, Try.ntmps10
  have K1 := hid (thin_any m A c A2 c2 A3 c3 ((w.alloc (.cells #[.slice A m.old.length c, .int .i64 m.nw, .slice A2 m.ss.length c2, .slice A3 m.js.length c3] 26)).alloc (.cells #[.int .i64 lo, .int .i64 hi] 43)))
  rw [HTN.out] at K1
  go_wp2_with fail
  refine K1.out.mono ?_
  rintro e w1 ⟨rfl, hb⟩
  have HB1 := hid (HB0.out.trans (hb.mono HB0.out.size))
  have HT1 := hid (HT0.out.keep hb)
  have LB1 := hid (LB0.out.keep hb)
  clear hb K1 t0 t1 t2 t3 l0 l1
  obtain ⟨t0, t1, t2, t3⟩ := HT1.out.c4
  obtain ⟨l0, l1⟩ := LB1.out.c2
  clear t0 t1 t2 t3 l0 l1
  go_wp2
  refine (wpIn_wide (n := 0)).1 ?_
  refine wpIn_region_each 11 (fun i v W' => match i with | 0 => v = .agg #[.slice A m.old.length c, .int .i64 m.nw, .slice A2 m.ss.length c2, .slice A3 m.js.length c3] | 1 => ∃ (y : (Option Addr × Nat) × (Option Addr × Nat) × (Option Addr × Nat)), v = .agg #[.slice y.1.1 m.old.length y.1.2, .int .i64 m.nw, .slice y.2.1.1 m.ss.length y.2.1.2, .slice y.2.2.1 m.js.length y.2.2.2] ∧ MIn m y.1.1 y.1.2 y.2.1.1 y.2.1.2 y.2.2.1 y.2.2.2 W' | 2 => v = .agg #[.int .i64 lo, .int .i64 hi] | 3 => v = .agg #[.int .i64 lo, .int .i64 hi] | 4 => v = .tuple #[.slice none 0 0, .int .i64 0, .int .i64 2] | 5 => v = .tuple #[.slice none 0 0, .int .i64 0, .int .i64 2] | 6 => v = .slice none 0 0 | 7 => v = .int .i64 0 | 8 => v = .int .i64 2 | 9 => v = .slice none 0 0 | 10 => v = .int .i64 0 | _ => True) (fun A B => Below A.heap.size A B) (fun _ _ => True) (by kernel_rfl) (by kernel_rfl) ?_ (fun h k => h.trans (k.mono h.size)) ⟨rfl, rfl, rfl, Nat.le_refl _, fun _ _ => rfl⟩ trivial (by kernel_rfl) ?_ ?_
  · intro i v W1 W2 hb h
    match i, h with
    | 0, h => exact h
    | 1, h =>
      obtain ⟨y, rfl, h1⟩ := h
      exact ⟨_, rfl, h1.at_ hb⟩
    | 2, h => exact h
    | 3, h => exact h
    | 4, h => exact h
    | 5, h => exact h
    | 6, h => exact h
    | 7, h => exact h
    | 8, h => exact h
    | 9, h => exact h
    | 10, h => exact h
    | i + 11, h => trivial
  · refine ⟨?_, ?_, ?_, ?_, ?_, ?_, ?_, ?_, ?_, ?_, ?_, trivial⟩
    · -- 0
      intro li a1 W2 hA K hK
      have e4 := hA.par 4 (by kernel_rfl)
      obtain ⟨q1, q2, q3, q4⟩ := (HT1.out.keep hA.st).c4
      refine opStep none 0 rfl rfl (fun c hc => by cases hc) ?_
      go_simp
      exact hK _ _ rfl (Below.refl _ _) trivial
    · -- 1
      intro li a1 W2 hA K hK
      have e26 : a1.tmps.getD 26 undef = .agg #[.slice A m.old.length c, .int .i64 m.nw, .slice A2 m.ss.length c2, .slice A3 m.js.length c3] := hA.val 0 26 (by kernel_rfl) (by kernel_rfl)
      refine opStep none 0 rfl rfl (fun c hc => by cases hc) ?_
      go_simp
      refine (map_thin (HH.out.at_ (HB1.out.trans (hA.st.mono HB1.out.size))) HTH.out).mono ?_
      rintro e W3 ⟨P, Q, R, rfl, hy, hb3⟩
      exact hK _ _ ⟨(P, Q, R), rfl, hy⟩ hb3 trivial
    · -- 2
      intro li a1 W2 hA K hK
      have e6 := hA.par 6 (by kernel_rfl)
      obtain ⟨q1, q2⟩ := (LB1.out.keep hA.st).c2
      refine opStep none 0 rfl rfl (fun c hc => by cases hc) ?_
      go_simp
      exact hK _ _ rfl (Below.refl _ _) trivial
    · -- 3
      intro li a1 W2 hA K hK
      have e28 : a1.tmps.getD 28 undef = .agg #[.int .i64 lo, .int .i64 hi] := hA.val 2 28 (by kernel_rfl) (by kernel_rfl)
      refine opStep none 0 rfl rfl (fun c hc => by cases hc) ?_
      go_simp
      refine (to_any lo hi W2).mono ?_
      rintro e W3 ⟨rfl, hb3⟩
      exact hK _ _ rfl hb3 trivial
    · -- 4
      intro li a1 W2 hA K hK
      obtain ⟨y27, e27, h27⟩ := hA.val 1 27 (by kernel_rfl) (by kernel_rfl)
      have e29 : a1.tmps.getD 29 undef = .agg #[.int .i64 lo, .int .i64 hi] := hA.val 3 29 (by kernel_rfl) (by kernel_rfl)
      refine opStep none 0 rfl rfl (fun c hc => by cases hc) ?_
      go_simp
      have KM := hid (bbest_bad m y27.1.1 y27.1.2 y27.2.1.1 y27.2.1.2 y27.2.2.1 y27.2.2.2 lo hi W2 h27 HEN.out)
      rw [HEZ.out] at KM
      refine KM.out.mono ?_
      rintro e W3 ⟨rfl, hb3⟩
      exact hK _ _ rfl hb3 trivial
    · -- 5
      intro li a1 W2 hA K hK
      have e30 : a1.tmps.getD 30 undef = .tuple #[.slice none 0 0, .int .i64 0, .int .i64 2] := hA.val 4 30 (by kernel_rfl) (by kernel_rfl)
      refine opStep none 0 rfl rfl (fun c hc => by cases hc) ?_
      go_simp
      exact hK _ _ rfl (Below.refl _ _) trivial
    · -- 6
      intro li a1 W2 hA K hK
      have e25 : a1.tmps.getD 25 undef = .tuple #[.slice none 0 0, .int .i64 0, .int .i64 2] := hA.val 5 25 (by kernel_rfl) (by kernel_rfl)
      refine opStep none 0 rfl rfl (fun c hc => by cases hc) ?_
      go_simp
      exact hK _ _ rfl (Below.refl _ _) trivial
    · -- 7
      intro li a1 W2 hA K hK
      have e25 : a1.tmps.getD 25 undef = .tuple #[.slice none 0 0, .int .i64 0, .int .i64 2] := hA.val 5 25 (by kernel_rfl) (by kernel_rfl)
      refine opStep none 0 rfl rfl (fun c hc => by cases hc) ?_
      go_simp
      exact hK _ _ rfl (Below.refl _ _) trivial
    · -- 8
      intro li a1 W2 hA K hK
      have e25 : a1.tmps.getD 25 undef = .tuple #[.slice none 0 0, .int .i64 0, .int .i64 2] := hA.val 5 25 (by kernel_rfl) (by kernel_rfl)
      refine opStep none 0 rfl rfl (fun c hc => by cases hc) ?_
      go_simp
      exact hK _ _ rfl (Below.refl _ _) trivial
    · -- 9
      intro li a1 W2 hA K hK
      have e31 : a1.tmps.getD 31 undef = .slice none 0 0 := hA.val 6 31 (by kernel_rfl) (by kernel_rfl)
      refine opStep none 0 rfl rfl (fun c hc => by cases hc) ?_
      go_simp
      exact hK _ _ rfl (Below.refl _ _) trivial
    · -- 10
      intro li a1 W2 hA K hK
      have e32 : a1.tmps.getD 32 undef = .int .i64 0 := hA.val 7 32 (by kernel_rfl) (by kernel_rfl)
      refine opStep none 0 rfl rfl (fun c hc => by cases hc) ?_
      go_simp
      exact hK _ _ rfl (Below.refl _ _) trivial
  intro li a1 W2 hD
  have e9 : a1.tmps.getD 9 undef = .slice none 0 0 := hD.val 9 9 (by kernel_rfl) (by kernel_rfl)
  have e10 : a1.tmps.getD 10 undef = .int .i64 0 := hD.val 10 10 (by kernel_rfl) (by kernel_rfl)
  have e33 : a1.tmps.getD 33 undef = .int .i64 2 := hD.val 8 33 (by kernel_rfl) (by kernel_rfl)
  have hkp2 := hD.keeps (ds := [26, 27, 28, 29, 30, 25, 31, 32, 33, 9, 10, 11]) (by kernel_rfl)
  have hds := hD.size
  have hsz9 : a1.tmps.size = 141 := hD.size
  have hdd := hD.defers
  have hst := hD.st
  refine tail_val (i := 11) (v := .int .i64 2) (W' := W2) none 0 rfl rfl rfl (fun c hc => by cases hc) (by go_simp) (by rw [hsz9]; decide) ?_
  intro a3 s3 d3 f3 o3
  have hkp3 := keeps_then hkp2 o3 (by decide)
  have e := act_mix [26, 27, 28, 29, 30, 25, 31, 32, 33, 9, 10, 11] (s3.trans (hds)) (d3.trans (hdd)) (fun i _ hc => hkp3 i hc)
  have hgg0 : (fun i => a3.tmps.getD i undef) 11 = .int .i64 2 := f3
  have hgk9 : (fun i => a3.tmps.getD i undef) 9 = .slice none 0 0 := (o3 9 (by decide)).trans (e9)
  have hgk10 : (fun i => a3.tmps.getD i undef) 10 = .int .i64 0 := (o3 10 (by decide)).trans (e10)
  generalize (fun i => a3.tmps.getD i undef) = g' at e hgg0 hgk9 hgk10
  refine wpListIn_nil ?_
  rw [e]
  clear e hD hkp2 hkp3 hds hdd hsz9 s3 d3 f3 o3 e33 e9 e10
  simp only [mix, List.contains_cons, List.contains_nil, Nat.reduceAdd, Nat.reduceBEq, Bool.or_false, Bool.or_true, cond_true, cond_false, hgg0, hgk9, hgk10]
  clear hgg0 hgk9 hgk10
  have hb := hst
  clear hst
  have HB2 := hid (HB1.out.trans (hb.mono HB1.out.size))
  have HT2 := hid (HT1.out.keep hb)
  have LB2 := hid (LB1.out.keep hb)
  clear hb
  generalize W2 = w2 at *
  obtain ⟨t0, t1, t2, t3⟩ := HT2.out.c4
  obtain ⟨l0, l1⟩ := LB2.out.c2
  clear t0 t1 t2 t3 l0 l1
  go_wp2
  refine (wpIn_wide (n := 0)).1 ?_
  refine wpIn_region_each 8 (fun i v W' => match i with | 0 => v = .agg #[.slice A m.old.length c, .int .i64 m.nw, .slice A2 m.ss.length c2, .slice A3 m.js.length c3] | 1 => ∃ (y : (Option Addr × Nat) × (Option Addr × Nat) × (Option Addr × Nat)), v = .agg #[.slice y.1.1 m.old.length y.1.2, .int .i64 m.nw, .slice y.2.1.1 m.ss.length y.2.1.2, .slice y.2.2.1 m.js.length y.2.2.2] ∧ MIn m y.1.1 y.1.2 y.2.1.1 y.2.1.2 y.2.2.1 y.2.2.2 W' | 2 => v = .slice Ax xs.length cx | 3 => ∃ (y : Option Addr × Nat), v = .slice y.1 xs.length y.2 ∧ IntsAt y xs W' | 4 => v = .agg #[.int .i64 lo, .int .i64 hi] | 5 => v = .agg #[.int .i64 lo, .int .i64 hi] | 6 => v = .int .i64 mv | 7 => v = .bool false | _ => True) (fun A B => Below A.heap.size A B) (fun _ _ => True) (by kernel_rfl) (by kernel_rfl) ?_ (fun h k => h.trans (k.mono h.size)) ⟨rfl, rfl, rfl, Nat.le_refl _, fun _ _ => rfl⟩ trivial (by kernel_rfl) ?_ ?_
  · intro i v W1 W2 hb h
    match i, h with
    | 0, h => exact h
    | 1, h =>
      obtain ⟨y, rfl, h1⟩ := h
      exact ⟨_, rfl, h1.at_ hb⟩
    | 2, h => exact h
    | 3, h =>
      obtain ⟨y, rfl, h1⟩ := h
      exact ⟨_, rfl, h1.at_ hb⟩
    | 4, h => exact h
    | 5, h => exact h
    | 6, h => exact h
    | 7, h => exact h
    | i + 8, h => trivial
  · refine ⟨?_, ?_, ?_, ?_, ?_, ?_, ?_, ?_, trivial⟩
    · -- 0
      intro li a1 W2 hA K hK
      have e4 := hA.par 4 (by kernel_rfl)
      obtain ⟨q1, q2, q3, q4⟩ := (HT2.out.keep hA.st).c4
      refine opStep none 0 rfl rfl (fun c hc => by cases hc) ?_
      go_simp
      exact hK _ _ rfl (Below.refl _ _) trivial
    · -- 1
      intro li a1 W2 hA K hK
      have e34 : a1.tmps.getD 34 undef = .agg #[.slice A m.old.length c, .int .i64 m.nw, .slice A2 m.ss.length c2, .slice A3 m.js.length c3] := hA.val 0 34 (by kernel_rfl) (by kernel_rfl)
      refine opStep none 0 rfl rfl (fun c hc => by cases hc) ?_
      go_simp
      refine (map_thin (HH.out.at_ (HB2.out.trans (hA.st.mono HB2.out.size))) HTH.out).mono ?_
      rintro e W3 ⟨P, Q, R, rfl, hy, hb3⟩
      exact hK _ _ ⟨(P, Q, R), rfl, hy⟩ hb3 trivial
    · -- 2
      intro li a1 W2 hA K hK
      have e1 := hA.par 1 (by kernel_rfl)
      refine opStep none 0 rfl rfl (fun c hc => by cases hc) ?_
      go_simp
      exact hK _ _ rfl (Below.refl _ _) trivial
    · -- 3
      intro li a1 W2 hA K hK
      have e36 : a1.tmps.getD 36 undef = .slice Ax xs.length cx := hA.val 2 36 (by kernel_rfl) (by kernel_rfl)
      refine opStep none 0 rfl rfl (fun c hc => by cases hc) ?_
      go_simp
      refine (lst_i (HX.out.at_ (HB2.out.trans (hA.st.mono HB2.out.size))) HX0.out (by have := HLX.out; omega)).mono ?_
      rintro e W3 ⟨y, rfl, hy, hb3⟩
      exact hK _ _ ⟨y, rfl, hy⟩ hb3 trivial
    · -- 4
      intro li a1 W2 hA K hK
      have e6 := hA.par 6 (by kernel_rfl)
      obtain ⟨q1, q2⟩ := (LB2.out.keep hA.st).c2
      refine opStep none 0 rfl rfl (fun c hc => by cases hc) ?_
      go_simp
      exact hK _ _ rfl (Below.refl _ _) trivial
    · -- 5
      intro li a1 W2 hA K hK
      have e38 : a1.tmps.getD 38 undef = .agg #[.int .i64 lo, .int .i64 hi] := hA.val 4 38 (by kernel_rfl) (by kernel_rfl)
      refine opStep none 0 rfl rfl (fun c hc => by cases hc) ?_
      go_simp
      refine (to_any lo hi W2).mono ?_
      rintro e W3 ⟨rfl, hb3⟩
      exact hK _ _ rfl hb3 trivial
    · -- 6
      intro li a1 W2 hA K hK
      have e3 := hA.par 3 (by kernel_rfl)
      refine opStep none 0 rfl rfl (fun c hc => by cases hc) ?_
      go_simp
      exact hK _ _ rfl (Below.refl _ _) trivial
    · -- 7
      intro li a1 W2 hA K hK
      obtain ⟨y35, e35, h35⟩ := hA.val 1 35 (by kernel_rfl) (by kernel_rfl)
      obtain ⟨y37, e37, h37⟩ := hA.val 3 37 (by kernel_rfl) (by kernel_rfl)
      have e39 : a1.tmps.getD 39 undef = .agg #[.int .i64 lo, .int .i64 hi] := hA.val 5 39 (by kernel_rfl) (by kernel_rfl)
      have e40 : a1.tmps.getD 40 undef = .int .i64 mv := hA.val 6 40 (by kernel_rfl) (by kernel_rfl)
      refine opStep none 0 rfl rfl (fun c hc => by cases hc) ?_
      go_simp
      refine (pb_bad h35 h37 HEN.out).mono ?_
      rintro e W3 ⟨rfl, hb3⟩
      exact hK _ _ rfl hb3 trivial
  intro li a1 W2 hD
  have e41 : a1.tmps.getD 41 undef = .bool false := hD.val 7 41 (by kernel_rfl) (by kernel_rfl)
  have hkp2 := hD.keeps (ds := [34, 35, 36, 37, 38, 39, 40, 41, 12]) (by kernel_rfl)
  have hds := hD.size
  have hsz9 : a1.tmps.size = 141 := hD.size
  have hdd := hD.defers
  have hst := hD.st
  refine tail_val (i := 8) (v := .bool false) (W' := W2) none 0 rfl rfl rfl (fun c hc => by cases hc) (by go_simp) (by rw [hsz9]; decide) ?_
  intro a3 s3 d3 f3 o3
  have hkp3 := keeps_then hkp2 o3 (by decide)
  have e := act_mix [34, 35, 36, 37, 38, 39, 40, 41, 12] (s3.trans (hds)) (d3.trans (hdd)) (fun i _ hc => hkp3 i hc)
  have hgg0 : (fun i => a3.tmps.getD i undef) 12 = .bool false := f3
  generalize (fun i => a3.tmps.getD i undef) = g' at e hgg0
  refine wpListIn_nil ?_
  rw [e]
  clear e hD hkp2 hkp3 hds hdd hsz9 s3 d3 f3 o3 e41
  simp only [mix, List.contains_cons, List.contains_nil, Nat.reduceAdd, Nat.reduceBEq, Bool.or_false, Bool.or_true, cond_true, cond_false, hgg0]
  clear hgg0
  have hb := hst
  clear hst
  have HB3 := hid (HB2.out.trans (hb.mono HB2.out.size))
  have HT3 := hid (HT2.out.keep hb)
  have LB3 := hid (LB2.out.keep hb)
  clear hb
  generalize W2 = w3 at *
  obtain ⟨t0, t1, t2, t3⟩ := HT3.out.c4
  obtain ⟨l0, l1⟩ := LB3.out.c2
  have K4 := hid (mfault_any m A c A2 c2 A3 c3 w3 (HH.out.at_ HB3.out).toMIn)
  rw [HC.out] at K4
  go_wp2_with fail
  refine K4.out.mono ?_
  rintro e w4 ⟨rfl, hb⟩
  have HB4 := hid (HB3.out.trans (hb.mono HB3.out.size))
  have HT4 := hid (HT3.out.keep hb)
  have LB4 := hid (LB3.out.keep hb)
  clear hb K4 t0 t1 t2 t3 l0 l1
  obtain ⟨t0, t1, t2, t3⟩ := HT4.out.c4
  obtain ⟨l0, l1⟩ := LB4.out.c2
  have K5 := hid (qin_b lo 0 hi w4)
  rw [HIN.out] at K5
  go_wp2_with fail
  refine K5.out.mono ?_
  rintro e w5 ⟨rfl, hb⟩
  have HB5 := hid (HB4.out.trans (hb.mono HB4.out.size))
  have HT5 := hid (HT4.out.keep hb)
  have LB5 := hid (LB4.out.keep hb)
  clear hb K5 t0 t1 t2 t3 l0 l1
  obtain ⟨t0, t1, t2, t3⟩ := HT5.out.c4
  obtain ⟨l0, l1⟩ := LB5.out.c2
  have K6 := hid (awake_any w5)
  go_wp2_with fail
  refine K6.out.mono ?_
  rintro e w6 ⟨rfl, hb⟩
  have HB6 := hid (HB5.out.trans (hb.mono HB5.out.size))
  have HT6 := hid (HT5.out.keep hb)
  have LB6 := hid (LB5.out.keep hb)
  clear hb K6 t0 t1 t2 t3 l0 l1
  obtain ⟨t0, t1, t2, t3⟩ := HT6.out.c4
  obtain ⟨l0, l1⟩ := LB6.out.c2
  clear t0 t1 t2 t3 l0 l1
  go_wp2
  go_ret
  exact ⟨rfl, HB6.out⟩

set_option maxRecDepth 100000 in
set_option maxHeartbeats 4000000 in
theorem bes_rhi (m : MapD) (A : Option Addr) (c : Nat) (A2 : Option Addr) (c2 : Nat) (A3 : Option Addr) (c3 : Nat) (Ax : Option Addr) (cx : Nat) (xs : List Int) (lo hi mv : Int) (w : World) (h : MArg m A c A2 c2 A3 c3 w) (hx : IntsAt (Ax, cx) xs w) (hx0 : Ax = none → cx = 0) (ht : thinM m = true) (hl : ¬ 12 < xs.length) (hc : chkM m = 0) (hr : inB lo 0 hi = true) (hh : 40000 < hi) :
    Calls Try.prog 10 #[.agg #[.slice A m.old.length c, .int .i64 m.nw, .slice A2 m.ss.length c2, .slice A3 m.js.length c3], .slice Ax xs.length cx, .agg #[.int .i64 lo, .int .i64 hi], .int .i64 mv] w fun e w' => e = .returned (.bool true) ∧ Below w.heap.size w w' := by
  have hB := (below_box (w := w) #[.slice A m.old.length c, .int .i64 m.nw, .slice A2 m.ss.length c2, .slice A3 m.js.length c3] 26).alloc (below_box (w := w) #[.slice A m.old.length c, .int .i64 m.nw, .slice A2 m.ss.length c2, .slice A3 m.js.length c3] 26).size (.cells #[.int .i64 lo, .int .i64 hi] 43)
  have hT := (Blk.new w 26 #[.slice A m.old.length c, .int .i64 m.nw, .slice A2 m.ss.length c2, .slice A3 m.js.length c3]).alloc (.cells #[.int .i64 lo, .int .i64 hi] 43)
  have hL := Blk.new (w.alloc (.cells #[.slice A m.old.length c, .int .i64 m.nw, .slice A2 m.ss.length c2, .slice A3 m.js.length c3] 26)) 43 #[.int .i64 lo, .int .i64 hi]
  rw [World.size_alloc] at hL
  have HB0 := hid hB
  have HT0 := hid hT
  have LB0 := hid hL
  have HH := hid h
  obtain ⟨t0, t1, t2, t3⟩ := hT.c4
  obtain ⟨l0, l1⟩ := hL.c2
  clear h hB hT hL
  have HX := hid hx
  have HX0 := hid hx0
  clear hx hx0
  have HTN := hid ht
  have HTH := hid (thinM_iff.1 ht)
  have HLX := hid hl
  have hlB : decide ((12 : Int) < (xs.length : Int)) = false := by simp; omega
  have hez : askE m lo hi = 2 := by
    unfold askE
    rw [if_pos hc, if_neg]
    unfold rngOk
    rw [decide_eq_true_eq]
    unfold inB at hr
    simp only [decide_eq_true_eq] at hr
    omega
  have HEZ := hid hez
  have HEN := hid (show askE m lo hi ≠ 0 by rw [hez]; decide)
  have HC := hid hc
  have HIN := hid hr
  have hhB : decide ((40000 : Int) < hi) = true := decide_eq_true hh
  clear ht hc hez hr
  go_enter Try.func10, Try.ntmps10
  have K1 := hid (thin_any m A c A2 c2 A3 c3 ((w.alloc (.cells #[.slice A m.old.length c, .int .i64 m.nw, .slice A2 m.ss.length c2, .slice A3 m.js.length c3] 26)).alloc (.cells #[.int .i64 lo, .int .i64 hi] 43)))
  rw [HTN.out] at K1
  go_wp2_with fail
  refine K1.out.mono ?_
  rintro e w1 ⟨rfl, hb⟩
  have HB1 := hid (HB0.out.trans (hb.mono HB0.out.size))
  have HT1 := hid (HT0.out.keep hb)
  have LB1 := hid (LB0.out.keep hb)
  clear hb K1 t0 t1 t2 t3 l0 l1
  obtain ⟨t0, t1, t2, t3⟩ := HT1.out.c4
  obtain ⟨l0, l1⟩ := LB1.out.c2
  clear t0 t1 t2 t3 l0 l1
  go_wp2
  refine (wpIn_wide (n := 0)).1 ?_
  refine wpIn_region_each 11 (fun i v W' => match i with | 0 => v = .agg #[.slice A m.old.length c, .int .i64 m.nw, .slice A2 m.ss.length c2, .slice A3 m.js.length c3] | 1 => ∃ (y : (Option Addr × Nat) × (Option Addr × Nat) × (Option Addr × Nat)), v = .agg #[.slice y.1.1 m.old.length y.1.2, .int .i64 m.nw, .slice y.2.1.1 m.ss.length y.2.1.2, .slice y.2.2.1 m.js.length y.2.2.2] ∧ MIn m y.1.1 y.1.2 y.2.1.1 y.2.1.2 y.2.2.1 y.2.2.2 W' | 2 => v = .agg #[.int .i64 lo, .int .i64 hi] | 3 => v = .agg #[.int .i64 lo, .int .i64 hi] | 4 => v = .tuple #[.slice none 0 0, .int .i64 0, .int .i64 2] | 5 => v = .tuple #[.slice none 0 0, .int .i64 0, .int .i64 2] | 6 => v = .slice none 0 0 | 7 => v = .int .i64 0 | 8 => v = .int .i64 2 | 9 => v = .slice none 0 0 | 10 => v = .int .i64 0 | _ => True) (fun A B => Below A.heap.size A B) (fun _ _ => True) (by kernel_rfl) (by kernel_rfl) ?_ (fun h k => h.trans (k.mono h.size)) ⟨rfl, rfl, rfl, Nat.le_refl _, fun _ _ => rfl⟩ trivial (by kernel_rfl) ?_ ?_
  · intro i v W1 W2 hb h
    match i, h with
    | 0, h => exact h
    | 1, h =>
      obtain ⟨y, rfl, h1⟩ := h
      exact ⟨_, rfl, h1.at_ hb⟩
    | 2, h => exact h
    | 3, h => exact h
    | 4, h => exact h
    | 5, h => exact h
    | 6, h => exact h
    | 7, h => exact h
    | 8, h => exact h
    | 9, h => exact h
    | 10, h => exact h
    | i + 11, h => trivial
  · refine ⟨?_, ?_, ?_, ?_, ?_, ?_, ?_, ?_, ?_, ?_, ?_, trivial⟩
    · -- 0
      intro li a1 W2 hA K hK
      have e4 := hA.par 4 (by kernel_rfl)
      obtain ⟨q1, q2, q3, q4⟩ := (HT1.out.keep hA.st).c4
      refine opStep none 0 rfl rfl (fun c hc => by cases hc) ?_
      go_simp
      exact hK _ _ rfl (Below.refl _ _) trivial
    · -- 1
      intro li a1 W2 hA K hK
      have e26 : a1.tmps.getD 26 undef = .agg #[.slice A m.old.length c, .int .i64 m.nw, .slice A2 m.ss.length c2, .slice A3 m.js.length c3] := hA.val 0 26 (by kernel_rfl) (by kernel_rfl)
      refine opStep none 0 rfl rfl (fun c hc => by cases hc) ?_
      go_simp
      refine (map_thin (HH.out.at_ (HB1.out.trans (hA.st.mono HB1.out.size))) HTH.out).mono ?_
      rintro e W3 ⟨P, Q, R, rfl, hy, hb3⟩
      exact hK _ _ ⟨(P, Q, R), rfl, hy⟩ hb3 trivial
    · -- 2
      intro li a1 W2 hA K hK
      have e6 := hA.par 6 (by kernel_rfl)
      obtain ⟨q1, q2⟩ := (LB1.out.keep hA.st).c2
      refine opStep none 0 rfl rfl (fun c hc => by cases hc) ?_
      go_simp
      exact hK _ _ rfl (Below.refl _ _) trivial
    · -- 3
      intro li a1 W2 hA K hK
      have e28 : a1.tmps.getD 28 undef = .agg #[.int .i64 lo, .int .i64 hi] := hA.val 2 28 (by kernel_rfl) (by kernel_rfl)
      refine opStep none 0 rfl rfl (fun c hc => by cases hc) ?_
      go_simp
      refine (to_any lo hi W2).mono ?_
      rintro e W3 ⟨rfl, hb3⟩
      exact hK _ _ rfl hb3 trivial
    · -- 4
      intro li a1 W2 hA K hK
      obtain ⟨y27, e27, h27⟩ := hA.val 1 27 (by kernel_rfl) (by kernel_rfl)
      have e29 : a1.tmps.getD 29 undef = .agg #[.int .i64 lo, .int .i64 hi] := hA.val 3 29 (by kernel_rfl) (by kernel_rfl)
      refine opStep none 0 rfl rfl (fun c hc => by cases hc) ?_
      go_simp
      have KM := hid (bbest_bad m y27.1.1 y27.1.2 y27.2.1.1 y27.2.1.2 y27.2.2.1 y27.2.2.2 lo hi W2 h27 HEN.out)
      rw [HEZ.out] at KM
      refine KM.out.mono ?_
      rintro e W3 ⟨rfl, hb3⟩
      exact hK _ _ rfl hb3 trivial
    · -- 5
      intro li a1 W2 hA K hK
      have e30 : a1.tmps.getD 30 undef = .tuple #[.slice none 0 0, .int .i64 0, .int .i64 2] := hA.val 4 30 (by kernel_rfl) (by kernel_rfl)
      refine opStep none 0 rfl rfl (fun c hc => by cases hc) ?_
      go_simp
      exact hK _ _ rfl (Below.refl _ _) trivial
    · -- 6
      intro li a1 W2 hA K hK
      have e25 : a1.tmps.getD 25 undef = .tuple #[.slice none 0 0, .int .i64 0, .int .i64 2] := hA.val 5 25 (by kernel_rfl) (by kernel_rfl)
      refine opStep none 0 rfl rfl (fun c hc => by cases hc) ?_
      go_simp
      exact hK _ _ rfl (Below.refl _ _) trivial
    · -- 7
      intro li a1 W2 hA K hK
      have e25 : a1.tmps.getD 25 undef = .tuple #[.slice none 0 0, .int .i64 0, .int .i64 2] := hA.val 5 25 (by kernel_rfl) (by kernel_rfl)
      refine opStep none 0 rfl rfl (fun c hc => by cases hc) ?_
      go_simp
      exact hK _ _ rfl (Below.refl _ _) trivial
    · -- 8
      intro li a1 W2 hA K hK
      have e25 : a1.tmps.getD 25 undef = .tuple #[.slice none 0 0, .int .i64 0, .int .i64 2] := hA.val 5 25 (by kernel_rfl) (by kernel_rfl)
      refine opStep none 0 rfl rfl (fun c hc => by cases hc) ?_
      go_simp
      exact hK _ _ rfl (Below.refl _ _) trivial
    · -- 9
      intro li a1 W2 hA K hK
      have e31 : a1.tmps.getD 31 undef = .slice none 0 0 := hA.val 6 31 (by kernel_rfl) (by kernel_rfl)
      refine opStep none 0 rfl rfl (fun c hc => by cases hc) ?_
      go_simp
      exact hK _ _ rfl (Below.refl _ _) trivial
    · -- 10
      intro li a1 W2 hA K hK
      have e32 : a1.tmps.getD 32 undef = .int .i64 0 := hA.val 7 32 (by kernel_rfl) (by kernel_rfl)
      refine opStep none 0 rfl rfl (fun c hc => by cases hc) ?_
      go_simp
      exact hK _ _ rfl (Below.refl _ _) trivial
  intro li a1 W2 hD
  have e9 : a1.tmps.getD 9 undef = .slice none 0 0 := hD.val 9 9 (by kernel_rfl) (by kernel_rfl)
  have e10 : a1.tmps.getD 10 undef = .int .i64 0 := hD.val 10 10 (by kernel_rfl) (by kernel_rfl)
  have e33 : a1.tmps.getD 33 undef = .int .i64 2 := hD.val 8 33 (by kernel_rfl) (by kernel_rfl)
  have hkp2 := hD.keeps (ds := [26, 27, 28, 29, 30, 25, 31, 32, 33, 9, 10, 11]) (by kernel_rfl)
  have hds := hD.size
  have hsz9 : a1.tmps.size = 141 := hD.size
  have hdd := hD.defers
  have hst := hD.st
  refine tail_val (i := 11) (v := .int .i64 2) (W' := W2) none 0 rfl rfl rfl (fun c hc => by cases hc) (by go_simp) (by rw [hsz9]; decide) ?_
  intro a3 s3 d3 f3 o3
  have hkp3 := keeps_then hkp2 o3 (by decide)
  have e := act_mix [26, 27, 28, 29, 30, 25, 31, 32, 33, 9, 10, 11] (s3.trans (hds)) (d3.trans (hdd)) (fun i _ hc => hkp3 i hc)
  have hgg0 : (fun i => a3.tmps.getD i undef) 11 = .int .i64 2 := f3
  have hgk9 : (fun i => a3.tmps.getD i undef) 9 = .slice none 0 0 := (o3 9 (by decide)).trans (e9)
  have hgk10 : (fun i => a3.tmps.getD i undef) 10 = .int .i64 0 := (o3 10 (by decide)).trans (e10)
  generalize (fun i => a3.tmps.getD i undef) = g' at e hgg0 hgk9 hgk10
  refine wpListIn_nil ?_
  rw [e]
  clear e hD hkp2 hkp3 hds hdd hsz9 s3 d3 f3 o3 e33 e9 e10
  simp only [mix, List.contains_cons, List.contains_nil, Nat.reduceAdd, Nat.reduceBEq, Bool.or_false, Bool.or_true, cond_true, cond_false, hgg0, hgk9, hgk10]
  clear hgg0 hgk9 hgk10
  have hb := hst
  clear hst
  have HB2 := hid (HB1.out.trans (hb.mono HB1.out.size))
  have HT2 := hid (HT1.out.keep hb)
  have LB2 := hid (LB1.out.keep hb)
  clear hb
  generalize W2 = w2 at *
  obtain ⟨t0, t1, t2, t3⟩ := HT2.out.c4
  obtain ⟨l0, l1⟩ := LB2.out.c2
  clear t0 t1 t2 t3 l0 l1
  go_wp2
  refine (wpIn_wide (n := 0)).1 ?_
  refine wpIn_region_each 8 (fun i v W' => match i with | 0 => v = .agg #[.slice A m.old.length c, .int .i64 m.nw, .slice A2 m.ss.length c2, .slice A3 m.js.length c3] | 1 => ∃ (y : (Option Addr × Nat) × (Option Addr × Nat) × (Option Addr × Nat)), v = .agg #[.slice y.1.1 m.old.length y.1.2, .int .i64 m.nw, .slice y.2.1.1 m.ss.length y.2.1.2, .slice y.2.2.1 m.js.length y.2.2.2] ∧ MIn m y.1.1 y.1.2 y.2.1.1 y.2.1.2 y.2.2.1 y.2.2.2 W' | 2 => v = .slice Ax xs.length cx | 3 => ∃ (y : Option Addr × Nat), v = .slice y.1 xs.length y.2 ∧ IntsAt y xs W' | 4 => v = .agg #[.int .i64 lo, .int .i64 hi] | 5 => v = .agg #[.int .i64 lo, .int .i64 hi] | 6 => v = .int .i64 mv | 7 => v = .bool false | _ => True) (fun A B => Below A.heap.size A B) (fun _ _ => True) (by kernel_rfl) (by kernel_rfl) ?_ (fun h k => h.trans (k.mono h.size)) ⟨rfl, rfl, rfl, Nat.le_refl _, fun _ _ => rfl⟩ trivial (by kernel_rfl) ?_ ?_
  · intro i v W1 W2 hb h
    match i, h with
    | 0, h => exact h
    | 1, h =>
      obtain ⟨y, rfl, h1⟩ := h
      exact ⟨_, rfl, h1.at_ hb⟩
    | 2, h => exact h
    | 3, h =>
      obtain ⟨y, rfl, h1⟩ := h
      exact ⟨_, rfl, h1.at_ hb⟩
    | 4, h => exact h
    | 5, h => exact h
    | 6, h => exact h
    | 7, h => exact h
    | i + 8, h => trivial
  · refine ⟨?_, ?_, ?_, ?_, ?_, ?_, ?_, ?_, trivial⟩
    · -- 0
      intro li a1 W2 hA K hK
      have e4 := hA.par 4 (by kernel_rfl)
      obtain ⟨q1, q2, q3, q4⟩ := (HT2.out.keep hA.st).c4
      refine opStep none 0 rfl rfl (fun c hc => by cases hc) ?_
      go_simp
      exact hK _ _ rfl (Below.refl _ _) trivial
    · -- 1
      intro li a1 W2 hA K hK
      have e34 : a1.tmps.getD 34 undef = .agg #[.slice A m.old.length c, .int .i64 m.nw, .slice A2 m.ss.length c2, .slice A3 m.js.length c3] := hA.val 0 34 (by kernel_rfl) (by kernel_rfl)
      refine opStep none 0 rfl rfl (fun c hc => by cases hc) ?_
      go_simp
      refine (map_thin (HH.out.at_ (HB2.out.trans (hA.st.mono HB2.out.size))) HTH.out).mono ?_
      rintro e W3 ⟨P, Q, R, rfl, hy, hb3⟩
      exact hK _ _ ⟨(P, Q, R), rfl, hy⟩ hb3 trivial
    · -- 2
      intro li a1 W2 hA K hK
      have e1 := hA.par 1 (by kernel_rfl)
      refine opStep none 0 rfl rfl (fun c hc => by cases hc) ?_
      go_simp
      exact hK _ _ rfl (Below.refl _ _) trivial
    · -- 3
      intro li a1 W2 hA K hK
      have e36 : a1.tmps.getD 36 undef = .slice Ax xs.length cx := hA.val 2 36 (by kernel_rfl) (by kernel_rfl)
      refine opStep none 0 rfl rfl (fun c hc => by cases hc) ?_
      go_simp
      refine (lst_i (HX.out.at_ (HB2.out.trans (hA.st.mono HB2.out.size))) HX0.out (by have := HLX.out; omega)).mono ?_
      rintro e W3 ⟨y, rfl, hy, hb3⟩
      exact hK _ _ ⟨y, rfl, hy⟩ hb3 trivial
    · -- 4
      intro li a1 W2 hA K hK
      have e6 := hA.par 6 (by kernel_rfl)
      obtain ⟨q1, q2⟩ := (LB2.out.keep hA.st).c2
      refine opStep none 0 rfl rfl (fun c hc => by cases hc) ?_
      go_simp
      exact hK _ _ rfl (Below.refl _ _) trivial
    · -- 5
      intro li a1 W2 hA K hK
      have e38 : a1.tmps.getD 38 undef = .agg #[.int .i64 lo, .int .i64 hi] := hA.val 4 38 (by kernel_rfl) (by kernel_rfl)
      refine opStep none 0 rfl rfl (fun c hc => by cases hc) ?_
      go_simp
      refine (to_any lo hi W2).mono ?_
      rintro e W3 ⟨rfl, hb3⟩
      exact hK _ _ rfl hb3 trivial
    · -- 6
      intro li a1 W2 hA K hK
      have e3 := hA.par 3 (by kernel_rfl)
      refine opStep none 0 rfl rfl (fun c hc => by cases hc) ?_
      go_simp
      exact hK _ _ rfl (Below.refl _ _) trivial
    · -- 7
      intro li a1 W2 hA K hK
      obtain ⟨y35, e35, h35⟩ := hA.val 1 35 (by kernel_rfl) (by kernel_rfl)
      obtain ⟨y37, e37, h37⟩ := hA.val 3 37 (by kernel_rfl) (by kernel_rfl)
      have e39 : a1.tmps.getD 39 undef = .agg #[.int .i64 lo, .int .i64 hi] := hA.val 5 39 (by kernel_rfl) (by kernel_rfl)
      have e40 : a1.tmps.getD 40 undef = .int .i64 mv := hA.val 6 40 (by kernel_rfl) (by kernel_rfl)
      refine opStep none 0 rfl rfl (fun c hc => by cases hc) ?_
      go_simp
      refine (pb_bad h35 h37 HEN.out).mono ?_
      rintro e W3 ⟨rfl, hb3⟩
      exact hK _ _ rfl hb3 trivial
  intro li a1 W2 hD
  have e41 : a1.tmps.getD 41 undef = .bool false := hD.val 7 41 (by kernel_rfl) (by kernel_rfl)
  have hkp2 := hD.keeps (ds := [34, 35, 36, 37, 38, 39, 40, 41, 12]) (by kernel_rfl)
  have hds := hD.size
  have hsz9 : a1.tmps.size = 141 := hD.size
  have hdd := hD.defers
  have hst := hD.st
  refine tail_val (i := 8) (v := .bool false) (W' := W2) none 0 rfl rfl rfl (fun c hc => by cases hc) (by go_simp) (by rw [hsz9]; decide) ?_
  intro a3 s3 d3 f3 o3
  have hkp3 := keeps_then hkp2 o3 (by decide)
  have e := act_mix [34, 35, 36, 37, 38, 39, 40, 41, 12] (s3.trans (hds)) (d3.trans (hdd)) (fun i _ hc => hkp3 i hc)
  have hgg0 : (fun i => a3.tmps.getD i undef) 12 = .bool false := f3
  generalize (fun i => a3.tmps.getD i undef) = g' at e hgg0
  refine wpListIn_nil ?_
  rw [e]
  clear e hD hkp2 hkp3 hds hdd hsz9 s3 d3 f3 o3 e41
  simp only [mix, List.contains_cons, List.contains_nil, Nat.reduceAdd, Nat.reduceBEq, Bool.or_false, Bool.or_true, cond_true, cond_false, hgg0]
  clear hgg0
  have hb := hst
  clear hst
  have HB3 := hid (HB2.out.trans (hb.mono HB2.out.size))
  have HT3 := hid (HT2.out.keep hb)
  have LB3 := hid (LB2.out.keep hb)
  clear hb
  generalize W2 = w3 at *
  obtain ⟨t0, t1, t2, t3⟩ := HT3.out.c4
  obtain ⟨l0, l1⟩ := LB3.out.c2
  have K4 := hid (mfault_any m A c A2 c2 A3 c3 w3 (HH.out.at_ HB3.out).toMIn)
  rw [HC.out] at K4
  go_wp2_with fail
  refine K4.out.mono ?_
  rintro e w4 ⟨rfl, hb⟩
  have HB4 := hid (HB3.out.trans (hb.mono HB3.out.size))
  have HT4 := hid (HT3.out.keep hb)
  have LB4 := hid (LB3.out.keep hb)
  clear hb K4 t0 t1 t2 t3 l0 l1
  obtain ⟨t0, t1, t2, t3⟩ := HT4.out.c4
  obtain ⟨l0, l1⟩ := LB4.out.c2
  have K5 := hid (qin_b lo 0 hi w4)
  rw [HIN.out] at K5
  go_wp2_with fail
  refine K5.out.mono ?_
  rintro e w5 ⟨rfl, hb⟩
  have HB5 := hid (HB4.out.trans (hb.mono HB4.out.size))
  have HT5 := hid (HT4.out.keep hb)
  have LB5 := hid (LB4.out.keep hb)
  clear hb K5 t0 t1 t2 t3 l0 l1
  obtain ⟨t0, t1, t2, t3⟩ := HT5.out.c4
  obtain ⟨l0, l1⟩ := LB5.out.c2
  have K6 := hid (awake_any w5)
  go_wp2_with fail
  refine K6.out.mono ?_
  rintro e w6 ⟨rfl, hb⟩
  have HB6 := hid (HB5.out.trans (hb.mono HB5.out.size))
  have HT6 := hid (HT5.out.keep hb)
  have LB6 := hid (LB5.out.keep hb)
  clear hb K6 t0 t1 t2 t3 l0 l1
  obtain ⟨t0, t1, t2, t3⟩ := HT6.out.c4
  obtain ⟨l0, l1⟩ := LB6.out.c2
  clear t0 t1 t2 t3 l0 l1
  go_wp2
  go_ret
  exact ⟨rfl, HB6.out⟩

set_option maxRecDepth 100000 in
set_option maxHeartbeats 4000000 in
theorem bes_unc (m : MapD) (A : Option Addr) (c : Nat) (A2 : Option Addr) (c2 : Nat) (A3 : Option Addr) (c3 : Nat) (Ax : Option Addr) (cx : Nat) (xs : List Int) (lo hi mv : Int) (w : World) (h : MArg m A c A2 c2 A3 c3 w) (hx : IntsAt (Ax, cx) xs w) (hx0 : Ax = none → cx = 0) (ht : thinM m = true) (hl : ¬ 12 < xs.length) (hc : chkM m = 0) (hr : rngOk lo hi 40000 = true) (hu : cstM m ≠ 0) :
    Calls Try.prog 10 #[.agg #[.slice A m.old.length c, .int .i64 m.nw, .slice A2 m.ss.length c2, .slice A3 m.js.length c3], .slice Ax xs.length cx, .agg #[.int .i64 lo, .int .i64 hi], .int .i64 mv] w fun e w' => e = .returned (.bool true) ∧ Below w.heap.size w w' := by
  have hB := (below_box (w := w) #[.slice A m.old.length c, .int .i64 m.nw, .slice A2 m.ss.length c2, .slice A3 m.js.length c3] 26).alloc (below_box (w := w) #[.slice A m.old.length c, .int .i64 m.nw, .slice A2 m.ss.length c2, .slice A3 m.js.length c3] 26).size (.cells #[.int .i64 lo, .int .i64 hi] 43)
  have hT := (Blk.new w 26 #[.slice A m.old.length c, .int .i64 m.nw, .slice A2 m.ss.length c2, .slice A3 m.js.length c3]).alloc (.cells #[.int .i64 lo, .int .i64 hi] 43)
  have hL := Blk.new (w.alloc (.cells #[.slice A m.old.length c, .int .i64 m.nw, .slice A2 m.ss.length c2, .slice A3 m.js.length c3] 26)) 43 #[.int .i64 lo, .int .i64 hi]
  rw [World.size_alloc] at hL
  have HB0 := hid hB
  have HT0 := hid hT
  have LB0 := hid hL
  have HH := hid h
  obtain ⟨t0, t1, t2, t3⟩ := hT.c4
  obtain ⟨l0, l1⟩ := hL.c2
  clear h hB hT hL
  have HX := hid hx
  have HX0 := hid hx0
  clear hx hx0
  have HTN := hid ht
  have HTH := hid (thinM_iff.1 ht)
  have HLX := hid hl
  have hlB : decide ((12 : Int) < (xs.length : Int)) = false := by simp; omega
  have hz9 : cstM m = 9 := by
    rw [cst_of, if_pos hc] at hu ⊢
    split
    · rename_i h; rw [if_pos h] at hu; exact absurd rfl hu
    · rfl
  have hez : askE m lo hi = 9 := by unfold askE; rw [if_pos hc, if_pos hr, hz9]
  have HEZ := hid hez
  have HEN := hid (show askE m lo hi ≠ 0 by rw [hez]; decide)
  have HC := hid hc
  have HZ := hid hz9
  have hr2 := hr
  unfold rngOk at hr2
  rw [decide_eq_true_eq] at hr2
  have HIN := hid (show inB lo 0 hi = true by unfold inB; rw [decide_eq_true_eq]; omega)
  have hhB : decide ((40000 : Int) < hi) = false := by simp; omega
  clear ht hc hez hr hu hz9 hr2
  go_enter Try.func10, Try.ntmps10
  have K1 := hid (thin_any m A c A2 c2 A3 c3 ((w.alloc (.cells #[.slice A m.old.length c, .int .i64 m.nw, .slice A2 m.ss.length c2, .slice A3 m.js.length c3] 26)).alloc (.cells #[.int .i64 lo, .int .i64 hi] 43)))
  rw [HTN.out] at K1
  go_wp2_with fail
  refine K1.out.mono ?_
  rintro e w1 ⟨rfl, hb⟩
  have HB1 := hid (HB0.out.trans (hb.mono HB0.out.size))
  have HT1 := hid (HT0.out.keep hb)
  have LB1 := hid (LB0.out.keep hb)
  clear hb K1 t0 t1 t2 t3 l0 l1
  obtain ⟨t0, t1, t2, t3⟩ := HT1.out.c4
  obtain ⟨l0, l1⟩ := LB1.out.c2
  clear t0 t1 t2 t3 l0 l1
  go_wp2
  refine (wpIn_wide (n := 0)).1 ?_
  refine wpIn_region_each 11 (fun i v W' => match i with | 0 => v = .agg #[.slice A m.old.length c, .int .i64 m.nw, .slice A2 m.ss.length c2, .slice A3 m.js.length c3] | 1 => ∃ (y : (Option Addr × Nat) × (Option Addr × Nat) × (Option Addr × Nat)), v = .agg #[.slice y.1.1 m.old.length y.1.2, .int .i64 m.nw, .slice y.2.1.1 m.ss.length y.2.1.2, .slice y.2.2.1 m.js.length y.2.2.2] ∧ MIn m y.1.1 y.1.2 y.2.1.1 y.2.1.2 y.2.2.1 y.2.2.2 W' | 2 => v = .agg #[.int .i64 lo, .int .i64 hi] | 3 => v = .agg #[.int .i64 lo, .int .i64 hi] | 4 => v = .tuple #[.slice none 0 0, .int .i64 0, .int .i64 9] | 5 => v = .tuple #[.slice none 0 0, .int .i64 0, .int .i64 9] | 6 => v = .slice none 0 0 | 7 => v = .int .i64 0 | 8 => v = .int .i64 9 | 9 => v = .slice none 0 0 | 10 => v = .int .i64 0 | _ => True) (fun A B => Below A.heap.size A B) (fun _ _ => True) (by kernel_rfl) (by kernel_rfl) ?_ (fun h k => h.trans (k.mono h.size)) ⟨rfl, rfl, rfl, Nat.le_refl _, fun _ _ => rfl⟩ trivial (by kernel_rfl) ?_ ?_
  · intro i v W1 W2 hb h
    match i, h with
    | 0, h => exact h
    | 1, h =>
      obtain ⟨y, rfl, h1⟩ := h
      exact ⟨_, rfl, h1.at_ hb⟩
    | 2, h => exact h
    | 3, h => exact h
    | 4, h => exact h
    | 5, h => exact h
    | 6, h => exact h
    | 7, h => exact h
    | 8, h => exact h
    | 9, h => exact h
    | 10, h => exact h
    | i + 11, h => trivial
  · refine ⟨?_, ?_, ?_, ?_, ?_, ?_, ?_, ?_, ?_, ?_, ?_, trivial⟩
    · -- 0
      intro li a1 W2 hA K hK
      have e4 := hA.par 4 (by kernel_rfl)
      obtain ⟨q1, q2, q3, q4⟩ := (HT1.out.keep hA.st).c4
      refine opStep none 0 rfl rfl (fun c hc => by cases hc) ?_
      go_simp
      exact hK _ _ rfl (Below.refl _ _) trivial
    · -- 1
      intro li a1 W2 hA K hK
      have e26 : a1.tmps.getD 26 undef = .agg #[.slice A m.old.length c, .int .i64 m.nw, .slice A2 m.ss.length c2, .slice A3 m.js.length c3] := hA.val 0 26 (by kernel_rfl) (by kernel_rfl)
      refine opStep none 0 rfl rfl (fun c hc => by cases hc) ?_
      go_simp
      refine (map_thin (HH.out.at_ (HB1.out.trans (hA.st.mono HB1.out.size))) HTH.out).mono ?_
      rintro e W3 ⟨P, Q, R, rfl, hy, hb3⟩
      exact hK _ _ ⟨(P, Q, R), rfl, hy⟩ hb3 trivial
    · -- 2
      intro li a1 W2 hA K hK
      have e6 := hA.par 6 (by kernel_rfl)
      obtain ⟨q1, q2⟩ := (LB1.out.keep hA.st).c2
      refine opStep none 0 rfl rfl (fun c hc => by cases hc) ?_
      go_simp
      exact hK _ _ rfl (Below.refl _ _) trivial
    · -- 3
      intro li a1 W2 hA K hK
      have e28 : a1.tmps.getD 28 undef = .agg #[.int .i64 lo, .int .i64 hi] := hA.val 2 28 (by kernel_rfl) (by kernel_rfl)
      refine opStep none 0 rfl rfl (fun c hc => by cases hc) ?_
      go_simp
      refine (to_any lo hi W2).mono ?_
      rintro e W3 ⟨rfl, hb3⟩
      exact hK _ _ rfl hb3 trivial
    · -- 4
      intro li a1 W2 hA K hK
      obtain ⟨y27, e27, h27⟩ := hA.val 1 27 (by kernel_rfl) (by kernel_rfl)
      have e29 : a1.tmps.getD 29 undef = .agg #[.int .i64 lo, .int .i64 hi] := hA.val 3 29 (by kernel_rfl) (by kernel_rfl)
      refine opStep none 0 rfl rfl (fun c hc => by cases hc) ?_
      go_simp
      have KM := hid (bbest_bad m y27.1.1 y27.1.2 y27.2.1.1 y27.2.1.2 y27.2.2.1 y27.2.2.2 lo hi W2 h27 HEN.out)
      rw [HEZ.out] at KM
      refine KM.out.mono ?_
      rintro e W3 ⟨rfl, hb3⟩
      exact hK _ _ rfl hb3 trivial
    · -- 5
      intro li a1 W2 hA K hK
      have e30 : a1.tmps.getD 30 undef = .tuple #[.slice none 0 0, .int .i64 0, .int .i64 9] := hA.val 4 30 (by kernel_rfl) (by kernel_rfl)
      refine opStep none 0 rfl rfl (fun c hc => by cases hc) ?_
      go_simp
      exact hK _ _ rfl (Below.refl _ _) trivial
    · -- 6
      intro li a1 W2 hA K hK
      have e25 : a1.tmps.getD 25 undef = .tuple #[.slice none 0 0, .int .i64 0, .int .i64 9] := hA.val 5 25 (by kernel_rfl) (by kernel_rfl)
      refine opStep none 0 rfl rfl (fun c hc => by cases hc) ?_
      go_simp
      exact hK _ _ rfl (Below.refl _ _) trivial
    · -- 7
      intro li a1 W2 hA K hK
      have e25 : a1.tmps.getD 25 undef = .tuple #[.slice none 0 0, .int .i64 0, .int .i64 9] := hA.val 5 25 (by kernel_rfl) (by kernel_rfl)
      refine opStep none 0 rfl rfl (fun c hc => by cases hc) ?_
      go_simp
      exact hK _ _ rfl (Below.refl _ _) trivial
    · -- 8
      intro li a1 W2 hA K hK
      have e25 : a1.tmps.getD 25 undef = .tuple #[.slice none 0 0, .int .i64 0, .int .i64 9] := hA.val 5 25 (by kernel_rfl) (by kernel_rfl)
      refine opStep none 0 rfl rfl (fun c hc => by cases hc) ?_
      go_simp
      exact hK _ _ rfl (Below.refl _ _) trivial
    · -- 9
      intro li a1 W2 hA K hK
      have e31 : a1.tmps.getD 31 undef = .slice none 0 0 := hA.val 6 31 (by kernel_rfl) (by kernel_rfl)
      refine opStep none 0 rfl rfl (fun c hc => by cases hc) ?_
      go_simp
      exact hK _ _ rfl (Below.refl _ _) trivial
    · -- 10
      intro li a1 W2 hA K hK
      have e32 : a1.tmps.getD 32 undef = .int .i64 0 := hA.val 7 32 (by kernel_rfl) (by kernel_rfl)
      refine opStep none 0 rfl rfl (fun c hc => by cases hc) ?_
      go_simp
      exact hK _ _ rfl (Below.refl _ _) trivial
  intro li a1 W2 hD
  have e9 : a1.tmps.getD 9 undef = .slice none 0 0 := hD.val 9 9 (by kernel_rfl) (by kernel_rfl)
  have e10 : a1.tmps.getD 10 undef = .int .i64 0 := hD.val 10 10 (by kernel_rfl) (by kernel_rfl)
  have e33 : a1.tmps.getD 33 undef = .int .i64 9 := hD.val 8 33 (by kernel_rfl) (by kernel_rfl)
  have hkp2 := hD.keeps (ds := [26, 27, 28, 29, 30, 25, 31, 32, 33, 9, 10, 11]) (by kernel_rfl)
  have hds := hD.size
  have hsz9 : a1.tmps.size = 141 := hD.size
  have hdd := hD.defers
  have hst := hD.st
  refine tail_val (i := 11) (v := .int .i64 9) (W' := W2) none 0 rfl rfl rfl (fun c hc => by cases hc) (by go_simp) (by rw [hsz9]; decide) ?_
  intro a3 s3 d3 f3 o3
  have hkp3 := keeps_then hkp2 o3 (by decide)
  have e := act_mix [26, 27, 28, 29, 30, 25, 31, 32, 33, 9, 10, 11] (s3.trans (hds)) (d3.trans (hdd)) (fun i _ hc => hkp3 i hc)
  have hgg0 : (fun i => a3.tmps.getD i undef) 11 = .int .i64 9 := f3
  have hgk9 : (fun i => a3.tmps.getD i undef) 9 = .slice none 0 0 := (o3 9 (by decide)).trans (e9)
  have hgk10 : (fun i => a3.tmps.getD i undef) 10 = .int .i64 0 := (o3 10 (by decide)).trans (e10)
  generalize (fun i => a3.tmps.getD i undef) = g' at e hgg0 hgk9 hgk10
  refine wpListIn_nil ?_
  rw [e]
  clear e hD hkp2 hkp3 hds hdd hsz9 s3 d3 f3 o3 e33 e9 e10
  simp only [mix, List.contains_cons, List.contains_nil, Nat.reduceAdd, Nat.reduceBEq, Bool.or_false, Bool.or_true, cond_true, cond_false, hgg0, hgk9, hgk10]
  clear hgg0 hgk9 hgk10
  have hb := hst
  clear hst
  have HB2 := hid (HB1.out.trans (hb.mono HB1.out.size))
  have HT2 := hid (HT1.out.keep hb)
  have LB2 := hid (LB1.out.keep hb)
  clear hb
  generalize W2 = w2 at *
  obtain ⟨t0, t1, t2, t3⟩ := HT2.out.c4
  obtain ⟨l0, l1⟩ := LB2.out.c2
  clear t0 t1 t2 t3 l0 l1
  go_wp2
  refine (wpIn_wide (n := 0)).1 ?_
  refine wpIn_region_each 8 (fun i v W' => match i with | 0 => v = .agg #[.slice A m.old.length c, .int .i64 m.nw, .slice A2 m.ss.length c2, .slice A3 m.js.length c3] | 1 => ∃ (y : (Option Addr × Nat) × (Option Addr × Nat) × (Option Addr × Nat)), v = .agg #[.slice y.1.1 m.old.length y.1.2, .int .i64 m.nw, .slice y.2.1.1 m.ss.length y.2.1.2, .slice y.2.2.1 m.js.length y.2.2.2] ∧ MIn m y.1.1 y.1.2 y.2.1.1 y.2.1.2 y.2.2.1 y.2.2.2 W' | 2 => v = .slice Ax xs.length cx | 3 => ∃ (y : Option Addr × Nat), v = .slice y.1 xs.length y.2 ∧ IntsAt y xs W' | 4 => v = .agg #[.int .i64 lo, .int .i64 hi] | 5 => v = .agg #[.int .i64 lo, .int .i64 hi] | 6 => v = .int .i64 mv | 7 => v = .bool false | _ => True) (fun A B => Below A.heap.size A B) (fun _ _ => True) (by kernel_rfl) (by kernel_rfl) ?_ (fun h k => h.trans (k.mono h.size)) ⟨rfl, rfl, rfl, Nat.le_refl _, fun _ _ => rfl⟩ trivial (by kernel_rfl) ?_ ?_
  · intro i v W1 W2 hb h
    match i, h with
    | 0, h => exact h
    | 1, h =>
      obtain ⟨y, rfl, h1⟩ := h
      exact ⟨_, rfl, h1.at_ hb⟩
    | 2, h => exact h
    | 3, h =>
      obtain ⟨y, rfl, h1⟩ := h
      exact ⟨_, rfl, h1.at_ hb⟩
    | 4, h => exact h
    | 5, h => exact h
    | 6, h => exact h
    | 7, h => exact h
    | i + 8, h => trivial
  · refine ⟨?_, ?_, ?_, ?_, ?_, ?_, ?_, ?_, trivial⟩
    · -- 0
      intro li a1 W2 hA K hK
      have e4 := hA.par 4 (by kernel_rfl)
      obtain ⟨q1, q2, q3, q4⟩ := (HT2.out.keep hA.st).c4
      refine opStep none 0 rfl rfl (fun c hc => by cases hc) ?_
      go_simp
      exact hK _ _ rfl (Below.refl _ _) trivial
    · -- 1
      intro li a1 W2 hA K hK
      have e34 : a1.tmps.getD 34 undef = .agg #[.slice A m.old.length c, .int .i64 m.nw, .slice A2 m.ss.length c2, .slice A3 m.js.length c3] := hA.val 0 34 (by kernel_rfl) (by kernel_rfl)
      refine opStep none 0 rfl rfl (fun c hc => by cases hc) ?_
      go_simp
      refine (map_thin (HH.out.at_ (HB2.out.trans (hA.st.mono HB2.out.size))) HTH.out).mono ?_
      rintro e W3 ⟨P, Q, R, rfl, hy, hb3⟩
      exact hK _ _ ⟨(P, Q, R), rfl, hy⟩ hb3 trivial
    · -- 2
      intro li a1 W2 hA K hK
      have e1 := hA.par 1 (by kernel_rfl)
      refine opStep none 0 rfl rfl (fun c hc => by cases hc) ?_
      go_simp
      exact hK _ _ rfl (Below.refl _ _) trivial
    · -- 3
      intro li a1 W2 hA K hK
      have e36 : a1.tmps.getD 36 undef = .slice Ax xs.length cx := hA.val 2 36 (by kernel_rfl) (by kernel_rfl)
      refine opStep none 0 rfl rfl (fun c hc => by cases hc) ?_
      go_simp
      refine (lst_i (HX.out.at_ (HB2.out.trans (hA.st.mono HB2.out.size))) HX0.out (by have := HLX.out; omega)).mono ?_
      rintro e W3 ⟨y, rfl, hy, hb3⟩
      exact hK _ _ ⟨y, rfl, hy⟩ hb3 trivial
    · -- 4
      intro li a1 W2 hA K hK
      have e6 := hA.par 6 (by kernel_rfl)
      obtain ⟨q1, q2⟩ := (LB2.out.keep hA.st).c2
      refine opStep none 0 rfl rfl (fun c hc => by cases hc) ?_
      go_simp
      exact hK _ _ rfl (Below.refl _ _) trivial
    · -- 5
      intro li a1 W2 hA K hK
      have e38 : a1.tmps.getD 38 undef = .agg #[.int .i64 lo, .int .i64 hi] := hA.val 4 38 (by kernel_rfl) (by kernel_rfl)
      refine opStep none 0 rfl rfl (fun c hc => by cases hc) ?_
      go_simp
      refine (to_any lo hi W2).mono ?_
      rintro e W3 ⟨rfl, hb3⟩
      exact hK _ _ rfl hb3 trivial
    · -- 6
      intro li a1 W2 hA K hK
      have e3 := hA.par 3 (by kernel_rfl)
      refine opStep none 0 rfl rfl (fun c hc => by cases hc) ?_
      go_simp
      exact hK _ _ rfl (Below.refl _ _) trivial
    · -- 7
      intro li a1 W2 hA K hK
      obtain ⟨y35, e35, h35⟩ := hA.val 1 35 (by kernel_rfl) (by kernel_rfl)
      obtain ⟨y37, e37, h37⟩ := hA.val 3 37 (by kernel_rfl) (by kernel_rfl)
      have e39 : a1.tmps.getD 39 undef = .agg #[.int .i64 lo, .int .i64 hi] := hA.val 5 39 (by kernel_rfl) (by kernel_rfl)
      have e40 : a1.tmps.getD 40 undef = .int .i64 mv := hA.val 6 40 (by kernel_rfl) (by kernel_rfl)
      refine opStep none 0 rfl rfl (fun c hc => by cases hc) ?_
      go_simp
      refine (pb_bad h35 h37 HEN.out).mono ?_
      rintro e W3 ⟨rfl, hb3⟩
      exact hK _ _ rfl hb3 trivial
  intro li a1 W2 hD
  have e41 : a1.tmps.getD 41 undef = .bool false := hD.val 7 41 (by kernel_rfl) (by kernel_rfl)
  have hkp2 := hD.keeps (ds := [34, 35, 36, 37, 38, 39, 40, 41, 12]) (by kernel_rfl)
  have hds := hD.size
  have hsz9 : a1.tmps.size = 141 := hD.size
  have hdd := hD.defers
  have hst := hD.st
  refine tail_val (i := 8) (v := .bool false) (W' := W2) none 0 rfl rfl rfl (fun c hc => by cases hc) (by go_simp) (by rw [hsz9]; decide) ?_
  intro a3 s3 d3 f3 o3
  have hkp3 := keeps_then hkp2 o3 (by decide)
  have e := act_mix [34, 35, 36, 37, 38, 39, 40, 41, 12] (s3.trans (hds)) (d3.trans (hdd)) (fun i _ hc => hkp3 i hc)
  have hgg0 : (fun i => a3.tmps.getD i undef) 12 = .bool false := f3
  generalize (fun i => a3.tmps.getD i undef) = g' at e hgg0
  refine wpListIn_nil ?_
  rw [e]
  clear e hD hkp2 hkp3 hds hdd hsz9 s3 d3 f3 o3 e41
  simp only [mix, List.contains_cons, List.contains_nil, Nat.reduceAdd, Nat.reduceBEq, Bool.or_false, Bool.or_true, cond_true, cond_false, hgg0]
  clear hgg0
  have hb := hst
  clear hst
  have HB3 := hid (HB2.out.trans (hb.mono HB2.out.size))
  have HT3 := hid (HT2.out.keep hb)
  have LB3 := hid (LB2.out.keep hb)
  clear hb
  generalize W2 = w3 at *
  obtain ⟨t0, t1, t2, t3⟩ := HT3.out.c4
  obtain ⟨l0, l1⟩ := LB3.out.c2
  have K4 := hid (mfault_any m A c A2 c2 A3 c3 w3 (HH.out.at_ HB3.out).toMIn)
  rw [HC.out] at K4
  go_wp2_with fail
  refine K4.out.mono ?_
  rintro e w4 ⟨rfl, hb⟩
  have HB4 := hid (HB3.out.trans (hb.mono HB3.out.size))
  have HT4 := hid (HT3.out.keep hb)
  have LB4 := hid (LB3.out.keep hb)
  clear hb K4 t0 t1 t2 t3 l0 l1
  obtain ⟨t0, t1, t2, t3⟩ := HT4.out.c4
  obtain ⟨l0, l1⟩ := LB4.out.c2
  have K5 := hid (qin_b lo 0 hi w4)
  rw [HIN.out] at K5
  go_wp2_with fail
  refine K5.out.mono ?_
  rintro e w5 ⟨rfl, hb⟩
  have HB5 := hid (HB4.out.trans (hb.mono HB4.out.size))
  have HT5 := hid (HT4.out.keep hb)
  have LB5 := hid (LB4.out.keep hb)
  clear hb K5 t0 t1 t2 t3 l0 l1
  obtain ⟨t0, t1, t2, t3⟩ := HT5.out.c4
  obtain ⟨l0, l1⟩ := LB5.out.c2
  have K6 := hid (mconsist_any m A c A2 c2 A3 c3 w5 (HH.out.at_ HB5.out).toMIn)
  rw [HZ.out] at K6
  go_wp2_with fail
  refine K6.out.mono ?_
  rintro e w6 ⟨rfl, hb⟩
  have HB6 := hid (HB5.out.trans (hb.mono HB5.out.size))
  have HT6 := hid (HT5.out.keep hb)
  have LB6 := hid (LB5.out.keep hb)
  clear hb K6 t0 t1 t2 t3 l0 l1
  obtain ⟨t0, t1, t2, t3⟩ := HT6.out.c4
  obtain ⟨l0, l1⟩ := LB6.out.c2
  have K7 := hid (awake_any w6)
  go_wp2_with fail
  refine K7.out.mono ?_
  rintro e w7 ⟨rfl, hb⟩
  have HB7 := hid (HB6.out.trans (hb.mono HB6.out.size))
  have HT7 := hid (HT6.out.keep hb)
  have LB7 := hid (LB6.out.keep hb)
  clear hb K7 t0 t1 t2 t3 l0 l1
  obtain ⟨t0, t1, t2, t3⟩ := HT7.out.c4
  obtain ⟨l0, l1⟩ := LB7.out.c2
  clear t0 t1 t2 t3 l0 l1
  go_wp2
  go_ret
  exact ⟨rfl, HB7.out⟩

set_option maxRecDepth 100000 in
set_option maxHeartbeats 8000000 in
theorem bes_none (m : MapD) (A : Option Addr) (c : Nat) (A2 : Option Addr) (c2 : Nat) (A3 : Option Addr) (c3 : Nat) (Ax : Option Addr) (cx : Nat) (xs : List Int) (lo hi mv : Int) (w : World) (h : MArg m A c A2 c2 A3 c3 w) (hx : IntsAt (Ax, cx) xs w) (hx0 : Ax = none → cx = 0) (ht : thinM m = true) (hl : ¬ 12 < xs.length) (hr : rngOk lo hi 40000 = true) (hu : cstM m = 0) (b : Bool) (his : isB m xs lo hi mv = b) (hbb : bestB m lo hi = none) :
    Calls Try.prog 10 #[.agg #[.slice A m.old.length c, .int .i64 m.nw, .slice A2 m.ss.length c2, .slice A3 m.js.length c3], .slice Ax xs.length cx, .agg #[.int .i64 lo, .int .i64 hi], .int .i64 mv] w fun e w' => e = .returned (.bool true) ∧ Below w.heap.size w w' := by
  have hB := (below_box (w := w) #[.slice A m.old.length c, .int .i64 m.nw, .slice A2 m.ss.length c2, .slice A3 m.js.length c3] 26).alloc (below_box (w := w) #[.slice A m.old.length c, .int .i64 m.nw, .slice A2 m.ss.length c2, .slice A3 m.js.length c3] 26).size (.cells #[.int .i64 lo, .int .i64 hi] 43)
  have hT := (Blk.new w 26 #[.slice A m.old.length c, .int .i64 m.nw, .slice A2 m.ss.length c2, .slice A3 m.js.length c3]).alloc (.cells #[.int .i64 lo, .int .i64 hi] 43)
  have hL := Blk.new (w.alloc (.cells #[.slice A m.old.length c, .int .i64 m.nw, .slice A2 m.ss.length c2, .slice A3 m.js.length c3] 26)) 43 #[.int .i64 lo, .int .i64 hi]
  rw [World.size_alloc] at hL
  have HB0 := hid hB
  have HT0 := hid hT
  have LB0 := hid hL
  have HH := hid h
  obtain ⟨t0, t1, t2, t3⟩ := hT.c4
  obtain ⟨l0, l1⟩ := hL.c2
  clear h hB hT hL
  have HX := hid hx
  have HX0 := hid hx0
  clear hx hx0
  have HTN := hid ht
  have HTH := hid (thinM_iff.1 ht)
  have HLX := hid hl
  have hlB : decide ((12 : Int) < (xs.length : Int)) = false := by simp; omega
  have HZ := hid hu
  have HC := hid (cst_ok hu).1
  have HE0 := hid (show askE m lo hi = 0 by unfold askE; rw [if_pos (cst_ok hu).1, if_pos hr, hu])
  have OK := hid (chk_okm (cst_ok hu).1)
  have HBB := hid hbb
  have hr2 := hr
  unfold rngOk at hr2
  rw [decide_eq_true_eq] at hr2
  have HIN := hid (show inB lo 0 hi = true by unfold inB; rw [decide_eq_true_eq]; omega)
  have hhB : decide ((40000 : Int) < hi) = false := by simp; omega
  have HIS := hid his
  obtain ⟨mN, hmN⟩ : ∃ z, movN m (fnO xs) xs.length = z := ⟨_, rfl⟩
  have HMN := hid hmN
  clear ht hr hu hr2 hbb his hmN
  go_enter Try.func10, Try.ntmps10
  have K1 := hid (thin_any m A c A2 c2 A3 c3 ((w.alloc (.cells #[.slice A m.old.length c, .int .i64 m.nw, .slice A2 m.ss.length c2, .slice A3 m.js.length c3] 26)).alloc (.cells #[.int .i64 lo, .int .i64 hi] 43)))
  rw [HTN.out] at K1
  go_wp2_with fail
  refine K1.out.mono ?_
  rintro e w1 ⟨rfl, hb⟩
  have HB1 := hid (HB0.out.trans (hb.mono HB0.out.size))
  have HT1 := hid (HT0.out.keep hb)
  have LB1 := hid (LB0.out.keep hb)
  clear hb K1 t0 t1 t2 t3 l0 l1
  obtain ⟨t0, t1, t2, t3⟩ := HT1.out.c4
  obtain ⟨l0, l1⟩ := LB1.out.c2
  clear t0 t1 t2 t3 l0 l1
  go_wp2
  refine (wpIn_wide (n := 0)).1 ?_
  refine wpIn_region_each 11 (fun i v W' => match i with | 0 => v = .agg #[.slice A m.old.length c, .int .i64 m.nw, .slice A2 m.ss.length c2, .slice A3 m.js.length c3] | 1 => ∃ (y : (Option Addr × Nat) × (Option Addr × Nat) × (Option Addr × Nat)), v = .agg #[.slice y.1.1 m.old.length y.1.2, .int .i64 m.nw, .slice y.2.1.1 m.ss.length y.2.1.2, .slice y.2.2.1 m.js.length y.2.2.2] ∧ MIn m y.1.1 y.1.2 y.2.1.1 y.2.1.2 y.2.2.1 y.2.2.2 W' | 2 => v = .agg #[.int .i64 lo, .int .i64 hi] | 3 => v = .agg #[.int .i64 lo, .int .i64 hi] | 4 => v = .tuple #[.slice none 0 0, .int .i64 0, .int .i64 7] | 5 => v = .tuple #[.slice none 0 0, .int .i64 0, .int .i64 7] | 6 => v = .slice none 0 0 | 7 => v = .int .i64 0 | 8 => v = .int .i64 7 | 9 => v = .slice none 0 0 | 10 => v = .int .i64 0 | _ => True) (fun A B => Below A.heap.size A B) (fun _ _ => True) (by kernel_rfl) (by kernel_rfl) ?_ (fun h k => h.trans (k.mono h.size)) ⟨rfl, rfl, rfl, Nat.le_refl _, fun _ _ => rfl⟩ trivial (by kernel_rfl) ?_ ?_
  · intro i v W1 W2 hb h
    match i, h with
    | 0, h => exact h
    | 1, h =>
      obtain ⟨y, rfl, h1⟩ := h
      exact ⟨_, rfl, h1.at_ hb⟩
    | 2, h => exact h
    | 3, h => exact h
    | 4, h => exact h
    | 5, h => exact h
    | 6, h => exact h
    | 7, h => exact h
    | 8, h => exact h
    | 9, h => exact h
    | 10, h => exact h
    | i + 11, h => trivial
  · refine ⟨?_, ?_, ?_, ?_, ?_, ?_, ?_, ?_, ?_, ?_, ?_, trivial⟩
    · -- 0
      intro li a1 W2 hA K hK
      have e4 := hA.par 4 (by kernel_rfl)
      obtain ⟨q1, q2, q3, q4⟩ := (HT1.out.keep hA.st).c4
      refine opStep none 0 rfl rfl (fun c hc => by cases hc) ?_
      go_simp
      exact hK _ _ rfl (Below.refl _ _) trivial
    · -- 1
      intro li a1 W2 hA K hK
      have e26 : a1.tmps.getD 26 undef = .agg #[.slice A m.old.length c, .int .i64 m.nw, .slice A2 m.ss.length c2, .slice A3 m.js.length c3] := hA.val 0 26 (by kernel_rfl) (by kernel_rfl)
      refine opStep none 0 rfl rfl (fun c hc => by cases hc) ?_
      go_simp
      refine (map_thin (HH.out.at_ (HB1.out.trans (hA.st.mono HB1.out.size))) HTH.out).mono ?_
      rintro e W3 ⟨P, Q, R, rfl, hy, hb3⟩
      exact hK _ _ ⟨(P, Q, R), rfl, hy⟩ hb3 trivial
    · -- 2
      intro li a1 W2 hA K hK
      have e6 := hA.par 6 (by kernel_rfl)
      obtain ⟨q1, q2⟩ := (LB1.out.keep hA.st).c2
      refine opStep none 0 rfl rfl (fun c hc => by cases hc) ?_
      go_simp
      exact hK _ _ rfl (Below.refl _ _) trivial
    · -- 3
      intro li a1 W2 hA K hK
      have e28 : a1.tmps.getD 28 undef = .agg #[.int .i64 lo, .int .i64 hi] := hA.val 2 28 (by kernel_rfl) (by kernel_rfl)
      refine opStep none 0 rfl rfl (fun c hc => by cases hc) ?_
      go_simp
      refine (to_any lo hi W2).mono ?_
      rintro e W3 ⟨rfl, hb3⟩
      exact hK _ _ rfl hb3 trivial
    · -- 4
      intro li a1 W2 hA K hK
      obtain ⟨y27, e27, h27⟩ := hA.val 1 27 (by kernel_rfl) (by kernel_rfl)
      have e29 : a1.tmps.getD 29 undef = .agg #[.int .i64 lo, .int .i64 hi] := hA.val 3 29 (by kernel_rfl) (by kernel_rfl)
      refine opStep none 0 rfl rfl (fun c hc => by cases hc) ?_
      go_simp
      refine (best_no h27 HE0.out HBB.out).mono ?_
      rintro e W3 ⟨rfl, hb3⟩
      exact hK _ _ rfl hb3 trivial
    · -- 5
      intro li a1 W2 hA K hK
      have e30 : a1.tmps.getD 30 undef = .tuple #[.slice none 0 0, .int .i64 0, .int .i64 7] := hA.val 4 30 (by kernel_rfl) (by kernel_rfl)
      refine opStep none 0 rfl rfl (fun c hc => by cases hc) ?_
      go_simp
      exact hK _ _ rfl (Below.refl _ _) trivial
    · -- 6
      intro li a1 W2 hA K hK
      have e25 : a1.tmps.getD 25 undef = .tuple #[.slice none 0 0, .int .i64 0, .int .i64 7] := hA.val 5 25 (by kernel_rfl) (by kernel_rfl)
      refine opStep none 0 rfl rfl (fun c hc => by cases hc) ?_
      go_simp
      exact hK _ _ rfl (Below.refl _ _) trivial
    · -- 7
      intro li a1 W2 hA K hK
      have e25 : a1.tmps.getD 25 undef = .tuple #[.slice none 0 0, .int .i64 0, .int .i64 7] := hA.val 5 25 (by kernel_rfl) (by kernel_rfl)
      refine opStep none 0 rfl rfl (fun c hc => by cases hc) ?_
      go_simp
      exact hK _ _ rfl (Below.refl _ _) trivial
    · -- 8
      intro li a1 W2 hA K hK
      have e25 : a1.tmps.getD 25 undef = .tuple #[.slice none 0 0, .int .i64 0, .int .i64 7] := hA.val 5 25 (by kernel_rfl) (by kernel_rfl)
      refine opStep none 0 rfl rfl (fun c hc => by cases hc) ?_
      go_simp
      exact hK _ _ rfl (Below.refl _ _) trivial
    · -- 9
      intro li a1 W2 hA K hK
      have e31 : a1.tmps.getD 31 undef = .slice none 0 0 := hA.val 6 31 (by kernel_rfl) (by kernel_rfl)
      refine opStep none 0 rfl rfl (fun c hc => by cases hc) ?_
      go_simp
      exact hK _ _ rfl (Below.refl _ _) trivial
    · -- 10
      intro li a1 W2 hA K hK
      have e32 : a1.tmps.getD 32 undef = .int .i64 0 := hA.val 7 32 (by kernel_rfl) (by kernel_rfl)
      refine opStep none 0 rfl rfl (fun c hc => by cases hc) ?_
      go_simp
      exact hK _ _ rfl (Below.refl _ _) trivial
  intro li a1 W2 hD
  have e9 : a1.tmps.getD 9 undef = .slice none 0 0 := hD.val 9 9 (by kernel_rfl) (by kernel_rfl)
  have e10 : a1.tmps.getD 10 undef = .int .i64 0 := hD.val 10 10 (by kernel_rfl) (by kernel_rfl)
  have e33 : a1.tmps.getD 33 undef = .int .i64 7 := hD.val 8 33 (by kernel_rfl) (by kernel_rfl)
  have hkp2 := hD.keeps (ds := [26, 27, 28, 29, 30, 25, 31, 32, 33, 9, 10, 11]) (by kernel_rfl)
  have hds := hD.size
  have hsz9 : a1.tmps.size = 141 := hD.size
  have hdd := hD.defers
  have hst := hD.st
  refine tail_val (i := 11) (v := .int .i64 7) (W' := W2) none 0 rfl rfl rfl (fun c hc => by cases hc) (by go_simp) (by rw [hsz9]; decide) ?_
  intro a3 s3 d3 f3 o3
  have hkp3 := keeps_then hkp2 o3 (by decide)
  have e := act_mix [26, 27, 28, 29, 30, 25, 31, 32, 33, 9, 10, 11] (s3.trans (hds)) (d3.trans (hdd)) (fun i _ hc => hkp3 i hc)
  have hgg0 : (fun i => a3.tmps.getD i undef) 11 = .int .i64 7 := f3
  have hgk9 : (fun i => a3.tmps.getD i undef) 9 = .slice none 0 0 := (o3 9 (by decide)).trans (e9)
  have hgk10 : (fun i => a3.tmps.getD i undef) 10 = .int .i64 0 := (o3 10 (by decide)).trans (e10)
  generalize (fun i => a3.tmps.getD i undef) = g' at e hgg0 hgk9 hgk10
  refine wpListIn_nil ?_
  rw [e]
  clear e hD hkp2 hkp3 hds hdd hsz9 s3 d3 f3 o3 e33 e9 e10
  simp only [mix, List.contains_cons, List.contains_nil, Nat.reduceAdd, Nat.reduceBEq, Bool.or_false, Bool.or_true, cond_true, cond_false, hgg0, hgk9, hgk10]
  clear hgg0 hgk9 hgk10
  have hb := hst
  clear hst
  have HB2 := hid (HB1.out.trans (hb.mono HB1.out.size))
  have HT2 := hid (HT1.out.keep hb)
  have LB2 := hid (LB1.out.keep hb)
  clear hb
  generalize W2 = w2 at *
  obtain ⟨t0, t1, t2, t3⟩ := HT2.out.c4
  obtain ⟨l0, l1⟩ := LB2.out.c2
  clear t0 t1 t2 t3 l0 l1
  go_wp2
  refine (wpIn_wide (n := 0)).1 ?_
  refine wpIn_region_each 8 (fun i v W' => match i with | 0 => v = .agg #[.slice A m.old.length c, .int .i64 m.nw, .slice A2 m.ss.length c2, .slice A3 m.js.length c3] | 1 => ∃ (y : (Option Addr × Nat) × (Option Addr × Nat) × (Option Addr × Nat)), v = .agg #[.slice y.1.1 m.old.length y.1.2, .int .i64 m.nw, .slice y.2.1.1 m.ss.length y.2.1.2, .slice y.2.2.1 m.js.length y.2.2.2] ∧ MIn m y.1.1 y.1.2 y.2.1.1 y.2.1.2 y.2.2.1 y.2.2.2 W' | 2 => v = .slice Ax xs.length cx | 3 => ∃ (y : Option Addr × Nat), v = .slice y.1 xs.length y.2 ∧ IntsAt y xs W' | 4 => v = .agg #[.int .i64 lo, .int .i64 hi] | 5 => v = .agg #[.int .i64 lo, .int .i64 hi] | 6 => v = .int .i64 mv | 7 => v = .bool b | _ => True) (fun A B => Below A.heap.size A B) (fun _ _ => True) (by kernel_rfl) (by kernel_rfl) ?_ (fun h k => h.trans (k.mono h.size)) ⟨rfl, rfl, rfl, Nat.le_refl _, fun _ _ => rfl⟩ trivial (by kernel_rfl) ?_ ?_
  · intro i v W1 W2 hb h
    match i, h with
    | 0, h => exact h
    | 1, h =>
      obtain ⟨y, rfl, h1⟩ := h
      exact ⟨_, rfl, h1.at_ hb⟩
    | 2, h => exact h
    | 3, h =>
      obtain ⟨y, rfl, h1⟩ := h
      exact ⟨_, rfl, h1.at_ hb⟩
    | 4, h => exact h
    | 5, h => exact h
    | 6, h => exact h
    | 7, h => exact h
    | i + 8, h => trivial
  · refine ⟨?_, ?_, ?_, ?_, ?_, ?_, ?_, ?_, trivial⟩
    · -- 0
      intro li a1 W2 hA K hK
      have e4 := hA.par 4 (by kernel_rfl)
      obtain ⟨q1, q2, q3, q4⟩ := (HT2.out.keep hA.st).c4
      refine opStep none 0 rfl rfl (fun c hc => by cases hc) ?_
      go_simp
      exact hK _ _ rfl (Below.refl _ _) trivial
    · -- 1
      intro li a1 W2 hA K hK
      have e34 : a1.tmps.getD 34 undef = .agg #[.slice A m.old.length c, .int .i64 m.nw, .slice A2 m.ss.length c2, .slice A3 m.js.length c3] := hA.val 0 34 (by kernel_rfl) (by kernel_rfl)
      refine opStep none 0 rfl rfl (fun c hc => by cases hc) ?_
      go_simp
      refine (map_thin (HH.out.at_ (HB2.out.trans (hA.st.mono HB2.out.size))) HTH.out).mono ?_
      rintro e W3 ⟨P, Q, R, rfl, hy, hb3⟩
      exact hK _ _ ⟨(P, Q, R), rfl, hy⟩ hb3 trivial
    · -- 2
      intro li a1 W2 hA K hK
      have e1 := hA.par 1 (by kernel_rfl)
      refine opStep none 0 rfl rfl (fun c hc => by cases hc) ?_
      go_simp
      exact hK _ _ rfl (Below.refl _ _) trivial
    · -- 3
      intro li a1 W2 hA K hK
      have e36 : a1.tmps.getD 36 undef = .slice Ax xs.length cx := hA.val 2 36 (by kernel_rfl) (by kernel_rfl)
      refine opStep none 0 rfl rfl (fun c hc => by cases hc) ?_
      go_simp
      refine (lst_i (HX.out.at_ (HB2.out.trans (hA.st.mono HB2.out.size))) HX0.out (by have := HLX.out; omega)).mono ?_
      rintro e W3 ⟨y, rfl, hy, hb3⟩
      exact hK _ _ ⟨y, rfl, hy⟩ hb3 trivial
    · -- 4
      intro li a1 W2 hA K hK
      have e6 := hA.par 6 (by kernel_rfl)
      obtain ⟨q1, q2⟩ := (LB2.out.keep hA.st).c2
      refine opStep none 0 rfl rfl (fun c hc => by cases hc) ?_
      go_simp
      exact hK _ _ rfl (Below.refl _ _) trivial
    · -- 5
      intro li a1 W2 hA K hK
      have e38 : a1.tmps.getD 38 undef = .agg #[.int .i64 lo, .int .i64 hi] := hA.val 4 38 (by kernel_rfl) (by kernel_rfl)
      refine opStep none 0 rfl rfl (fun c hc => by cases hc) ?_
      go_simp
      refine (to_any lo hi W2).mono ?_
      rintro e W3 ⟨rfl, hb3⟩
      exact hK _ _ rfl hb3 trivial
    · -- 6
      intro li a1 W2 hA K hK
      have e3 := hA.par 3 (by kernel_rfl)
      refine opStep none 0 rfl rfl (fun c hc => by cases hc) ?_
      go_simp
      exact hK _ _ rfl (Below.refl _ _) trivial
    · -- 7
      intro li a1 W2 hA K hK
      obtain ⟨y35, e35, h35⟩ := hA.val 1 35 (by kernel_rfl) (by kernel_rfl)
      obtain ⟨y37, e37, h37⟩ := hA.val 3 37 (by kernel_rfl) (by kernel_rfl)
      have e39 : a1.tmps.getD 39 undef = .agg #[.int .i64 lo, .int .i64 hi] := hA.val 5 39 (by kernel_rfl) (by kernel_rfl)
      have e40 : a1.tmps.getD 40 undef = .int .i64 mv := hA.val 6 40 (by kernel_rfl) (by kernel_rfl)
      refine opStep none 0 rfl rfl (fun c hc => by cases hc) ?_
      go_simp
      have KM := hid (pb_is (mv := mv) h35 h37 HE0.out)
      rw [HIS.out] at KM
      refine KM.out.mono ?_
      rintro e W3 ⟨rfl, hb3⟩
      exact hK _ _ rfl hb3 trivial
  intro li a1 W2 hD
  have e41 : a1.tmps.getD 41 undef = .bool b := hD.val 7 41 (by kernel_rfl) (by kernel_rfl)
  have hkp2 := hD.keeps (ds := [34, 35, 36, 37, 38, 39, 40, 41, 12]) (by kernel_rfl)
  have hds := hD.size
  have hsz9 : a1.tmps.size = 141 := hD.size
  have hdd := hD.defers
  have hst := hD.st
  refine tail_val (i := 8) (v := .bool b) (W' := W2) none 0 rfl rfl rfl (fun c hc => by cases hc) (by go_simp) (by rw [hsz9]; decide) ?_
  intro a3 s3 d3 f3 o3
  have hkp3 := keeps_then hkp2 o3 (by decide)
  have e := act_mix [34, 35, 36, 37, 38, 39, 40, 41, 12] (s3.trans (hds)) (d3.trans (hdd)) (fun i _ hc => hkp3 i hc)
  have hgg0 : (fun i => a3.tmps.getD i undef) 12 = .bool b := f3
  generalize (fun i => a3.tmps.getD i undef) = g' at e hgg0
  refine wpListIn_nil ?_
  rw [e]
  clear e hD hkp2 hkp3 hds hdd hsz9 s3 d3 f3 o3 e41
  simp only [mix, List.contains_cons, List.contains_nil, Nat.reduceAdd, Nat.reduceBEq, Bool.or_false, Bool.or_true, cond_true, cond_false, hgg0]
  clear hgg0
  have hb := hst
  clear hst
  have HB3 := hid (HB2.out.trans (hb.mono HB2.out.size))
  have HT3 := hid (HT2.out.keep hb)
  have LB3 := hid (LB2.out.keep hb)
  clear hb
  generalize W2 = w3 at *
  obtain ⟨t0, t1, t2, t3⟩ := HT3.out.c4
  obtain ⟨l0, l1⟩ := LB3.out.c2
  have K4 := hid (mfault_any m A c A2 c2 A3 c3 w3 (HH.out.at_ HB3.out).toMIn)
  rw [HC.out] at K4
  go_wp2_with fail
  refine K4.out.mono ?_
  rintro e w4 ⟨rfl, hb⟩
  have HB4 := hid (HB3.out.trans (hb.mono HB3.out.size))
  have HT4 := hid (HT3.out.keep hb)
  have LB4 := hid (LB3.out.keep hb)
  clear hb K4 t0 t1 t2 t3 l0 l1
  obtain ⟨t0, t1, t2, t3⟩ := HT4.out.c4
  obtain ⟨l0, l1⟩ := LB4.out.c2
  have K5 := hid (qin_b lo 0 hi w4)
  rw [HIN.out] at K5
  go_wp2_with fail
  refine K5.out.mono ?_
  rintro e w5 ⟨rfl, hb⟩
  have HB5 := hid (HB4.out.trans (hb.mono HB4.out.size))
  have HT5 := hid (HT4.out.keep hb)
  have LB5 := hid (LB4.out.keep hb)
  clear hb K5 t0 t1 t2 t3 l0 l1
  obtain ⟨t0, t1, t2, t3⟩ := HT5.out.c4
  obtain ⟨l0, l1⟩ := LB5.out.c2
  have K6 := hid (mconsist_any m A c A2 c2 A3 c3 w5 (HH.out.at_ HB5.out).toMIn)
  rw [HZ.out] at K6
  go_wp2_with fail
  refine K6.out.mono ?_
  rintro e w6 ⟨rfl, hb⟩
  have HB6 := hid (HB5.out.trans (hb.mono HB5.out.size))
  have HT6 := hid (HT5.out.keep hb)
  have LB6 := hid (LB5.out.keep hb)
  clear hb K6 t0 t1 t2 t3 l0 l1
  obtain ⟨t0, t1, t2, t3⟩ := HT6.out.c4
  obtain ⟨l0, l1⟩ := LB6.out.c2
  cases ha : areB m xs
  · have hbf : b = false := by rw [← HIS.out]; unfold isB; rw [ha]; rfl
    have HARE := hid ha
    subst hbf
    clear ha
    have K7 := hid (qare (HH.out.at_ HB6.out).toMIn OK.out (HX.out.at_ HB6.out) (by have := HLX.out; omega))
    rw [HARE.out] at K7
    go_wp2_with fail
    refine K7.out.mono ?_
    rintro e w7 ⟨rfl, hb⟩
    have HB7 := hid (HB6.out.trans (hb.mono HB6.out.size))
    have HT7 := hid (HT6.out.keep hb)
    have LB7 := hid (LB6.out.keep hb)
    clear hb K7 t0 t1 t2 t3 l0 l1
    obtain ⟨t0, t1, t2, t3⟩ := HT7.out.c4
    obtain ⟨l0, l1⟩ := LB7.out.c2
    have K8 := hid (qbest_no (HH.out.at_ HB7.out).toMIn OK.out HBB.out)
    go_wp2_with fail
    refine K8.out.mono ?_
    rintro e w8 ⟨yq, rfl, hb⟩
    have HB8 := hid (HB7.out.trans (hb.mono HB7.out.size))
    have HT8 := hid (HT7.out.keep hb)
    have LB8 := hid (LB7.out.keep hb)
    clear hb K8 t0 t1 t2 t3 l0 l1
    obtain ⟨t0, t1, t2, t3⟩ := HT8.out.c4
    obtain ⟨l0, l1⟩ := LB8.out.c2
    have K9 := hid (awake_any w8)
    go_wp2_with fail
    refine K9.out.mono ?_
    rintro e w9 ⟨rfl, hb⟩
    have HB9 := hid (HB8.out.trans (hb.mono HB8.out.size))
    have HT9 := hid (HT8.out.keep hb)
    have LB9 := hid (LB8.out.keep hb)
    clear hb K9 t0 t1 t2 t3 l0 l1
    obtain ⟨t0, t1, t2, t3⟩ := HT9.out.c4
    obtain ⟨l0, l1⟩ := LB9.out.c2
    clear t0 t1 t2 t3 l0 l1
    go_wp2
    go_ret
    exact ⟨rfl, HB9.out⟩
  · cases hg : rightB m (fnO xs) lo hi
    · have hbf : b = false := by rw [← HIS.out]; unfold isB; rw [ha, hg, Bool.and_false]; rfl
      have HARE := hid ha
      have HLS := hid (areB_iff.1 ha).1
      have HRG := hid hg
      subst hbf
      clear ha hg
      have K7 := hid (qare (HH.out.at_ HB6.out).toMIn OK.out (HX.out.at_ HB6.out) (by have := HLX.out; omega))
      rw [HARE.out] at K7
      go_wp2_with fail
      refine K7.out.mono ?_
      rintro e w7 ⟨rfl, hb⟩
      have HB7 := hid (HB6.out.trans (hb.mono HB6.out.size))
      have HT7 := hid (HT6.out.keep hb)
      have LB7 := hid (LB6.out.keep hb)
      clear hb K7 t0 t1 t2 t3 l0 l1
      obtain ⟨t0, t1, t2, t3⟩ := HT7.out.c4
      obtain ⟨l0, l1⟩ := LB7.out.c2
      have K8 := hid (qrgt (lo := lo) (hi := hi) (HH.out.at_ HB7.out).toMIn OK.out (HX.out.at_ HB7.out) HLS.out)
      rw [HRG.out] at K8
      go_wp2_with fail
      refine K8.out.mono ?_
      rintro e w8 ⟨rfl, hb⟩
      have HB8 := hid (HB7.out.trans (hb.mono HB7.out.size))
      have HT8 := hid (HT7.out.keep hb)
      have LB8 := hid (LB7.out.keep hb)
      clear hb K8 t0 t1 t2 t3 l0 l1
      obtain ⟨t0, t1, t2, t3⟩ := HT8.out.c4
      obtain ⟨l0, l1⟩ := LB8.out.c2
      have K9 := hid (qbest_no (HH.out.at_ HB8.out).toMIn OK.out HBB.out)
      go_wp2_with fail
      refine K9.out.mono ?_
      rintro e w9 ⟨yq, rfl, hb⟩
      have HB9 := hid (HB8.out.trans (hb.mono HB8.out.size))
      have HT9 := hid (HT8.out.keep hb)
      have LB9 := hid (LB8.out.keep hb)
      clear hb K9 t0 t1 t2 t3 l0 l1
      obtain ⟨t0, t1, t2, t3⟩ := HT9.out.c4
      obtain ⟨l0, l1⟩ := LB9.out.c2
      have K10 := hid (awake_any w9)
      go_wp2_with fail
      refine K10.out.mono ?_
      rintro e w10 ⟨rfl, hb⟩
      have HB10 := hid (HB9.out.trans (hb.mono HB9.out.size))
      have HT10 := hid (HT9.out.keep hb)
      have LB10 := hid (LB9.out.keep hb)
      clear hb K10 t0 t1 t2 t3 l0 l1
      obtain ⟨t0, t1, t2, t3⟩ := HT10.out.c4
      obtain ⟨l0, l1⟩ := LB10.out.c2
      clear t0 t1 t2 t3 l0 l1
      go_wp2
      go_ret
      exact ⟨rfl, HB10.out⟩
    · by_cases hm : mN ≤ mv
      · have hbf : b = true := by rw [← HIS.out]; unfold isB; rw [ha, hg, ← (areB_iff.1 ha).1, HMN.out, decide_eq_true hm]; rfl
        have HARE := hid ha
        have HLS := hid (areB_iff.1 ha).1
        have HRG := hid hg
        have hmB : decide (mN ≤ mv) = true := decide_eq_true hm
        subst hbf
        clear ha hg
        have K7 := hid (qare (HH.out.at_ HB6.out).toMIn OK.out (HX.out.at_ HB6.out) (by have := HLX.out; omega))
        rw [HARE.out] at K7
        go_wp2_with fail
        refine K7.out.mono ?_
        rintro e w7 ⟨rfl, hb⟩
        have HB7 := hid (HB6.out.trans (hb.mono HB6.out.size))
        have HT7 := hid (HT6.out.keep hb)
        have LB7 := hid (LB6.out.keep hb)
        clear hb K7 t0 t1 t2 t3 l0 l1
        obtain ⟨t0, t1, t2, t3⟩ := HT7.out.c4
        obtain ⟨l0, l1⟩ := LB7.out.c2
        have K8 := hid (qrgt (lo := lo) (hi := hi) (HH.out.at_ HB7.out).toMIn OK.out (HX.out.at_ HB7.out) HLS.out)
        rw [HRG.out] at K8
        go_wp2_with fail
        refine K8.out.mono ?_
        rintro e w8 ⟨rfl, hb⟩
        have HB8 := hid (HB7.out.trans (hb.mono HB7.out.size))
        have HT8 := hid (HT7.out.keep hb)
        have LB8 := hid (LB7.out.keep hb)
        clear hb K8 t0 t1 t2 t3 l0 l1
        obtain ⟨t0, t1, t2, t3⟩ := HT8.out.c4
        obtain ⟨l0, l1⟩ := LB8.out.c2
        have K9 := hid (qmov (HH.out.at_ HB8.out).toMIn OK.out (HX.out.at_ HB8.out) HLS.out)
        rw [HMN.out] at K9
        go_wp2_with fail
        refine K9.out.mono ?_
        rintro e w9 ⟨rfl, hb⟩
        have HB9 := hid (HB8.out.trans (hb.mono HB8.out.size))
        have HT9 := hid (HT8.out.keep hb)
        have LB9 := hid (LB8.out.keep hb)
        clear hb K9 t0 t1 t2 t3 l0 l1
        obtain ⟨t0, t1, t2, t3⟩ := HT9.out.c4
        obtain ⟨l0, l1⟩ := LB9.out.c2
        have K10 := hid (qbest_no (HH.out.at_ HB9.out).toMIn OK.out HBB.out)
        go_wp2_with fail
        refine K10.out.mono ?_
        rintro e w10 ⟨yq, rfl, hb⟩
        have HB10 := hid (HB9.out.trans (hb.mono HB9.out.size))
        have HT10 := hid (HT9.out.keep hb)
        have LB10 := hid (LB9.out.keep hb)
        clear hb K10 t0 t1 t2 t3 l0 l1
        obtain ⟨t0, t1, t2, t3⟩ := HT10.out.c4
        obtain ⟨l0, l1⟩ := LB10.out.c2
        have K11 := hid (awake_any w10)
        go_wp2_with fail
        refine K11.out.mono ?_
        rintro e w11 ⟨rfl, hb⟩
        have HB11 := hid (HB10.out.trans (hb.mono HB10.out.size))
        have HT11 := hid (HT10.out.keep hb)
        have LB11 := hid (LB10.out.keep hb)
        clear hb K11 t0 t1 t2 t3 l0 l1
        obtain ⟨t0, t1, t2, t3⟩ := HT11.out.c4
        obtain ⟨l0, l1⟩ := LB11.out.c2
        clear t0 t1 t2 t3 l0 l1
        go_wp2
        go_ret
        exact ⟨rfl, HB11.out⟩
      · have hbf : b = false := by rw [← HIS.out]; unfold isB; rw [ha, ← (areB_iff.1 ha).1, HMN.out, decide_eq_false hm]; rfl
        have HARE := hid ha
        have HLS := hid (areB_iff.1 ha).1
        have HRG := hid hg
        have hmB : decide (mN ≤ mv) = false := decide_eq_false hm
        subst hbf
        clear ha hg
        have K7 := hid (qare (HH.out.at_ HB6.out).toMIn OK.out (HX.out.at_ HB6.out) (by have := HLX.out; omega))
        rw [HARE.out] at K7
        go_wp2_with fail
        refine K7.out.mono ?_
        rintro e w7 ⟨rfl, hb⟩
        have HB7 := hid (HB6.out.trans (hb.mono HB6.out.size))
        have HT7 := hid (HT6.out.keep hb)
        have LB7 := hid (LB6.out.keep hb)
        clear hb K7 t0 t1 t2 t3 l0 l1
        obtain ⟨t0, t1, t2, t3⟩ := HT7.out.c4
        obtain ⟨l0, l1⟩ := LB7.out.c2
        have K8 := hid (qrgt (lo := lo) (hi := hi) (HH.out.at_ HB7.out).toMIn OK.out (HX.out.at_ HB7.out) HLS.out)
        rw [HRG.out] at K8
        go_wp2_with fail
        refine K8.out.mono ?_
        rintro e w8 ⟨rfl, hb⟩
        have HB8 := hid (HB7.out.trans (hb.mono HB7.out.size))
        have HT8 := hid (HT7.out.keep hb)
        have LB8 := hid (LB7.out.keep hb)
        clear hb K8 t0 t1 t2 t3 l0 l1
        obtain ⟨t0, t1, t2, t3⟩ := HT8.out.c4
        obtain ⟨l0, l1⟩ := LB8.out.c2
        have K9 := hid (qmov (HH.out.at_ HB8.out).toMIn OK.out (HX.out.at_ HB8.out) HLS.out)
        rw [HMN.out] at K9
        go_wp2_with fail
        refine K9.out.mono ?_
        rintro e w9 ⟨rfl, hb⟩
        have HB9 := hid (HB8.out.trans (hb.mono HB8.out.size))
        have HT9 := hid (HT8.out.keep hb)
        have LB9 := hid (LB8.out.keep hb)
        clear hb K9 t0 t1 t2 t3 l0 l1
        obtain ⟨t0, t1, t2, t3⟩ := HT9.out.c4
        obtain ⟨l0, l1⟩ := LB9.out.c2
        have K10 := hid (qbest_no (HH.out.at_ HB9.out).toMIn OK.out HBB.out)
        go_wp2_with fail
        refine K10.out.mono ?_
        rintro e w10 ⟨yq, rfl, hb⟩
        have HB10 := hid (HB9.out.trans (hb.mono HB9.out.size))
        have HT10 := hid (HT9.out.keep hb)
        have LB10 := hid (LB9.out.keep hb)
        clear hb K10 t0 t1 t2 t3 l0 l1
        obtain ⟨t0, t1, t2, t3⟩ := HT10.out.c4
        obtain ⟨l0, l1⟩ := LB10.out.c2
        have K11 := hid (awake_any w10)
        go_wp2_with fail
        refine K11.out.mono ?_
        rintro e w11 ⟨rfl, hb⟩
        have HB11 := hid (HB10.out.trans (hb.mono HB10.out.size))
        have HT11 := hid (HT10.out.keep hb)
        have LB11 := hid (LB10.out.keep hb)
        clear hb K11 t0 t1 t2 t3 l0 l1
        obtain ⟨t0, t1, t2, t3⟩ := HT11.out.c4
        obtain ⟨l0, l1⟩ := LB11.out.c2
        clear t0 t1 t2 t3 l0 l1
        go_wp2
        go_ret
        exact ⟨rfl, HB11.out⟩

set_option maxRecDepth 100000 in
set_option maxHeartbeats 8000000 in
theorem bes_some (m : MapD) (A : Option Addr) (c : Nat) (A2 : Option Addr) (c2 : Nat) (A3 : Option Addr) (c3 : Nat) (Ax : Option Addr) (cx : Nat) (xs : List Int) (lo hi mv : Int) (w : World) (h : MArg m A c A2 c2 A3 c3 w) (hx : IntsAt (Ax, cx) xs w) (hx0 : Ax = none → cx = 0) (ht : thinM m = true) (hl : ¬ 12 < xs.length) (hr : rngOk lo hi 40000 = true) (hu : cstM m = 0) (b : Bool) (his : isB m xs lo hi mv = b) (j : Nat) (l : Nat → Int) (hbb : bestB m lo hi = some (j, l)) :
    Calls Try.prog 10 #[.agg #[.slice A m.old.length c, .int .i64 m.nw, .slice A2 m.ss.length c2, .slice A3 m.js.length c3], .slice Ax xs.length cx, .agg #[.int .i64 lo, .int .i64 hi], .int .i64 mv] w fun e w' => e = .returned (.bool true) ∧ Below w.heap.size w w' := by
  have hB := (below_box (w := w) #[.slice A m.old.length c, .int .i64 m.nw, .slice A2 m.ss.length c2, .slice A3 m.js.length c3] 26).alloc (below_box (w := w) #[.slice A m.old.length c, .int .i64 m.nw, .slice A2 m.ss.length c2, .slice A3 m.js.length c3] 26).size (.cells #[.int .i64 lo, .int .i64 hi] 43)
  have hT := (Blk.new w 26 #[.slice A m.old.length c, .int .i64 m.nw, .slice A2 m.ss.length c2, .slice A3 m.js.length c3]).alloc (.cells #[.int .i64 lo, .int .i64 hi] 43)
  have hL := Blk.new (w.alloc (.cells #[.slice A m.old.length c, .int .i64 m.nw, .slice A2 m.ss.length c2, .slice A3 m.js.length c3] 26)) 43 #[.int .i64 lo, .int .i64 hi]
  rw [World.size_alloc] at hL
  have HB0 := hid hB
  have HT0 := hid hT
  have LB0 := hid hL
  have HH := hid h
  obtain ⟨t0, t1, t2, t3⟩ := hT.c4
  obtain ⟨l0, l1⟩ := hL.c2
  clear h hB hT hL
  have HX := hid hx
  have HX0 := hid hx0
  clear hx hx0
  have HTN := hid ht
  have HTH := hid (thinM_iff.1 ht)
  have HLX := hid hl
  have hlB : decide ((12 : Int) < (xs.length : Int)) = false := by simp; omega
  have HZ := hid hu
  have HC := hid (cst_ok hu).1
  have HE0 := hid (show askE m lo hi = 0 by unfold askE; rw [if_pos (cst_ok hu).1, if_pos hr, hu])
  have OK := hid (chk_okm (cst_ok hu).1)
  have HBB := hid hbb
  have hr2 := hr
  unfold rngOk at hr2
  rw [decide_eq_true_eq] at hr2
  have HIN := hid (show inB lo 0 hi = true by unfold inB; rw [decide_eq_true_eq]; omega)
  have hhB : decide ((40000 : Int) < hi) = false := by simp; omega
  have HIS := hid his
  obtain ⟨mN, hmN⟩ : ∃ z, movN m (fnO xs) xs.length = z := ⟨_, rfl⟩
  have HMN := hid hmN
  have HMJ := hid (show movN m (fnO (lst m l)) (lst m l).length = (j : Int) by rw [lst_len]; exact (right_best hbb).2.2.2)
  clear ht hr hu hr2 hbb his hmN
  go_enter Try.func10, Try.ntmps10
  have K1 := hid (thin_any m A c A2 c2 A3 c3 ((w.alloc (.cells #[.slice A m.old.length c, .int .i64 m.nw, .slice A2 m.ss.length c2, .slice A3 m.js.length c3] 26)).alloc (.cells #[.int .i64 lo, .int .i64 hi] 43)))
  rw [HTN.out] at K1
  go_wp2_with fail
  refine K1.out.mono ?_
  rintro e w1 ⟨rfl, hb⟩
  have HB1 := hid (HB0.out.trans (hb.mono HB0.out.size))
  have HT1 := hid (HT0.out.keep hb)
  have LB1 := hid (LB0.out.keep hb)
  clear hb K1 t0 t1 t2 t3 l0 l1
  obtain ⟨t0, t1, t2, t3⟩ := HT1.out.c4
  obtain ⟨l0, l1⟩ := LB1.out.c2
  clear t0 t1 t2 t3 l0 l1
  go_wp2
  refine (wpIn_wide (n := 0)).1 ?_
  refine wpIn_region_each 11 (fun i v W' => match i with | 0 => v = .agg #[.slice A m.old.length c, .int .i64 m.nw, .slice A2 m.ss.length c2, .slice A3 m.js.length c3] | 1 => ∃ (y : (Option Addr × Nat) × (Option Addr × Nat) × (Option Addr × Nat)), v = .agg #[.slice y.1.1 m.old.length y.1.2, .int .i64 m.nw, .slice y.2.1.1 m.ss.length y.2.1.2, .slice y.2.2.1 m.js.length y.2.2.2] ∧ MIn m y.1.1 y.1.2 y.2.1.1 y.2.1.2 y.2.2.1 y.2.2.2 W' | 2 => v = .agg #[.int .i64 lo, .int .i64 hi] | 3 => v = .agg #[.int .i64 lo, .int .i64 hi] | 4 => ∃ (y : Option Addr × Nat), v = .tuple #[.slice y.1 (lst m l).length y.2, .int .i64 (j : Int), .int .i64 0] ∧ IntsAt y (lst m l) W' | 5 => ∃ (y : Option Addr × Nat), v = .tuple #[.slice y.1 (lst m l).length y.2, .int .i64 (j : Int), .int .i64 0] ∧ IntsAt y (lst m l) W' | 6 => ∃ (y : Option Addr × Nat), v = .slice y.1 (lst m l).length y.2 ∧ IntsAt y (lst m l) W' | 7 => v = .int .i64 (j : Int) | 8 => v = .int .i64 0 | 9 => ∃ (y : Option Addr × Nat), v = .slice y.1 (lst m l).length y.2 ∧ IntsAt y (lst m l) W' | 10 => v = .int .i64 (j : Int) | _ => True) (fun A B => Below A.heap.size A B) (fun _ _ => True) (by kernel_rfl) (by kernel_rfl) ?_ (fun h k => h.trans (k.mono h.size)) ⟨rfl, rfl, rfl, Nat.le_refl _, fun _ _ => rfl⟩ trivial (by kernel_rfl) ?_ ?_
  · intro i v W1 W2 hb h
    match i, h with
    | 0, h => exact h
    | 1, h =>
      obtain ⟨y, rfl, h1⟩ := h
      exact ⟨_, rfl, h1.at_ hb⟩
    | 2, h => exact h
    | 3, h => exact h
    | 4, h =>
      obtain ⟨y, rfl, h1⟩ := h
      exact ⟨_, rfl, h1.at_ hb⟩
    | 5, h =>
      obtain ⟨y, rfl, h1⟩ := h
      exact ⟨_, rfl, h1.at_ hb⟩
    | 6, h =>
      obtain ⟨y, rfl, h1⟩ := h
      exact ⟨_, rfl, h1.at_ hb⟩
    | 7, h => exact h
    | 8, h => exact h
    | 9, h =>
      obtain ⟨y, rfl, h1⟩ := h
      exact ⟨_, rfl, h1.at_ hb⟩
    | 10, h => exact h
    | i + 11, h => trivial
  · refine ⟨?_, ?_, ?_, ?_, ?_, ?_, ?_, ?_, ?_, ?_, ?_, trivial⟩
    · -- 0
      intro li a1 W2 hA K hK
      have e4 := hA.par 4 (by kernel_rfl)
      obtain ⟨q1, q2, q3, q4⟩ := (HT1.out.keep hA.st).c4
      refine opStep none 0 rfl rfl (fun c hc => by cases hc) ?_
      go_simp
      exact hK _ _ rfl (Below.refl _ _) trivial
    · -- 1
      intro li a1 W2 hA K hK
      have e26 : a1.tmps.getD 26 undef = .agg #[.slice A m.old.length c, .int .i64 m.nw, .slice A2 m.ss.length c2, .slice A3 m.js.length c3] := hA.val 0 26 (by kernel_rfl) (by kernel_rfl)
      refine opStep none 0 rfl rfl (fun c hc => by cases hc) ?_
      go_simp
      refine (map_thin (HH.out.at_ (HB1.out.trans (hA.st.mono HB1.out.size))) HTH.out).mono ?_
      rintro e W3 ⟨P, Q, R, rfl, hy, hb3⟩
      exact hK _ _ ⟨(P, Q, R), rfl, hy⟩ hb3 trivial
    · -- 2
      intro li a1 W2 hA K hK
      have e6 := hA.par 6 (by kernel_rfl)
      obtain ⟨q1, q2⟩ := (LB1.out.keep hA.st).c2
      refine opStep none 0 rfl rfl (fun c hc => by cases hc) ?_
      go_simp
      exact hK _ _ rfl (Below.refl _ _) trivial
    · -- 3
      intro li a1 W2 hA K hK
      have e28 : a1.tmps.getD 28 undef = .agg #[.int .i64 lo, .int .i64 hi] := hA.val 2 28 (by kernel_rfl) (by kernel_rfl)
      refine opStep none 0 rfl rfl (fun c hc => by cases hc) ?_
      go_simp
      refine (to_any lo hi W2).mono ?_
      rintro e W3 ⟨rfl, hb3⟩
      exact hK _ _ rfl hb3 trivial
    · -- 4
      intro li a1 W2 hA K hK
      obtain ⟨y27, e27, h27⟩ := hA.val 1 27 (by kernel_rfl) (by kernel_rfl)
      have e29 : a1.tmps.getD 29 undef = .agg #[.int .i64 lo, .int .i64 hi] := hA.val 3 29 (by kernel_rfl) (by kernel_rfl)
      refine opStep none 0 rfl rfl (fun c hc => by cases hc) ?_
      go_simp
      refine (best_yes h27 HE0.out HBB.out).mono ?_
      rintro e W3 ⟨y, rfl, hy, hb3⟩
      exact hK _ _ ⟨y, rfl, hy⟩ hb3 trivial
    · -- 5
      intro li a1 W2 hA K hK
      obtain ⟨y30, e30, h30⟩ := hA.val 4 30 (by kernel_rfl) (by kernel_rfl)
      refine opStep none 0 rfl rfl (fun c hc => by cases hc) ?_
      go_simp
      exact hK _ _ ⟨_, rfl, h30⟩ (Below.refl _ _) trivial
    · -- 6
      intro li a1 W2 hA K hK
      obtain ⟨y25, e25, h25⟩ := hA.val 5 25 (by kernel_rfl) (by kernel_rfl)
      refine opStep none 0 rfl rfl (fun c hc => by cases hc) ?_
      go_simp
      exact hK _ _ ⟨_, rfl, h25⟩ (Below.refl _ _) trivial
    · -- 7
      intro li a1 W2 hA K hK
      obtain ⟨y25, e25, h25⟩ := hA.val 5 25 (by kernel_rfl) (by kernel_rfl)
      refine opStep none 0 rfl rfl (fun c hc => by cases hc) ?_
      go_simp
      exact hK _ _ rfl (Below.refl _ _) trivial
    · -- 8
      intro li a1 W2 hA K hK
      obtain ⟨y25, e25, h25⟩ := hA.val 5 25 (by kernel_rfl) (by kernel_rfl)
      refine opStep none 0 rfl rfl (fun c hc => by cases hc) ?_
      go_simp
      exact hK _ _ rfl (Below.refl _ _) trivial
    · -- 9
      intro li a1 W2 hA K hK
      obtain ⟨y31, e31, h31⟩ := hA.val 6 31 (by kernel_rfl) (by kernel_rfl)
      refine opStep none 0 rfl rfl (fun c hc => by cases hc) ?_
      go_simp
      exact hK _ _ ⟨_, rfl, h31⟩ (Below.refl _ _) trivial
    · -- 10
      intro li a1 W2 hA K hK
      have e32 : a1.tmps.getD 32 undef = .int .i64 (j : Int) := hA.val 7 32 (by kernel_rfl) (by kernel_rfl)
      refine opStep none 0 rfl rfl (fun c hc => by cases hc) ?_
      go_simp
      exact hK _ _ rfl (Below.refl _ _) trivial
  intro li a1 W2 hD
  obtain ⟨y9, e9, h9⟩ := hD.val 9 9 (by kernel_rfl) (by kernel_rfl)
  have e10 : a1.tmps.getD 10 undef = .int .i64 (j : Int) := hD.val 10 10 (by kernel_rfl) (by kernel_rfl)
  have e33 : a1.tmps.getD 33 undef = .int .i64 0 := hD.val 8 33 (by kernel_rfl) (by kernel_rfl)
  have hkp2 := hD.keeps (ds := [26, 27, 28, 29, 30, 25, 31, 32, 33, 9, 10, 11]) (by kernel_rfl)
  have hds := hD.size
  have hsz9 : a1.tmps.size = 141 := hD.size
  have hdd := hD.defers
  have hst := hD.st
  refine tail_val (i := 11) (v := .int .i64 0) (W' := W2) none 0 rfl rfl rfl (fun c hc => by cases hc) (by go_simp) (by rw [hsz9]; decide) ?_
  intro a3 s3 d3 f3 o3
  have hkp3 := keeps_then hkp2 o3 (by decide)
  have e := act_mix [26, 27, 28, 29, 30, 25, 31, 32, 33, 9, 10, 11] (s3.trans (hds)) (d3.trans (hdd)) (fun i _ hc => hkp3 i hc)
  have hgg0 : (fun i => a3.tmps.getD i undef) 11 = .int .i64 0 := f3
  have hgk9 : (fun i => a3.tmps.getD i undef) 9 = .slice y9.1 (lst m l).length y9.2 := (o3 9 (by decide)).trans (e9)
  have hgk10 : (fun i => a3.tmps.getD i undef) 10 = .int .i64 (j : Int) := (o3 10 (by decide)).trans (e10)
  generalize (fun i => a3.tmps.getD i undef) = g' at e hgg0 hgk9 hgk10
  refine wpListIn_nil ?_
  rw [e]
  clear e hD hkp2 hkp3 hds hdd hsz9 s3 d3 f3 o3 e33 e9 e10
  simp only [mix, List.contains_cons, List.contains_nil, Nat.reduceAdd, Nat.reduceBEq, Bool.or_false, Bool.or_true, cond_true, cond_false, hgg0, hgk9, hgk10]
  clear hgg0 hgk9 hgk10
  have hb := hst
  clear hst
  have HB2 := hid (HB1.out.trans (hb.mono HB1.out.size))
  have HT2 := hid (HT1.out.keep hb)
  have LB2 := hid (LB1.out.keep hb)
  have HYB := hid h9
  clear h9
  clear hb
  generalize W2 = w2 at *
  obtain ⟨t0, t1, t2, t3⟩ := HT2.out.c4
  obtain ⟨l0, l1⟩ := LB2.out.c2
  have BB0 := hid (Below.refl w2.heap.size w2)
  clear t0 t1 t2 t3 l0 l1
  go_wp2
  refine (wpIn_wide (n := 0)).1 ?_
  refine wpIn_region_each 8 (fun i v W' => match i with | 0 => v = .agg #[.slice A m.old.length c, .int .i64 m.nw, .slice A2 m.ss.length c2, .slice A3 m.js.length c3] | 1 => ∃ (y : (Option Addr × Nat) × (Option Addr × Nat) × (Option Addr × Nat)), v = .agg #[.slice y.1.1 m.old.length y.1.2, .int .i64 m.nw, .slice y.2.1.1 m.ss.length y.2.1.2, .slice y.2.2.1 m.js.length y.2.2.2] ∧ MIn m y.1.1 y.1.2 y.2.1.1 y.2.1.2 y.2.2.1 y.2.2.2 W' | 2 => v = .slice Ax xs.length cx | 3 => ∃ (y : Option Addr × Nat), v = .slice y.1 xs.length y.2 ∧ IntsAt y xs W' | 4 => v = .agg #[.int .i64 lo, .int .i64 hi] | 5 => v = .agg #[.int .i64 lo, .int .i64 hi] | 6 => v = .int .i64 mv | 7 => v = .bool b | _ => True) (fun A B => Below A.heap.size A B) (fun _ _ => True) (by kernel_rfl) (by kernel_rfl) ?_ (fun h k => h.trans (k.mono h.size)) ⟨rfl, rfl, rfl, Nat.le_refl _, fun _ _ => rfl⟩ trivial (by kernel_rfl) ?_ ?_
  · intro i v W1 W2 hb h
    match i, h with
    | 0, h => exact h
    | 1, h =>
      obtain ⟨y, rfl, h1⟩ := h
      exact ⟨_, rfl, h1.at_ hb⟩
    | 2, h => exact h
    | 3, h =>
      obtain ⟨y, rfl, h1⟩ := h
      exact ⟨_, rfl, h1.at_ hb⟩
    | 4, h => exact h
    | 5, h => exact h
    | 6, h => exact h
    | 7, h => exact h
    | i + 8, h => trivial
  · refine ⟨?_, ?_, ?_, ?_, ?_, ?_, ?_, ?_, trivial⟩
    · -- 0
      intro li a1 W2 hA K hK
      have e4 := hA.par 4 (by kernel_rfl)
      obtain ⟨q1, q2, q3, q4⟩ := (HT2.out.keep hA.st).c4
      refine opStep none 0 rfl rfl (fun c hc => by cases hc) ?_
      go_simp
      exact hK _ _ rfl (Below.refl _ _) trivial
    · -- 1
      intro li a1 W2 hA K hK
      have e34 : a1.tmps.getD 34 undef = .agg #[.slice A m.old.length c, .int .i64 m.nw, .slice A2 m.ss.length c2, .slice A3 m.js.length c3] := hA.val 0 34 (by kernel_rfl) (by kernel_rfl)
      refine opStep none 0 rfl rfl (fun c hc => by cases hc) ?_
      go_simp
      refine (map_thin (HH.out.at_ (HB2.out.trans (hA.st.mono HB2.out.size))) HTH.out).mono ?_
      rintro e W3 ⟨P, Q, R, rfl, hy, hb3⟩
      exact hK _ _ ⟨(P, Q, R), rfl, hy⟩ hb3 trivial
    · -- 2
      intro li a1 W2 hA K hK
      have e1 := hA.par 1 (by kernel_rfl)
      refine opStep none 0 rfl rfl (fun c hc => by cases hc) ?_
      go_simp
      exact hK _ _ rfl (Below.refl _ _) trivial
    · -- 3
      intro li a1 W2 hA K hK
      have e36 : a1.tmps.getD 36 undef = .slice Ax xs.length cx := hA.val 2 36 (by kernel_rfl) (by kernel_rfl)
      refine opStep none 0 rfl rfl (fun c hc => by cases hc) ?_
      go_simp
      refine (lst_i (HX.out.at_ (HB2.out.trans (hA.st.mono HB2.out.size))) HX0.out (by have := HLX.out; omega)).mono ?_
      rintro e W3 ⟨y, rfl, hy, hb3⟩
      exact hK _ _ ⟨y, rfl, hy⟩ hb3 trivial
    · -- 4
      intro li a1 W2 hA K hK
      have e6 := hA.par 6 (by kernel_rfl)
      obtain ⟨q1, q2⟩ := (LB2.out.keep hA.st).c2
      refine opStep none 0 rfl rfl (fun c hc => by cases hc) ?_
      go_simp
      exact hK _ _ rfl (Below.refl _ _) trivial
    · -- 5
      intro li a1 W2 hA K hK
      have e38 : a1.tmps.getD 38 undef = .agg #[.int .i64 lo, .int .i64 hi] := hA.val 4 38 (by kernel_rfl) (by kernel_rfl)
      refine opStep none 0 rfl rfl (fun c hc => by cases hc) ?_
      go_simp
      refine (to_any lo hi W2).mono ?_
      rintro e W3 ⟨rfl, hb3⟩
      exact hK _ _ rfl hb3 trivial
    · -- 6
      intro li a1 W2 hA K hK
      have e3 := hA.par 3 (by kernel_rfl)
      refine opStep none 0 rfl rfl (fun c hc => by cases hc) ?_
      go_simp
      exact hK _ _ rfl (Below.refl _ _) trivial
    · -- 7
      intro li a1 W2 hA K hK
      obtain ⟨y35, e35, h35⟩ := hA.val 1 35 (by kernel_rfl) (by kernel_rfl)
      obtain ⟨y37, e37, h37⟩ := hA.val 3 37 (by kernel_rfl) (by kernel_rfl)
      have e39 : a1.tmps.getD 39 undef = .agg #[.int .i64 lo, .int .i64 hi] := hA.val 5 39 (by kernel_rfl) (by kernel_rfl)
      have e40 : a1.tmps.getD 40 undef = .int .i64 mv := hA.val 6 40 (by kernel_rfl) (by kernel_rfl)
      refine opStep none 0 rfl rfl (fun c hc => by cases hc) ?_
      go_simp
      have KM := hid (pb_is (mv := mv) h35 h37 HE0.out)
      rw [HIS.out] at KM
      refine KM.out.mono ?_
      rintro e W3 ⟨rfl, hb3⟩
      exact hK _ _ rfl hb3 trivial
  intro li a1 W2 hD
  have e41 : a1.tmps.getD 41 undef = .bool b := hD.val 7 41 (by kernel_rfl) (by kernel_rfl)
  have hkp2 := hD.keeps (ds := [34, 35, 36, 37, 38, 39, 40, 41, 12]) (by kernel_rfl)
  have hds := hD.size
  have hsz9 : a1.tmps.size = 141 := hD.size
  have hdd := hD.defers
  have hst := hD.st
  refine tail_val (i := 8) (v := .bool b) (W' := W2) none 0 rfl rfl rfl (fun c hc => by cases hc) (by go_simp) (by rw [hsz9]; decide) ?_
  intro a3 s3 d3 f3 o3
  have hkp3 := keeps_then hkp2 o3 (by decide)
  have e := act_mix [34, 35, 36, 37, 38, 39, 40, 41, 12] (s3.trans (hds)) (d3.trans (hdd)) (fun i _ hc => hkp3 i hc)
  have hgg0 : (fun i => a3.tmps.getD i undef) 12 = .bool b := f3
  generalize (fun i => a3.tmps.getD i undef) = g' at e hgg0
  refine wpListIn_nil ?_
  rw [e]
  clear e hD hkp2 hkp3 hds hdd hsz9 s3 d3 f3 o3 e41
  simp only [mix, List.contains_cons, List.contains_nil, Nat.reduceAdd, Nat.reduceBEq, Bool.or_false, Bool.or_true, cond_true, cond_false, hgg0]
  clear hgg0
  have hb := hst
  clear hst
  have HB3 := hid (HB2.out.trans (hb.mono HB2.out.size))
  have HT3 := hid (HT2.out.keep hb)
  have BB3 := hid (BB0.out.trans (hb.mono BB0.out.size))
  have LB3 := hid (LB2.out.keep hb)
  clear hb
  generalize W2 = w3 at *
  obtain ⟨t0, t1, t2, t3⟩ := HT3.out.c4
  obtain ⟨l0, l1⟩ := LB3.out.c2
  have K4 := hid (mfault_any m A c A2 c2 A3 c3 w3 (HH.out.at_ HB3.out).toMIn)
  rw [HC.out] at K4
  go_wp2_with fail
  refine K4.out.mono ?_
  rintro e w4 ⟨rfl, hb⟩
  have HB4 := hid (HB3.out.trans (hb.mono HB3.out.size))
  have HT4 := hid (HT3.out.keep hb)
  have BB4 := hid (BB3.out.trans (hb.mono BB3.out.size))
  have LB4 := hid (LB3.out.keep hb)
  clear hb K4 t0 t1 t2 t3 l0 l1
  obtain ⟨t0, t1, t2, t3⟩ := HT4.out.c4
  obtain ⟨l0, l1⟩ := LB4.out.c2
  have K5 := hid (qin_b lo 0 hi w4)
  rw [HIN.out] at K5
  go_wp2_with fail
  refine K5.out.mono ?_
  rintro e w5 ⟨rfl, hb⟩
  have HB5 := hid (HB4.out.trans (hb.mono HB4.out.size))
  have HT5 := hid (HT4.out.keep hb)
  have BB5 := hid (BB4.out.trans (hb.mono BB4.out.size))
  have LB5 := hid (LB4.out.keep hb)
  clear hb K5 t0 t1 t2 t3 l0 l1
  obtain ⟨t0, t1, t2, t3⟩ := HT5.out.c4
  obtain ⟨l0, l1⟩ := LB5.out.c2
  have K6 := hid (mconsist_any m A c A2 c2 A3 c3 w5 (HH.out.at_ HB5.out).toMIn)
  rw [HZ.out] at K6
  go_wp2_with fail
  refine K6.out.mono ?_
  rintro e w6 ⟨rfl, hb⟩
  have HB6 := hid (HB5.out.trans (hb.mono HB5.out.size))
  have HT6 := hid (HT5.out.keep hb)
  have BB6 := hid (BB5.out.trans (hb.mono BB5.out.size))
  have LB6 := hid (LB5.out.keep hb)
  clear hb K6 t0 t1 t2 t3 l0 l1
  obtain ⟨t0, t1, t2, t3⟩ := HT6.out.c4
  obtain ⟨l0, l1⟩ := LB6.out.c2
  cases ha : areB m xs
  · have hbf : b = false := by rw [← HIS.out]; unfold isB; rw [ha]; rfl
    have HARE := hid ha
    subst hbf
    clear ha
    have K7 := hid (qare (HH.out.at_ HB6.out).toMIn OK.out (HX.out.at_ HB6.out) (by have := HLX.out; omega))
    rw [HARE.out] at K7
    go_wp2_with fail
    refine K7.out.mono ?_
    rintro e w7 ⟨rfl, hb⟩
    have HB7 := hid (HB6.out.trans (hb.mono HB6.out.size))
    have HT7 := hid (HT6.out.keep hb)
    have BB7 := hid (BB6.out.trans (hb.mono BB6.out.size))
    have LB7 := hid (LB6.out.keep hb)
    clear hb K7 t0 t1 t2 t3 l0 l1
    obtain ⟨t0, t1, t2, t3⟩ := HT7.out.c4
    obtain ⟨l0, l1⟩ := LB7.out.c2
    have K8 := hid (qbest_yes (HH.out.at_ HB7.out).toMIn OK.out HBB.out)
    go_wp2_with fail
    refine K8.out.mono ?_
    rintro e w8 ⟨yq, rfl, hq, hb⟩
    have HB8 := hid (HB7.out.trans (hb.mono HB7.out.size))
    have HT8 := hid (HT7.out.keep hb)
    have BB8 := hid (BB7.out.trans (hb.mono BB7.out.size))
    have LB8 := hid (LB7.out.keep hb)
    have HYQ := hid hq
    clear hq
    clear hb K8 t0 t1 t2 t3 l0 l1
    obtain ⟨t0, t1, t2, t3⟩ := HT8.out.c4
    obtain ⟨l0, l1⟩ := LB8.out.c2
    have BQ0 := hid (Below.refl w8.heap.size w8)
    have K9 := hid (ints_same (HYB.out.at_ BB8.out) (HYQ.out.at_ BQ0.out))
    go_wp2_with fail
    refine K9.out.mono ?_
    rintro e w9 ⟨rfl, hb⟩
    have HB9 := hid (HB8.out.trans (hb.mono HB8.out.size))
    have HT9 := hid (HT8.out.keep hb)
    have BB9 := hid (BB8.out.trans (hb.mono BB8.out.size))
    have BQ9 := hid (BQ0.out.trans (hb.mono BQ0.out.size))
    have LB9 := hid (LB8.out.keep hb)
    clear hb K9 t0 t1 t2 t3 l0 l1
    obtain ⟨t0, t1, t2, t3⟩ := HT9.out.c4
    obtain ⟨l0, l1⟩ := LB9.out.c2
    have K10 := hid (qmov (HH.out.at_ HB9.out).toMIn OK.out (HYQ.out.at_ BQ9.out) (lst_len m l))
    rw [HMJ.out] at K10
    go_wp2_with fail
    refine K10.out.mono ?_
    rintro e w10 ⟨rfl, hb⟩
    have HB10 := hid (HB9.out.trans (hb.mono HB9.out.size))
    have HT10 := hid (HT9.out.keep hb)
    have BB10 := hid (BB9.out.trans (hb.mono BB9.out.size))
    have BQ10 := hid (BQ9.out.trans (hb.mono BQ9.out.size))
    have LB10 := hid (LB9.out.keep hb)
    clear hb K10 t0 t1 t2 t3 l0 l1
    obtain ⟨t0, t1, t2, t3⟩ := HT10.out.c4
    obtain ⟨l0, l1⟩ := LB10.out.c2
    have K11 := hid (awake_any w10)
    go_wp2_with fail
    refine K11.out.mono ?_
    rintro e w11 ⟨rfl, hb⟩
    have HB11 := hid (HB10.out.trans (hb.mono HB10.out.size))
    have HT11 := hid (HT10.out.keep hb)
    have BB11 := hid (BB10.out.trans (hb.mono BB10.out.size))
    have BQ11 := hid (BQ10.out.trans (hb.mono BQ10.out.size))
    have LB11 := hid (LB10.out.keep hb)
    clear hb K11 t0 t1 t2 t3 l0 l1
    obtain ⟨t0, t1, t2, t3⟩ := HT11.out.c4
    obtain ⟨l0, l1⟩ := LB11.out.c2
    clear t0 t1 t2 t3 l0 l1
    go_wp2
    go_ret
    exact ⟨rfl, HB11.out⟩
  · cases hg : rightB m (fnO xs) lo hi
    · have hbf : b = false := by rw [← HIS.out]; unfold isB; rw [ha, hg, Bool.and_false]; rfl
      have HARE := hid ha
      have HLS := hid (areB_iff.1 ha).1
      have HRG := hid hg
      subst hbf
      clear ha hg
      have K7 := hid (qare (HH.out.at_ HB6.out).toMIn OK.out (HX.out.at_ HB6.out) (by have := HLX.out; omega))
      rw [HARE.out] at K7
      go_wp2_with fail
      refine K7.out.mono ?_
      rintro e w7 ⟨rfl, hb⟩
      have HB7 := hid (HB6.out.trans (hb.mono HB6.out.size))
      have HT7 := hid (HT6.out.keep hb)
      have BB7 := hid (BB6.out.trans (hb.mono BB6.out.size))
      have LB7 := hid (LB6.out.keep hb)
      clear hb K7 t0 t1 t2 t3 l0 l1
      obtain ⟨t0, t1, t2, t3⟩ := HT7.out.c4
      obtain ⟨l0, l1⟩ := LB7.out.c2
      have K8 := hid (qrgt (lo := lo) (hi := hi) (HH.out.at_ HB7.out).toMIn OK.out (HX.out.at_ HB7.out) HLS.out)
      rw [HRG.out] at K8
      go_wp2_with fail
      refine K8.out.mono ?_
      rintro e w8 ⟨rfl, hb⟩
      have HB8 := hid (HB7.out.trans (hb.mono HB7.out.size))
      have HT8 := hid (HT7.out.keep hb)
      have BB8 := hid (BB7.out.trans (hb.mono BB7.out.size))
      have LB8 := hid (LB7.out.keep hb)
      clear hb K8 t0 t1 t2 t3 l0 l1
      obtain ⟨t0, t1, t2, t3⟩ := HT8.out.c4
      obtain ⟨l0, l1⟩ := LB8.out.c2
      have K9 := hid (qbest_yes (HH.out.at_ HB8.out).toMIn OK.out HBB.out)
      go_wp2_with fail
      refine K9.out.mono ?_
      rintro e w9 ⟨yq, rfl, hq, hb⟩
      have HB9 := hid (HB8.out.trans (hb.mono HB8.out.size))
      have HT9 := hid (HT8.out.keep hb)
      have BB9 := hid (BB8.out.trans (hb.mono BB8.out.size))
      have LB9 := hid (LB8.out.keep hb)
      have HYQ := hid hq
      clear hq
      clear hb K9 t0 t1 t2 t3 l0 l1
      obtain ⟨t0, t1, t2, t3⟩ := HT9.out.c4
      obtain ⟨l0, l1⟩ := LB9.out.c2
      have BQ0 := hid (Below.refl w9.heap.size w9)
      have K10 := hid (ints_same (HYB.out.at_ BB9.out) (HYQ.out.at_ BQ0.out))
      go_wp2_with fail
      refine K10.out.mono ?_
      rintro e w10 ⟨rfl, hb⟩
      have HB10 := hid (HB9.out.trans (hb.mono HB9.out.size))
      have HT10 := hid (HT9.out.keep hb)
      have BB10 := hid (BB9.out.trans (hb.mono BB9.out.size))
      have BQ10 := hid (BQ0.out.trans (hb.mono BQ0.out.size))
      have LB10 := hid (LB9.out.keep hb)
      clear hb K10 t0 t1 t2 t3 l0 l1
      obtain ⟨t0, t1, t2, t3⟩ := HT10.out.c4
      obtain ⟨l0, l1⟩ := LB10.out.c2
      have K11 := hid (qmov (HH.out.at_ HB10.out).toMIn OK.out (HYQ.out.at_ BQ10.out) (lst_len m l))
      rw [HMJ.out] at K11
      go_wp2_with fail
      refine K11.out.mono ?_
      rintro e w11 ⟨rfl, hb⟩
      have HB11 := hid (HB10.out.trans (hb.mono HB10.out.size))
      have HT11 := hid (HT10.out.keep hb)
      have BB11 := hid (BB10.out.trans (hb.mono BB10.out.size))
      have BQ11 := hid (BQ10.out.trans (hb.mono BQ10.out.size))
      have LB11 := hid (LB10.out.keep hb)
      clear hb K11 t0 t1 t2 t3 l0 l1
      obtain ⟨t0, t1, t2, t3⟩ := HT11.out.c4
      obtain ⟨l0, l1⟩ := LB11.out.c2
      have K12 := hid (awake_any w11)
      go_wp2_with fail
      refine K12.out.mono ?_
      rintro e w12 ⟨rfl, hb⟩
      have HB12 := hid (HB11.out.trans (hb.mono HB11.out.size))
      have HT12 := hid (HT11.out.keep hb)
      have BB12 := hid (BB11.out.trans (hb.mono BB11.out.size))
      have BQ12 := hid (BQ11.out.trans (hb.mono BQ11.out.size))
      have LB12 := hid (LB11.out.keep hb)
      clear hb K12 t0 t1 t2 t3 l0 l1
      obtain ⟨t0, t1, t2, t3⟩ := HT12.out.c4
      obtain ⟨l0, l1⟩ := LB12.out.c2
      clear t0 t1 t2 t3 l0 l1
      go_wp2
      go_ret
      exact ⟨rfl, HB12.out⟩
    · by_cases hm : mN ≤ mv
      · have hbf : b = true := by rw [← HIS.out]; unfold isB; rw [ha, hg, ← (areB_iff.1 ha).1, HMN.out, decide_eq_true hm]; rfl
        have HARE := hid ha
        have HLS := hid (areB_iff.1 ha).1
        have HRG := hid hg
        have hmB : decide (mN ≤ mv) = true := decide_eq_true hm
        subst hbf
        clear ha hg
        have K7 := hid (qare (HH.out.at_ HB6.out).toMIn OK.out (HX.out.at_ HB6.out) (by have := HLX.out; omega))
        rw [HARE.out] at K7
        go_wp2_with fail
        refine K7.out.mono ?_
        rintro e w7 ⟨rfl, hb⟩
        have HB7 := hid (HB6.out.trans (hb.mono HB6.out.size))
        have HT7 := hid (HT6.out.keep hb)
        have BB7 := hid (BB6.out.trans (hb.mono BB6.out.size))
        have LB7 := hid (LB6.out.keep hb)
        clear hb K7 t0 t1 t2 t3 l0 l1
        obtain ⟨t0, t1, t2, t3⟩ := HT7.out.c4
        obtain ⟨l0, l1⟩ := LB7.out.c2
        have K8 := hid (qrgt (lo := lo) (hi := hi) (HH.out.at_ HB7.out).toMIn OK.out (HX.out.at_ HB7.out) HLS.out)
        rw [HRG.out] at K8
        go_wp2_with fail
        refine K8.out.mono ?_
        rintro e w8 ⟨rfl, hb⟩
        have HB8 := hid (HB7.out.trans (hb.mono HB7.out.size))
        have HT8 := hid (HT7.out.keep hb)
        have BB8 := hid (BB7.out.trans (hb.mono BB7.out.size))
        have LB8 := hid (LB7.out.keep hb)
        clear hb K8 t0 t1 t2 t3 l0 l1
        obtain ⟨t0, t1, t2, t3⟩ := HT8.out.c4
        obtain ⟨l0, l1⟩ := LB8.out.c2
        have K9 := hid (qmov (HH.out.at_ HB8.out).toMIn OK.out (HX.out.at_ HB8.out) HLS.out)
        rw [HMN.out] at K9
        go_wp2_with fail
        refine K9.out.mono ?_
        rintro e w9 ⟨rfl, hb⟩
        have HB9 := hid (HB8.out.trans (hb.mono HB8.out.size))
        have HT9 := hid (HT8.out.keep hb)
        have BB9 := hid (BB8.out.trans (hb.mono BB8.out.size))
        have LB9 := hid (LB8.out.keep hb)
        clear hb K9 t0 t1 t2 t3 l0 l1
        obtain ⟨t0, t1, t2, t3⟩ := HT9.out.c4
        obtain ⟨l0, l1⟩ := LB9.out.c2
        have K10 := hid (qbest_yes (HH.out.at_ HB9.out).toMIn OK.out HBB.out)
        go_wp2_with fail
        refine K10.out.mono ?_
        rintro e w10 ⟨yq, rfl, hq, hb⟩
        have HB10 := hid (HB9.out.trans (hb.mono HB9.out.size))
        have HT10 := hid (HT9.out.keep hb)
        have BB10 := hid (BB9.out.trans (hb.mono BB9.out.size))
        have LB10 := hid (LB9.out.keep hb)
        have HYQ := hid hq
        clear hq
        clear hb K10 t0 t1 t2 t3 l0 l1
        obtain ⟨t0, t1, t2, t3⟩ := HT10.out.c4
        obtain ⟨l0, l1⟩ := LB10.out.c2
        have BQ0 := hid (Below.refl w10.heap.size w10)
        have K11 := hid (ints_same (HYB.out.at_ BB10.out) (HYQ.out.at_ BQ0.out))
        go_wp2_with fail
        refine K11.out.mono ?_
        rintro e w11 ⟨rfl, hb⟩
        have HB11 := hid (HB10.out.trans (hb.mono HB10.out.size))
        have HT11 := hid (HT10.out.keep hb)
        have BB11 := hid (BB10.out.trans (hb.mono BB10.out.size))
        have BQ11 := hid (BQ0.out.trans (hb.mono BQ0.out.size))
        have LB11 := hid (LB10.out.keep hb)
        clear hb K11 t0 t1 t2 t3 l0 l1
        obtain ⟨t0, t1, t2, t3⟩ := HT11.out.c4
        obtain ⟨l0, l1⟩ := LB11.out.c2
        have K12 := hid (qmov (HH.out.at_ HB11.out).toMIn OK.out (HYQ.out.at_ BQ11.out) (lst_len m l))
        rw [HMJ.out] at K12
        go_wp2_with fail
        refine K12.out.mono ?_
        rintro e w12 ⟨rfl, hb⟩
        have HB12 := hid (HB11.out.trans (hb.mono HB11.out.size))
        have HT12 := hid (HT11.out.keep hb)
        have BB12 := hid (BB11.out.trans (hb.mono BB11.out.size))
        have BQ12 := hid (BQ11.out.trans (hb.mono BQ11.out.size))
        have LB12 := hid (LB11.out.keep hb)
        clear hb K12 t0 t1 t2 t3 l0 l1
        obtain ⟨t0, t1, t2, t3⟩ := HT12.out.c4
        obtain ⟨l0, l1⟩ := LB12.out.c2
        have K13 := hid (awake_any w12)
        go_wp2_with fail
        refine K13.out.mono ?_
        rintro e w13 ⟨rfl, hb⟩
        have HB13 := hid (HB12.out.trans (hb.mono HB12.out.size))
        have HT13 := hid (HT12.out.keep hb)
        have BB13 := hid (BB12.out.trans (hb.mono BB12.out.size))
        have BQ13 := hid (BQ12.out.trans (hb.mono BQ12.out.size))
        have LB13 := hid (LB12.out.keep hb)
        clear hb K13 t0 t1 t2 t3 l0 l1
        obtain ⟨t0, t1, t2, t3⟩ := HT13.out.c4
        obtain ⟨l0, l1⟩ := LB13.out.c2
        clear t0 t1 t2 t3 l0 l1
        go_wp2
        go_ret
        exact ⟨rfl, HB13.out⟩
      · have hbf : b = false := by rw [← HIS.out]; unfold isB; rw [ha, ← (areB_iff.1 ha).1, HMN.out, decide_eq_false hm]; rfl
        have HARE := hid ha
        have HLS := hid (areB_iff.1 ha).1
        have HRG := hid hg
        have hmB : decide (mN ≤ mv) = false := decide_eq_false hm
        subst hbf
        clear ha hg
        have K7 := hid (qare (HH.out.at_ HB6.out).toMIn OK.out (HX.out.at_ HB6.out) (by have := HLX.out; omega))
        rw [HARE.out] at K7
        go_wp2_with fail
        refine K7.out.mono ?_
        rintro e w7 ⟨rfl, hb⟩
        have HB7 := hid (HB6.out.trans (hb.mono HB6.out.size))
        have HT7 := hid (HT6.out.keep hb)
        have BB7 := hid (BB6.out.trans (hb.mono BB6.out.size))
        have LB7 := hid (LB6.out.keep hb)
        clear hb K7 t0 t1 t2 t3 l0 l1
        obtain ⟨t0, t1, t2, t3⟩ := HT7.out.c4
        obtain ⟨l0, l1⟩ := LB7.out.c2
        have K8 := hid (qrgt (lo := lo) (hi := hi) (HH.out.at_ HB7.out).toMIn OK.out (HX.out.at_ HB7.out) HLS.out)
        rw [HRG.out] at K8
        go_wp2_with fail
        refine K8.out.mono ?_
        rintro e w8 ⟨rfl, hb⟩
        have HB8 := hid (HB7.out.trans (hb.mono HB7.out.size))
        have HT8 := hid (HT7.out.keep hb)
        have BB8 := hid (BB7.out.trans (hb.mono BB7.out.size))
        have LB8 := hid (LB7.out.keep hb)
        clear hb K8 t0 t1 t2 t3 l0 l1
        obtain ⟨t0, t1, t2, t3⟩ := HT8.out.c4
        obtain ⟨l0, l1⟩ := LB8.out.c2
        have K9 := hid (qmov (HH.out.at_ HB8.out).toMIn OK.out (HX.out.at_ HB8.out) HLS.out)
        rw [HMN.out] at K9
        go_wp2_with fail
        refine K9.out.mono ?_
        rintro e w9 ⟨rfl, hb⟩
        have HB9 := hid (HB8.out.trans (hb.mono HB8.out.size))
        have HT9 := hid (HT8.out.keep hb)
        have BB9 := hid (BB8.out.trans (hb.mono BB8.out.size))
        have LB9 := hid (LB8.out.keep hb)
        clear hb K9 t0 t1 t2 t3 l0 l1
        obtain ⟨t0, t1, t2, t3⟩ := HT9.out.c4
        obtain ⟨l0, l1⟩ := LB9.out.c2
        have K10 := hid (qbest_yes (HH.out.at_ HB9.out).toMIn OK.out HBB.out)
        go_wp2_with fail
        refine K10.out.mono ?_
        rintro e w10 ⟨yq, rfl, hq, hb⟩
        have HB10 := hid (HB9.out.trans (hb.mono HB9.out.size))
        have HT10 := hid (HT9.out.keep hb)
        have BB10 := hid (BB9.out.trans (hb.mono BB9.out.size))
        have LB10 := hid (LB9.out.keep hb)
        have HYQ := hid hq
        clear hq
        clear hb K10 t0 t1 t2 t3 l0 l1
        obtain ⟨t0, t1, t2, t3⟩ := HT10.out.c4
        obtain ⟨l0, l1⟩ := LB10.out.c2
        have BQ0 := hid (Below.refl w10.heap.size w10)
        have K11 := hid (ints_same (HYB.out.at_ BB10.out) (HYQ.out.at_ BQ0.out))
        go_wp2_with fail
        refine K11.out.mono ?_
        rintro e w11 ⟨rfl, hb⟩
        have HB11 := hid (HB10.out.trans (hb.mono HB10.out.size))
        have HT11 := hid (HT10.out.keep hb)
        have BB11 := hid (BB10.out.trans (hb.mono BB10.out.size))
        have BQ11 := hid (BQ0.out.trans (hb.mono BQ0.out.size))
        have LB11 := hid (LB10.out.keep hb)
        clear hb K11 t0 t1 t2 t3 l0 l1
        obtain ⟨t0, t1, t2, t3⟩ := HT11.out.c4
        obtain ⟨l0, l1⟩ := LB11.out.c2
        have K12 := hid (qmov (HH.out.at_ HB11.out).toMIn OK.out (HYQ.out.at_ BQ11.out) (lst_len m l))
        rw [HMJ.out] at K12
        go_wp2_with fail
        refine K12.out.mono ?_
        rintro e w12 ⟨rfl, hb⟩
        have HB12 := hid (HB11.out.trans (hb.mono HB11.out.size))
        have HT12 := hid (HT11.out.keep hb)
        have BB12 := hid (BB11.out.trans (hb.mono BB11.out.size))
        have BQ12 := hid (BQ11.out.trans (hb.mono BQ11.out.size))
        have LB12 := hid (LB11.out.keep hb)
        clear hb K12 t0 t1 t2 t3 l0 l1
        obtain ⟨t0, t1, t2, t3⟩ := HT12.out.c4
        obtain ⟨l0, l1⟩ := LB12.out.c2
        have K13 := hid (awake_any w12)
        go_wp2_with fail
        refine K13.out.mono ?_
        rintro e w13 ⟨rfl, hb⟩
        have HB13 := hid (HB12.out.trans (hb.mono HB12.out.size))
        have HT13 := hid (HT12.out.keep hb)
        have BB13 := hid (BB12.out.trans (hb.mono BB12.out.size))
        have BQ13 := hid (BQ12.out.trans (hb.mono BQ12.out.size))
        have LB13 := hid (LB12.out.keep hb)
        clear hb K13 t0 t1 t2 t3 l0 l1
        obtain ⟨t0, t1, t2, t3⟩ := HT13.out.c4
        obtain ⟨l0, l1⟩ := LB13.out.c2
        clear t0 t1 t2 t3 l0 l1
        go_wp2
        go_ret
        exact ⟨rfl, HB13.out⟩

theorem bests_any9 (m : MapD) (A : Option Addr) (c : Nat) (A2 : Option Addr) (c2 : Nat) (A3 : Option Addr) (c3 : Nat) (Ax : Option Addr) (cx : Nat) (xs : List Int) (lo hi mv : Int) (w : World) (h : MArg m A c A2 c2 A3 c3 w) (hx : IntsAt (Ax, cx) xs w) (hx0 : Ax = none → cx = 0) :
    Calls Try.prog 10 #[.agg #[.slice A m.old.length c, .int .i64 m.nw, .slice A2 m.ss.length c2, .slice A3 m.js.length c3], .slice Ax xs.length cx, .agg #[.int .i64 lo, .int .i64 hi], .int .i64 mv] w fun e w' => e = .returned (.bool true) ∧ Below w.heap.size w w' := by
  cases ht : thinM m
  · exact bes_not m A c A2 c2 A3 c3 Ax cx xs lo hi mv w h hx hx0 ht
  · by_cases hl : 12 < xs.length
    · exact bes_long m A c A2 c2 A3 c3 Ax cx xs lo hi mv w h hx hx0 ht hl
    · by_cases hc : chkM m = 0
      · cases hr : rngOk lo hi 40000
        · cases hi2 : inB lo 0 hi
          · exact bes_rlo m A c A2 c2 A3 c3 Ax cx xs lo hi mv w h hx hx0 ht hl hc hi2
          · refine bes_rhi m A c A2 c2 A3 c3 Ax cx xs lo hi mv w h hx hx0 ht hl hc hi2 ?_
            unfold rngOk at hr
            unfold inB at hi2
            simp only [decide_eq_false_iff_not, decide_eq_true_eq] at hr hi2
            omega
        · by_cases hu : cstM m = 0
          · cases hbb : bestB m lo hi with
            | none => exact bes_none m A c A2 c2 A3 c3 Ax cx xs lo hi mv w h hx hx0 ht hl hr hu _ rfl hbb
            | some p => exact bes_some m A c A2 c2 A3 c3 Ax cx xs lo hi mv w h hx hx0 ht hl hr hu _ rfl p.1 p.2 hbb
          · exact bes_unc m A c A2 c2 A3 c3 Ax cx xs lo hi mv w h hx hx0 ht hl hc hr hu
      · exact bes_flt m A c A2 c2 A3 c3 Ax cx xs lo hi mv w h hx hx0 ht hl _ hc rfl

open Go.ChangeShapes Go.WideShapes Go.ChangeAt in
set_option maxRecDepth 100000 in
theorem bests_lifted (os : Os) (started : os.Started) (H : Type) (enc : TypeId × Value → H) :
    ReturnsInHanded {} Try.checked os 10 .any (Rows.borderBestsSpec.pre6 enc Try.prog Try.f10 Rows.borderBestsRow.domain false) (Rows.borderBestsSpec.post enc Try.prog Try.f10 false true false false) := by
  refine returnsInHanded_of_change (C := Try.checked) own started (by kernel_rfl) Try.func10
    (ChangeSpec.witness6 (enc := enc) (C := Try.checked) false ⟨#[], #[.agg #[.slice none 0 0, .int .i64 0, .slice none 0 0, .slice none 0 0], .slice none 0 0, .agg #[.int .i64 0, .int .i64 0], .int .i64 0], []⟩ 8 (by kernel_rfl) (by kernel_rfl) (by kernel_rfl) (by kernel_rfl)) ?_
  intro W base args ds gs before hval0 hW hcnd _
  have hval : ∀ (j : Nat) t v, Try.f10.params[j]? = some t → args[j]? = some v → Value.okWide Try.prog W .any base t v := hval0
  have hW' := hW
  obtain ⟨p, q, hA0, hV, rfl, hfz, hnd⟩ := hW
  have hA : DataW.TrodAll enc Try.prog W 0 (fun _ => true) true Try.f10.params.toList args.toList ds p := hA0
  rw [Try.params10] at hA hval
  obtain ⟨v0, vs0, d0, ds0, p0, q0, hargs, rfl, rfl, h0, r0⟩ := trodAll_cons hA
  obtain ⟨v1, vs1, d1, ds1, p1, q1, rfl, rfl, rfl, h1, r1⟩ := trodAll_cons r0
  obtain ⟨v2, vs2, d2, ds2, p2, q2, rfl, rfl, rfl, h2, r2⟩ := trodAll_cons r1
  obtain ⟨v3, vs3, d3, ds3, p3, q3, rfl, rfl, rfl, h3, r3⟩ := trodAll_cons r2
  obtain ⟨rfl, rfl, rfl⟩ := trodAll_nil r3
  obtain rfl : args = #[v0, v1, v2, v3] := by cases args; simp_all
  obtain ⟨rfl, rfl⟩ := trodVars_none hV
  obtain ⟨m, A, c, A2, c2, A3, c3, rfl, ht⟩ := open_map (hval 0 26 v0 rfl rfl) h0
  obtain ⟨Ax, cx, xs, rfl, u1, u2, u3, _, u5⟩ := open_nums Try.underlying22 Try.underlying3 (by kernel_rfl) (hval 1 22 v1 rfl rfl) h1
  obtain ⟨lo, hi, rfl⟩ := open_lim (hval 2 43 v2 rfl rfl) h2
  obtain ⟨mv, rfl, rfl, rfl, w3⟩ := open_int Try.underlying3 (hval 3 3 v3 rfl rfl) h3
  refine (bests_any9 m A c A2 c2 A3 c3 Ax cx xs lo hi mv W ht ⟨u5, u1, u2⟩ u3).mono fun e W' ⟨he, hb⟩ => ⟨_, he, ?_⟩
  exact law_post laid_out rfl rfl (by kernel_rfl) hW' rfl hb

theorem bests_over : Rows.borderBestsRow.holds Try.pinned (OpenSpec.ofChange Rows.borderBestsSpec) :=
  OpenClaim.holds_of_wide 10 Try.f10 rfl rfl rfl rfl rfl rfl rfl ⟨rfl, rfl, rfl, rfl, rfl⟩ rfl rfl rfl rfl rfl (by kernel_rfl) Try.func10 (by kernel_rfl)
    (of_decide_eq_true (by kernel_rfl)) (by unfold Func.isWrapper; first | (rw [if_pos (by decide +kernel)]; kernel_rfl) | (rw [if_neg (by decide +kernel)]; exact ⟨rfl, rfl⟩))
    (fun os started H enc _ => bests_lifted os started H enc)
/-- the statement -/
theorem border_bests : Rows.BorderBestsSaid := bests_over
#print axioms border_bests
end Go.Proofs.Ytoeabajigfdkaaa
