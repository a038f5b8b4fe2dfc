/- For every map that is ready, with wider limits no more streets are moved; with a narrower range of a street, as long as the map is consistent, no bounds are wider and no more streets are moved: the statement BorderWider. No condition. -/
import Derived.StillTailTactics
import Derived.Test.YtoeabajigfdkaaaG1
import Derived.Test.YtoeabajigfdkaaaG3
import Derived.Test.YtoeabajigfdkaaaG17
import Derived.Test.YtoeabajigfdkaaaG22
namespace Go.Proofs.Ytoeabajigfdkaaa
open Go.RowKit Go.Shelf

/-- Best, whatever it finds -/
theorem best_all {m : MapD} {A : Option Addr} {c : Nat} {A2 : Option Addr} {c2 : Nat} {A3 : Option Addr} {c3 : Nat} {w : World} {lo hi : Int} (h : MIn m A c A2 c2 A3 c3 w) (he : askE m lo hi = 0) : Calls Try.prog 29 #[.agg #[.slice A m.old.length c, .int .i64 m.nw, .slice A2 m.ss.length c2, .slice A3 m.js.length c3], .agg #[.int .i64 lo, .int .i64 hi]] w fun e w' => ∃ y : (Option Addr × Nat × Nat) × Int × Int, e = .returned (.tuple #[.slice y.1.1 y.1.2.1 y.1.2.2, .int .i64 y.2.1, .int .i64 y.2.2]) ∧ True ∧ Below w.heap.size w w' := by
  cases hb : bestB m lo hi with
  | none => exact (best_no h he hb).mono fun e w' ⟨h1, h2⟩ => ⟨((none, 0, 0), 0, 7), h1, trivial, h2⟩
  | some p => exact (best_yes (l := p.2) (j := p.1) h he hb).mono fun e w' ⟨y, h1, _, h3⟩ => ⟨((y.1, (lst m p.2).length, y.2), (p.1 : Int), 0), h1, trivial, h3⟩
set_option maxRecDepth 100000 in
set_option maxHeartbeats 4000000 in
theorem wid_not (m : MapD) (A : Option Addr) (c : Nat) (A2 : Option Addr) (c2 : Nat) (A3 : Option Addr) (c3 : Nat) (p q v b : Int) (w : World) (h : MArg m A c A2 c2 A3 c3 w) (hr : readyM m = false) :
    Calls Try.prog 6 #[.agg #[.slice A m.old.length c, .int .i64 m.nw, .slice A2 m.ss.length c2, .slice A3 m.js.length c3], .int .u16 p, .int .u16 q, .int .u8 v, .int .u8 b] w fun e w' => e = .returned (.bool true) ∧ Below w.heap.size w w' := by
  have hB := below_box (w := w) #[.slice A m.old.length c, .int .i64 m.nw, .slice A2 m.ss.length c2, .slice A3 m.js.length c3] 26
  have hT := Blk.new w 26 #[.slice A m.old.length c, .int .i64 m.nw, .slice A2 m.ss.length c2, .slice A3 m.js.length c3]
  have HB0 := hid hB
  have HT0 := hid hT
  have HH := hid h
  obtain ⟨t0, t1, t2, t3⟩ := hT.c4
  clear h hB hT
  have HRD := hid hr
  clear hr
  go_enter Try.func6, Try.ntmps6
  have K1 := hid (mready_any m A c A2 c2 A3 c3 (w.alloc (.cells #[.slice A m.old.length c, .int .i64 m.nw, .slice A2 m.ss.length c2, .slice A3 m.js.length c3] 26)) (HH.out.at_ HB0.out).toMIn)
  rw [HRD.out] at K1
  go_wp2_with fail
  refine K1.out.mono ?_
  rintro e w1 ⟨rfl, hb⟩
  have HB1 := hid (HB0.out.trans (hb.mono HB0.out.size))
  have HT1 := hid (HT0.out.keep hb)
  clear hb K1 t0 t1 t2 t3
  obtain ⟨t0, t1, t2, t3⟩ := HT1.out.c4
  have K2 := hid (awake_any w1)
  go_wp2_with fail
  refine K2.out.mono ?_
  rintro e w2 ⟨rfl, hb⟩
  have HB2 := hid (HB1.out.trans (hb.mono HB1.out.size))
  have HT2 := hid (HT1.out.keep hb)
  clear hb K2 t0 t1 t2 t3
  obtain ⟨t0, t1, t2, t3⟩ := HT2.out.c4
  clear t0 t1 t2 t3
  go_wp2
  go_ret
  exact ⟨rfl, HB2.out⟩

set_option maxRecDepth 100000 in
set_option maxHeartbeats 8000000 in
theorem wid_none (m : MapD) (A : Option Addr) (c : Nat) (A2 : Option Addr) (c2 : Nat) (A3 : Option Addr) (c3 : Nat) (p q v b : Int) (w : World) (h : MArg m A c A2 c2 A3 c3 w) (hp0 : 0 ≤ p) (hp1 : p ≤ 65535) (hq0 : 0 ≤ q) (hq1 : q ≤ 65535) (hv0 : 0 ≤ v) (hv1 : v ≤ 255) (hb0 : 0 ≤ b) (hb1 : b ≤ 255) (hr : readyM m = true) (hbb : bestB m (p % 2000) (min 40000 (p % 2000 + q)) = none) :
    Calls Try.prog 6 #[.agg #[.slice A m.old.length c, .int .i64 m.nw, .slice A2 m.ss.length c2, .slice A3 m.js.length c3], .int .u16 p, .int .u16 q, .int .u8 v, .int .u8 b] w fun e w' => e = .returned (.bool true) ∧ Below w.heap.size w w' := by
  have hB := below_box (w := w) #[.slice A m.old.length c, .int .i64 m.nw, .slice A2 m.ss.length c2, .slice A3 m.js.length c3] 26
  have hT := Blk.new w 26 #[.slice A m.old.length c, .int .i64 m.nw, .slice A2 m.ss.length c2, .slice A3 m.js.length c3]
  have HB0 := hid hB
  have HT0 := hid hT
  have HH := hid h
  obtain ⟨t0, t1, t2, t3⟩ := hT.c4
  clear h hB hT
  have HRD := hid hr
  have HCM := hid (ready_iff.1 hr).2
  have HTH := hid (ready_iff.1 hr).1
  have OK := hid (chk_okm (cst_ok (ready_iff.1 hr).2).1)
  have hs8 := OK.out.s8
  have hs1 := OK.out.s1
  obtain ⟨lo, hlo⟩ : ∃ lo, p % 2000 = lo := ⟨_, rfl⟩
  obtain ⟨hi, hhi⟩ : ∃ hi, min 40000 (lo + q) = hi := ⟨_, rfl⟩
  have hlo0 : 0 ≤ lo ∧ lo < 2000 := by rw [← hlo]; exact ⟨Int.emod_nonneg _ (by omega), Int.emod_lt_of_pos _ (by omega)⟩
  obtain ⟨lo2, hlo2⟩ : ∃ z, max 0 (lo - b) = z := ⟨_, rfl⟩
  obtain ⟨hi2, hhi2⟩ : ∃ z, min 40000 (hi + b) = z := ⟨_, rfl⟩
  have HE0 := hid (ask_mk (ready_iff.1 hr).2 hlo0.1 (by omega) (by omega) : askE m lo hi = 0)
  have HE2 := hid (ask_mk (ready_iff.1 hr).2 (by omega) (by omega) (by omega) : askE m lo2 hi2 = 0)
  have HLI := hid (show 0 ≤ lo ∧ lo ≤ hi ∧ hi ≤ 40000 by omega)
  have HWI := hid (show lo2 ≤ lo ∧ hi ≤ hi2 by omega)
  have htm : p.tmod 2000 = lo := by rw [Int.tmod_eq_emod_of_nonneg hp0]; exact hlo
  have hwp : IntKind.i64.wrap p = p := IntWalk.i64_in _ (by omega)
  have hwq : IntKind.i64.wrap q = q := IntWalk.i64_in _ (by omega)
  have hwb : IntKind.i64.wrap b = b := IntWalk.i64_in _ (by omega)
  have hwv : IntKind.i64.wrap v = v := IntWalk.i64_in _ (by omega)
  have hwl : IntKind.i64.wrap lo = lo := IntWalk.i64_in _ (by omega)
  have hws : IntKind.i64.wrap (lo + q) = lo + q := IntWalk.i64_in _ (by omega)
  have hwm : IntKind.i64.wrap (lo - b) = lo - b := IntWalk.i64_in _ (by omega)
  have hwh : IntKind.i64.wrap (hi + b) = hi + b := IntWalk.i64_in _ (by omega)
  have hite : (if lo + q < 40000 then lo + q else 40000) = hi := by rw [← hhi]; split <;> omega
  have hitv : (if lo + q < 40000 then Value.int .i64 (lo + q) else Value.int .i64 40000) = Value.int .i64 hi := by rw [← hhi]; split <;> congr 1 <;> omega
  have hit2 : (if hi + b < 40000 then hi + b else 40000) = hi2 := by rw [← hhi2]; split <;> omega
  have hiv2 : (if hi + b < 40000 then Value.int .i64 (hi + b) else Value.int .i64 40000) = Value.int .i64 hi2 := by rw [← hhi2]; split <;> congr 1 <;> omega
  have hit3 : (if 0 < lo - b then lo - b else 0) = lo2 := by rw [← hlo2]; split <;> omega
  have hiv3 : (if 0 < lo - b then Value.int .i64 (lo - b) else Value.int .i64 0) = Value.int .i64 lo2 := by rw [← hlo2]; split <;> congr 1 <;> omega
  have hit4 : (if b < lo then lo - b else 0) = lo2 := by rw [← hlo2]; split <;> omega
  have hiv4 : (if b < lo then Value.int .i64 (lo - b) else Value.int .i64 0) = Value.int .i64 lo2 := by rw [← hlo2]; split <;> congr 1 <;> omega
  obtain ⟨k, hk⟩ : ∃ k : Nat, (k : Int) = v % (m.ss.length : Int) := ⟨(v % (m.ss.length : Int)).toNat, by have := Int.emod_nonneg v (show (m.ss.length : Int) ≠ 0 by omega); omega⟩
  have hkI : (k : Int) < (m.ss.length : Int) := by rw [hk]; exact Int.emod_lt_of_pos v (by omega)
  have htk : v.tmod (m.ss.length : Int) = (k : Int) := by rw [Int.tmod_eq_emod_of_nonneg hv0]; exact hk.symm
  have hwk : IntKind.i64.wrap (k : Int) = (k : Int) := IntWalk.i64_in _ (by omega)
  have hkz : ¬ (m.ss.length : Int) = 0 := by omega
  obtain ⟨s, hs⟩ : ∃ s, m.ss[k]? = some s := ⟨_, List.getElem?_eq_getElem (by omega)⟩
  have hsb := OK.out.stt s (List.mem_of_getElem? hs)
  obtain ⟨b9, hb9⟩ : ∃ z, b % 9 = z := ⟨_, rfl⟩
  have hb90 : 0 ≤ b9 ∧ b9 < 9 := by rw [← hb9]; exact ⟨Int.emod_nonneg _ (by omega), Int.emod_lt_of_pos _ (by omega)⟩
  have ht9 : b.tmod 9 = b9 := by rw [Int.tmod_eq_emod_of_nonneg hb0]; exact hb9
  have hw9 : IntKind.i64.wrap b9 = b9 := IntWalk.i64_in _ (by omega)
  obtain ⟨u, hu⟩ : ∃ z, b / 16 = z := ⟨_, rfl⟩
  have hu0 : 0 ≤ u ∧ u ≤ 16 := by omega
  have htu : b.tdiv 16 = u := by rw [Int.tdiv_eq_ediv_of_nonneg hb0]; exact hu
  have hwu : IntKind.i64.wrap u = u := IntWalk.i64_in _ (by omega)
  have hwa : IntKind.i64.wrap (s.lo + b9) = s.lo + b9 := IntWalk.i64_in _ (by omega)
  have hwc : IntKind.i64.wrap (s.hi - u) = s.hi - u := IntWalk.i64_in _ (by omega)
  obtain ⟨l1, hl1⟩ : ∃ z, min s.hi (s.lo + b9) = z := ⟨_, rfl⟩
  obtain ⟨h1, hh1⟩ : ∃ z, max l1 (s.hi - u) = z := ⟨_, rfl⟩
  have hitl : (if s.lo + b9 < s.hi then s.lo + b9 else s.hi) = l1 := by rw [← hl1]; split <;> omega
  have hivl : (if s.lo + b9 < s.hi then Value.int .i64 (s.lo + b9) else Value.int .i64 s.hi) = Value.int .i64 l1 := by rw [← hl1]; split <;> congr 1 <;> omega
  have hith : (if l1 < s.hi - u then s.hi - u else l1) = h1 := by rw [← hh1]; split <;> omega
  have hivh : (if l1 < s.hi - u then Value.int .i64 (s.hi - u) else Value.int .i64 l1) = Value.int .i64 h1 := by rw [← hh1]; split <;> congr 1 <;> omega
  have HS := hid hs
  have HNR := hid (nar_of hs (show s.lo ≤ l1 by omega) (show h1 ≤ s.hi by omega))
  have HBND := hid (bndL_len m)
  rw [hlo, hhi] at hbb
  have HBB := hid hbb
  clear hbb
  clear hr hlo hhi hlo2 hhi2 hk hs hb9 hu hl1 hh1 hsb
  go_enter Try.func6, Try.ntmps6
  have K1 := hid (mready_any m A c A2 c2 A3 c3 (w.alloc (.cells #[.slice A m.old.length c, .int .i64 m.nw, .slice A2 m.ss.length c2, .slice A3 m.js.length c3] 26)) (HH.out.at_ HB0.out).toMIn)
  rw [HRD.out] at K1
  go_wp2_with fail
  refine K1.out.mono ?_
  rintro e w1 ⟨rfl, hb⟩
  have HB1 := hid (HB0.out.trans (hb.mono HB0.out.size))
  have HT1 := hid (HT0.out.keep hb)
  clear hb K1 t0 t1 t2 t3
  obtain ⟨t0, t1, t2, t3⟩ := HT1.out.c4
  have HNE := hid (show w.heap.size < w1.heap.size by have := HT1.out.lt; omega)
  have K2 := hid (between_any lo hi w1)
  go_wp2_with fail
  refine K2.out.mono ?_
  rintro e w2 ⟨rfl, hb⟩
  have HB2 := hid (HB1.out.trans (hb.mono HB1.out.size))
  have HT2 := hid (HT1.out.keep hb)
  clear hb K2 t0 t1 t2 t3
  obtain ⟨t0, t1, t2, t3⟩ := HT2.out.c4
  have HPRE := HT2
  go_upto_region 4 with (fail)
  refine gen (p := Code.wp _ _ _ _) (fun W => Below w2.heap.size w2 W ∧ Blk W w2.heap.size 49 #[.int .i64 lo, .int .i64 hi]) ⟨below_box _ _, Blk.new _ _ _⟩ ?_
  rintro w3 ⟨hb, hl9⟩
  have HB3 := hid (HB2.out.trans (hb.mono HB2.out.size))
  have HT3 := hid (HT2.out.keep hb)
  have LB0 := hid hl9
  have HLN := hid (show w.heap.size < w2.heap.size by have := HPRE.out.lt; omega)
  clear hb hl9 t0 t1 t2 t3
  generalize w2.heap.size = LN at *
  obtain ⟨t0, t1, t2, t3⟩ := HT3.out.c4
  obtain ⟨l0, l1⟩ := LB0.out.c2
  have K4 := hid (between_any lo2 hi2 w3)
  go_wp2_with fail
  refine K4.out.mono ?_
  rintro e w4 ⟨rfl, hb⟩
  have HB4 := hid (HB3.out.trans (hb.mono HB3.out.size))
  have HT4 := hid (HT3.out.keep hb)
  have LB4 := hid (LB0.out.keep hb)
  clear hb K4 t0 t1 t2 t3 l0 l1
  obtain ⟨t0, t1, t2, t3⟩ := HT4.out.c4
  obtain ⟨l0, l1⟩ := LB4.out.c2
  have HPRE := HT4
  go_upto_region 5 with (fail)
  refine gen (p := Code.wp _ _ _ _) (fun W => Below w4.heap.size w4 W ∧ Blk W w4.heap.size 49 #[.int .i64 lo2, .int .i64 hi2]) ⟨below_box _ _, Blk.new _ _ _⟩ ?_
  rintro w5 ⟨hb, hl9⟩
  have HB5 := hid (HB4.out.trans (hb.mono HB4.out.size))
  have HT5 := hid (HT4.out.keep hb)
  have LB5 := hid (LB4.out.keep hb)
  clear l0 l1
  have LBM0 := hid hl9
  have HLM := hid (show w.heap.size < w4.heap.size by have := HPRE.out.lt; omega)
  clear hb hl9 t0 t1 t2 t3
  generalize w4.heap.size = LM at *
  obtain ⟨t0, t1, t2, t3⟩ := HT5.out.c4
  obtain ⟨l0, l1⟩ := LB5.out.c2
  obtain ⟨k0, k1⟩ := LBM0.out.c2
  go_upto_region 6 with (fail)
  refine gen (p := Code.wp _ _ _ _) (fun W => Below w5.heap.size w5 W ∧ Blk W w5.heap.size 26 #[.slice A m.old.length c, .int .i64 m.nw, .slice A2 m.ss.length c2, .slice A3 m.js.length c3]) ⟨below_box _ _, Blk.new _ _ _⟩ ?_
  rintro w6 ⟨hb, hx⟩
  have HB6 := hid (HB5.out.trans (hb.mono HB5.out.size))
  have HT6 := hid (HT5.out.keep hb)
  have LB6 := hid (LB5.out.keep hb)
  clear l0 l1
  have LBM6 := hid (LBM0.out.keep hb)
  clear k0 k1
  have hXW := HB5.out.size
  have HXX := hid hx
  clear hb hx t0 t1 t2 t3
  have HXL := hid (show w.heap.size < w5.heap.size ∧ LN < w5.heap.size ∧ LM < w5.heap.size from ⟨HT5.out.lt, LB5.out.lt, LBM0.out.lt⟩)
  generalize w5.heap.size = XN at *
  obtain ⟨t0, t1, t2, t3⟩ := (HT6.out.alloc (.cells #[] 45)).c4
  go_wp2_with (at_builtin; refine wpList_run_append rfl _ _ 23 rfl rfl rfl (copy_stts (base := w6.heap.size) (HH.out.at_ (HB6.out.trans ((below_box _ _).mono HB6.out.size))).toMIn.is (Blk.new _ _ _) (Nat.le_refl _) hs1 (by omega)) ?_; rintro v' w7 ⟨ho7, hb7⟩; obtain ⟨g, cap, cur, rfl, hS7, hg7, hc7, hm7⟩ := SttB.of_row ho7 hs1; have hst7 := then_below (below_box _ _) hb7; have HX7 := hid (HXX.out.keep hst7); have HT7 := hid (HT6.out.keep hst7); have HB7 := hid (HB6.out.trans (hst7.mono HB6.out.size)); have LB7 := hid (LB6.out.keep hst7); have LM7 := hid (LBM6.out.keep hst7); obtain ⟨x0, x1, x2, x3⟩ := HX7.out.c4; have xf := HX7.out.frozen 2; have xl := HX7.out.lt; have HS7 := hid hS7; have hgx : XN < g := (by have := HXX.out.lt; omega); have hgw : w.heap.size ≤ g := (by have := HXL.out; omega); clear hst7 ho7 hb7 hS7 t0 t1 t2 t3)
  clear xf xl x0 x1 x2 x3
  refine gen (p := Code.wp _ _ _ _) (fun W => Below w.heap.size w W ∧ Blk W XN 26 #[.slice A m.old.length c, .int .i64 m.nw, .slice (some ⟨g, 0, none⟩) m.ss.length cap, .slice A3 m.js.length c3] ∧ Blk W w.heap.size 26 #[.slice A m.old.length c, .int .i64 m.nw, .slice A2 m.ss.length c2, .slice A3 m.js.length c3] ∧ (∃ cur, SttB W g cur m.ss) ∧ Blk W LN 49 #[.int .i64 lo, .int .i64 hi] ∧ Blk W LM 49 #[.int .i64 lo2, .int .i64 hi2]) ⟨HB7.out.setCell (p := ⟨XN, 2, none⟩) hXW _, HX7.out.set_ 2 _, blk_off HT7.out (by have := HXL.out; omega), ⟨cur, blk_off HS7.out.1 (by omega), HS7.out.2⟩, blk_off LB7.out (by have := HXL.out; omega), blk_off LM7.out (by have := HXL.out; omega)⟩ ?_
  rintro w7 ⟨hb, hx, ht, ⟨cur0, hs⟩, hln, hlm⟩
  have HBY := hid hb
  have HXY := hid hx
  have HTY := hid ht
  have HSY := hid hs
  have LBY := hid hln
  have LMY := hid hlm
  clear hb hx ht hs hln hlm
  clear HX7 HT7 HB7 HS7 LB7 LM7 cur
  go_wp2
  obtain ⟨x0, x1, x2, x3⟩ := xt_c4 HXY.out
  refine wp_region_quiet_xt (by kernel_rfl) (by kernel_rfl) ?_
  repeat (go_big_quiet_step (fail))
  refine wpQuiet_nil ?_
  intro W3 hw3
  have hb := of_xt hw3
  have HB8 := hid (HBY.out.trans (hb.mono HBY.out.size))
  have HX8 := hid (HXY.out.keep hb)
  have HT8 := hid (HTY.out.keep hb)
  have HS8 := hid (HSY.out.keep hb)
  have LB8 := hid (LBY.out.keep hb)
  have LM8 := hid (LMY.out.keep hb)
  clear hb hw3 x0 x1 x2 x3 HBY HXY HTY HSY LBY LMY
  generalize W3 = w8 at *
  have q3 := (HS8.out.1.cell (k * 5 + 3)).trans (HS8.out.2 k s HS.out 3 (by omega))
  have q4 := (HS8.out.1.cell (k * 5 + 4)).trans (HS8.out.2 k s HS.out 4 (by omega))
  have cf := HS8.out.1.frozen (k * 5 + 3)
  have cl := HS8.out.1.lt
  rw [show s.f 3 = s.lo from rfl] at q3
  rw [show s.f 4 = s.hi from rfl] at q4
  have HNW := hid (show Below w.heap.size w (w8.setCell ⟨g, k * 5 + 3, none⟩ (.int .i64 l1)).drew ∧ Blk (w8.setCell ⟨g, k * 5 + 3, none⟩ (.int .i64 l1)).drew XN 26 #[.slice A m.old.length c, .int .i64 m.nw, .slice (some ⟨g, 0, none⟩) m.ss.length cap, .slice A3 m.js.length c3] ∧ Blk (w8.setCell ⟨g, k * 5 + 3, none⟩ (.int .i64 l1)).drew w.heap.size 26 #[.slice A m.old.length c, .int .i64 m.nw, .slice A2 m.ss.length c2, .slice A3 m.js.length c3] ∧ (∃ cur, SttB (w8.setCell ⟨g, k * 5 + 3, none⟩ (.int .i64 l1)).drew g cur (m.ss.set k (narS s l1 s.hi))) ∧ Blk (w8.setCell ⟨g, k * 5 + 3, none⟩ (.int .i64 l1)).drew LN 49 #[.int .i64 lo, .int .i64 hi] ∧ Blk (w8.setCell ⟨g, k * 5 + 3, none⟩ (.int .i64 l1)).drew LM 49 #[.int .i64 lo2, .int .i64 hi2] from ⟨(HB8.out.setCell (p := ⟨g, k * 5 + 3, none⟩) hgw _).drew, (blk_off HX8.out (by omega)).drew, (blk_off HT8.out (by have := HXL.out; omega)).drew, ⟨_, (HS8.out.set HS.out (r := 3) (s' := (narS s l1 s.hi)) (z := l1) (by omega) rfl (by intro q hq hne; rcases q with _ | _ | _ | _ | _ | q <;> first | rfl | omega)).1.drew, (HS8.out.set HS.out (r := 3) (s' := (narS s l1 s.hi)) (z := l1) (by omega) rfl (by intro q hq hne; rcases q with _ | _ | _ | _ | _ | q <;> first | rfl | omega)).2⟩, (blk_off LB8.out (by have := HXL.out; omega)).drew, (blk_off LM8.out (by have := HXL.out; omega)).drew⟩)
  go_wp2
  clear HB8 HX8 HT8 HS8 LB8 LM8
  go_still_tail 14, (by kernel_rfl)
  go_upto_region 9 with (fail)
  refine gen (p := Code.wp _ _ _ _) (fun W => (Below w.heap.size w W) ∧ (Blk W XN 26 #[.slice A m.old.length c, .int .i64 m.nw, .slice (some ⟨g, 0, none⟩) m.ss.length cap, .slice A3 m.js.length c3]) ∧ (Blk W w.heap.size 26 #[.slice A m.old.length c, .int .i64 m.nw, .slice A2 m.ss.length c2, .slice A3 m.js.length c3]) ∧ ((∃ cur, SttB W g cur (m.ss.set k (narS s l1 s.hi)))) ∧ (Blk W LN 49 #[.int .i64 lo, .int .i64 hi]) ∧ (Blk W LM 49 #[.int .i64 lo2, .int .i64 hi2])) HNW.out ?_
  rintro w9 ⟨hb, hx, ht, ⟨cur1, hs⟩, hln, hlm⟩
  have HB8 := hid hb
  have HX8 := hid hx
  have HT8 := hid ht
  have HS8 := hid hs
  have LB8 := hid hln
  have LM8 := hid hlm
  clear hb hx ht hs hln hlm
  clear q3 q4 cf cl HNW
  generalize w9 = w8 at *
  have q3 := (HS8.out.1.cell (k * 5 + 3)).trans (HS8.out.2 k (narS s l1 s.hi) (by rw [List.getElem?_set_self (List.getElem?_eq_some_iff.1 HS.out).1]) 3 (by omega))
  have q4 := (HS8.out.1.cell (k * 5 + 4)).trans (HS8.out.2 k (narS s l1 s.hi) (by rw [List.getElem?_set_self (List.getElem?_eq_some_iff.1 HS.out).1]) 4 (by omega))
  have cf := HS8.out.1.frozen (k * 5 + 4)
  have cl := HS8.out.1.lt
  rw [show (narS s l1 s.hi).f 3 = l1 from rfl] at q3
  rw [show (narS s l1 s.hi).f 4 = s.hi from rfl] at q4
  have HNW := hid (show Below w.heap.size w (w8.setCell ⟨g, k * 5 + 4, none⟩ (.int .i64 h1)).drew ∧ Blk (w8.setCell ⟨g, k * 5 + 4, none⟩ (.int .i64 h1)).drew XN 26 #[.slice A m.old.length c, .int .i64 m.nw, .slice (some ⟨g, 0, none⟩) m.ss.length cap, .slice A3 m.js.length c3] ∧ Blk (w8.setCell ⟨g, k * 5 + 4, none⟩ (.int .i64 h1)).drew w.heap.size 26 #[.slice A m.old.length c, .int .i64 m.nw, .slice A2 m.ss.length c2, .slice A3 m.js.length c3] ∧ (∃ cur, SttB (w8.setCell ⟨g, k * 5 + 4, none⟩ (.int .i64 h1)).drew g cur (m.ss.set k (narS s l1 h1))) ∧ Blk (w8.setCell ⟨g, k * 5 + 4, none⟩ (.int .i64 h1)).drew LN 49 #[.int .i64 lo, .int .i64 hi] ∧ Blk (w8.setCell ⟨g, k * 5 + 4, none⟩ (.int .i64 h1)).drew LM 49 #[.int .i64 lo2, .int .i64 hi2] from ⟨(HB8.out.setCell (p := ⟨g, k * 5 + 4, none⟩) hgw _).drew, (blk_off HX8.out (by omega)).drew, (blk_off HT8.out (by have := HXL.out; omega)).drew, ⟨_, ((show SttB _ g _ (m.ss.set k (narS s l1 h1)) by have h9 := HS8.out.set (k := k) (s := (narS s l1 s.hi)) (s' := (narS s l1 h1)) (r := 4) (z := h1) (by rw [List.getElem?_set_self (List.getElem?_eq_some_iff.1 HS.out).1]) (by omega) rfl (by intro q hq hne; rcases q with _ | _ | _ | _ | _ | q <;> first | rfl | omega); rw [List.set_set] at h9; exact h9)).1.drew, ((show SttB _ g _ (m.ss.set k (narS s l1 h1)) by have h9 := HS8.out.set (k := k) (s := (narS s l1 s.hi)) (s' := (narS s l1 h1)) (r := 4) (z := h1) (by rw [List.getElem?_set_self (List.getElem?_eq_some_iff.1 HS.out).1]) (by omega) rfl (by intro q hq hne; rcases q with _ | _ | _ | _ | _ | q <;> first | rfl | omega); rw [List.set_set] at h9; exact h9)).2⟩, (blk_off LB8.out (by have := HXL.out; omega)).drew, (blk_off LM8.out (by have := HXL.out; omega)).drew⟩)
  go_wp2
  clear HB8 HX8 HT8 HS8 LB8 LM8
  go_still_tail 14, (by kernel_rfl)
  go_upto_region 10 with (fail)
  refine gen (p := Code.wp _ _ _ _) (fun W => (Below w.heap.size w W) ∧ (Blk W XN 26 #[.slice A m.old.length c, .int .i64 m.nw, .slice (some ⟨g, 0, none⟩) m.ss.length cap, .slice A3 m.js.length c3]) ∧ (Blk W w.heap.size 26 #[.slice A m.old.length c, .int .i64 m.nw, .slice A2 m.ss.length c2, .slice A3 m.js.length c3]) ∧ ((∃ cur, SttB W g cur (m.ss.set k (narS s l1 h1)))) ∧ (Blk W LN 49 #[.int .i64 lo, .int .i64 hi]) ∧ (Blk W LM 49 #[.int .i64 lo2, .int .i64 hi2])) HNW.out ?_
  rintro w9 ⟨hb, hx, ht, ⟨cur1, hs⟩, hln, hlm⟩
  have HB8 := hid hb
  have HX8 := hid hx
  have HT8 := hid ht
  have HS8 := hid hs
  have LB8 := hid hln
  have LM8 := hid hlm
  clear hb hx ht hs hln hlm
  clear q3 q4 cf cl HNW
  generalize w9 = w8 at *
  have hgz := HS8.out
  obtain ⟨x, hxe⟩ : ∃ x, narM m k (narS s l1 h1) = x := ⟨_, rfl⟩
  have HXE := hid hxe
  have hxl : (narM m k (narS s l1 h1)).ss.length = m.ss.length := narM_len _ _ _
  have HXA := hid (show MArg x A c (some ⟨g, 0, none⟩) cap A3 c3 w8 by
    have h9 := HH.out.at_ HB8.out
    rw [← hxe]
    exact ⟨⟨h9.io, hgz.is, h9.ij, h9.l1, h9.m1, by rw [hxl]; exact hc7, hm7, h9.l3, h9.m3⟩, h9.z1, (fun e => by cases e), h9.z3⟩)
  have HXT := hid (show ThinP x by rw [← hxe]; exact ⟨HTH.out.1, by rw [hxl]; exact HTH.out.2.1, HTH.out.2.2⟩)
  have XB0 := hid (show Blk w8 XN 26 #[.slice A x.old.length c, .int .i64 x.nw, .slice (some ⟨g, 0, none⟩) x.ss.length cap, .slice A3 x.js.length c3] by rw [← hxe, hxl]; exact HX8.out)
  have BY0 := hid (Below.refl w8.heap.size w8)
  have HNX := hid (show Nar m x by rw [← hxe]; exact HNR.out)
  clear hgz hxe hxl HX8 HS8
  obtain ⟨t0, t1, t2, t3⟩ := HT8.out.c4
  obtain ⟨x0, x1, x2, x3⟩ := XB0.out.c4
  obtain ⟨l0, l1_⟩ := LB8.out.c2
  obtain ⟨k0, k1⟩ := LM8.out.c2
  clear t0 t1 t2 t3 l0 l1_ k0 k1 x0 x1 x2 x3
  go_wp2
  refine (wpIn_wide (n := 0)).1 ?_
  refine wpIn_region_each 10 (fun i v W' => match i with | 0 => v = .agg #[.slice A m.old.length c, .int .i64 m.nw, .slice A2 m.ss.length c2, .slice A3 m.js.length c3] | 1 => ∃ (y : (Option Addr × Nat) × (Option Addr × Nat) × (Option Addr × Nat)), v = .agg #[.slice y.1.1 m.old.length y.1.2, .int .i64 m.nw, .slice y.2.1.1 m.ss.length y.2.1.2, .slice y.2.2.1 m.js.length y.2.2.2] ∧ MIn m y.1.1 y.1.2 y.2.1.1 y.2.1.2 y.2.2.1 y.2.2.2 W' | 2 => v = .agg #[.int .i64 lo, .int .i64 hi] | 3 => v = .tuple #[.slice none 0 0, .int .i64 0, .int .i64 7] | 4 => v = .tuple #[.slice none 0 0, .int .i64 0, .int .i64 7] | 5 => v = .slice none 0 0 | 6 => v = .int .i64 0 | 7 => v = .int .i64 7 | 8 => v = .slice none 0 0 | 9 => v = .int .i64 0 | _ => True) (fun A B => Below A.heap.size A B) (fun _ _ => True) (by kernel_rfl) (by kernel_rfl) ?_ (fun h k => h.trans (k.mono h.size)) ⟨rfl, rfl, rfl, Nat.le_refl _, fun _ _ => rfl⟩ trivial (by kernel_rfl) ?_ ?_
  · intro i v W1 W2 hb h
    match i, h with
    | 0, h => exact h
    | 1, h =>
      obtain ⟨y, rfl, h1⟩ := h
      exact ⟨_, rfl, h1.at_ hb⟩
    | 2, h => exact h
    | 3, h => exact h
    | 4, h => exact h
    | 5, h => exact h
    | 6, h => exact h
    | 7, h => exact h
    | 8, h => exact h
    | 9, h => exact h
    | i + 10, h => trivial
  · refine ⟨?_, ?_, ?_, ?_, ?_, ?_, ?_, ?_, ?_, ?_, trivial⟩
    · -- 0
      intro li a1 W2 hA K hK
      have e5 := hA.par 5 (by kernel_rfl)
      obtain ⟨q1, q2, q3, q4⟩ := (HT8.out.keep hA.st).c4
      refine opStep none 0 rfl rfl (fun c hc => by cases hc) ?_
      go_simp
      exact hK _ _ rfl (Below.refl _ _) trivial
    · -- 1
      intro li a1 W2 hA K hK
      have e106 : a1.tmps.getD 106 undef = .agg #[.slice A m.old.length c, .int .i64 m.nw, .slice A2 m.ss.length c2, .slice A3 m.js.length c3] := hA.val 0 106 (by kernel_rfl) (by kernel_rfl)
      refine opStep none 0 rfl rfl (fun c hc => by cases hc) ?_
      go_simp
      refine (map_thin (HH.out.at_ (HB8.out.trans (hA.st.mono HB8.out.size))) HTH.out).mono ?_
      rintro e W3 ⟨P, Q, R, rfl, hy, hb3⟩
      exact hK _ _ ⟨(P, Q, R), rfl, hy⟩ hb3 trivial
    · -- 2
      intro li a1 W2 hA K hK
      have e11 := hA.par 11 (by kernel_rfl)
      obtain ⟨q1, q2⟩ := (LB8.out.keep hA.st).c2
      refine opStep none 0 rfl rfl (fun c hc => by cases hc) ?_
      go_simp
      exact hK _ _ rfl (Below.refl _ _) trivial
    · -- 3
      intro li a1 W2 hA K hK
      obtain ⟨y107, e107, h107⟩ := hA.val 1 107 (by kernel_rfl) (by kernel_rfl)
      have e108 : a1.tmps.getD 108 undef = .agg #[.int .i64 lo, .int .i64 hi] := hA.val 2 108 (by kernel_rfl) (by kernel_rfl)
      refine opStep none 0 rfl rfl (fun c hc => by cases hc) ?_
      go_simp
      refine (best_no h107 HE0.out HBB.out).mono ?_
      rintro e W3 ⟨rfl, hb3⟩
      exact hK _ _ rfl hb3 trivial
    · -- 4
      intro li a1 W2 hA K hK
      have e109 : a1.tmps.getD 109 undef = .tuple #[.slice none 0 0, .int .i64 0, .int .i64 7] := hA.val 3 109 (by kernel_rfl) (by kernel_rfl)
      refine opStep none 0 rfl rfl (fun c hc => by cases hc) ?_
      go_simp
      exact hK _ _ rfl (Below.refl _ _) trivial
    · -- 5
      intro li a1 W2 hA K hK
      have e105 : a1.tmps.getD 105 undef = .tuple #[.slice none 0 0, .int .i64 0, .int .i64 7] := hA.val 4 105 (by kernel_rfl) (by kernel_rfl)
      refine opStep none 0 rfl rfl (fun c hc => by cases hc) ?_
      go_simp
      exact hK _ _ rfl (Below.refl _ _) trivial
    · -- 6
      intro li a1 W2 hA K hK
      have e105 : a1.tmps.getD 105 undef = .tuple #[.slice none 0 0, .int .i64 0, .int .i64 7] := hA.val 4 105 (by kernel_rfl) (by kernel_rfl)
      refine opStep none 0 rfl rfl (fun c hc => by cases hc) ?_
      go_simp
      exact hK _ _ rfl (Below.refl _ _) trivial
    · -- 7
      intro li a1 W2 hA K hK
      have e105 : a1.tmps.getD 105 undef = .tuple #[.slice none 0 0, .int .i64 0, .int .i64 7] := hA.val 4 105 (by kernel_rfl) (by kernel_rfl)
      refine opStep none 0 rfl rfl (fun c hc => by cases hc) ?_
      go_simp
      exact hK _ _ rfl (Below.refl _ _) trivial
    · -- 8
      intro li a1 W2 hA K hK
      have e110 : a1.tmps.getD 110 undef = .slice none 0 0 := hA.val 5 110 (by kernel_rfl) (by kernel_rfl)
      refine opStep none 0 rfl rfl (fun c hc => by cases hc) ?_
      go_simp
      exact hK _ _ rfl (Below.refl _ _) trivial
    · -- 9
      intro li a1 W2 hA K hK
      have e111 : a1.tmps.getD 111 undef = .int .i64 0 := hA.val 6 111 (by kernel_rfl) (by kernel_rfl)
      refine opStep none 0 rfl rfl (fun c hc => by cases hc) ?_
      go_simp
      exact hK _ _ rfl (Below.refl _ _) trivial
  intro li a1 W2 hD
  have e15 : a1.tmps.getD 15 undef = .slice none 0 0 := hD.val 8 15 (by kernel_rfl) (by kernel_rfl)
  have e16 : a1.tmps.getD 16 undef = .int .i64 0 := hD.val 9 16 (by kernel_rfl) (by kernel_rfl)
  have e112 : a1.tmps.getD 112 undef = .int .i64 7 := hD.val 7 112 (by kernel_rfl) (by kernel_rfl)
  have hkp2 := hD.keeps (ds := [106, 107, 108, 109, 105, 110, 111, 112, 15, 16, 17]) (by kernel_rfl)
  have hds := hD.size
  have hsz9 : a1.tmps.size = 221 := hD.size
  have hdd := hD.defers
  have hst := hD.st
  refine tail_val (i := 10) (v := .int .i64 7) (W' := W2) none 0 rfl rfl rfl (fun c hc => by cases hc) (by go_simp) (by rw [hsz9]; decide) ?_
  intro a3 s3 d3 f3 o3
  have hkp3 := keeps_then hkp2 o3 (by decide)
  have e := act_mix [106, 107, 108, 109, 105, 110, 111, 112, 15, 16, 17] (s3.trans (hds)) (d3.trans (hdd)) (fun i _ hc => hkp3 i hc)
  have hgg0 : (fun i => a3.tmps.getD i undef) 17 = .int .i64 7 := f3
  have hgk15 : (fun i => a3.tmps.getD i undef) 15 = .slice none 0 0 := (o3 15 (by decide)).trans (e15)
  have hgk16 : (fun i => a3.tmps.getD i undef) 16 = .int .i64 0 := (o3 16 (by decide)).trans (e16)
  generalize (fun i => a3.tmps.getD i undef) = g' at e hgg0 hgk15 hgk16
  refine wpListIn_nil ?_
  rw [e]
  clear e hD hkp2 hkp3 hds hdd hsz9 s3 d3 f3 o3 e112 e15 e16
  simp only [mix, List.contains_cons, List.contains_nil, Nat.reduceAdd, Nat.reduceBEq, Bool.or_false, Bool.or_true, cond_true, cond_false, hgg0, hgk15, hgk16]
  clear hgg0 hgk15 hgk16
  have hb := hst
  clear hst
  have HB21 := hid (HB8.out.trans (hb.mono HB8.out.size))
  have HT21 := hid (HT8.out.keep hb)
  have BY21 := hid (BY0.out.trans (hb.mono BY0.out.size))
  have LB21 := hid (LB8.out.keep hb)
  have LBM21 := hid (LM8.out.keep hb)
  have XB21 := hid (XB0.out.keep hb)
  clear hb
  generalize W2 = w21 at *
  obtain ⟨t0, t1, t2, t3⟩ := HT21.out.c4
  obtain ⟨l0, l1_⟩ := LB21.out.c2
  obtain ⟨k0, k1⟩ := LBM21.out.c2
  obtain ⟨x0, x1, x2, x3⟩ := XB21.out.c4
  clear t0 t1 t2 t3 l0 l1_ k0 k1 x0 x1 x2 x3
  go_wp2
  refine (wpIn_wide (n := 0)).1 ?_
  refine wpIn_region_each 10 (fun i v W' => match i with | 0 => v = .agg #[.slice A m.old.length c, .int .i64 m.nw, .slice A2 m.ss.length c2, .slice A3 m.js.length c3] | 1 => ∃ (y : (Option Addr × Nat) × (Option Addr × Nat) × (Option Addr × Nat)), v = .agg #[.slice y.1.1 m.old.length y.1.2, .int .i64 m.nw, .slice y.2.1.1 m.ss.length y.2.1.2, .slice y.2.2.1 m.js.length y.2.2.2] ∧ MIn m y.1.1 y.1.2 y.2.1.1 y.2.1.2 y.2.2.1 y.2.2.2 W' | 2 => v = .agg #[.int .i64 lo2, .int .i64 hi2] | 3 => ∃ (y : (Option Addr × Nat × Nat) × Int × Int), v = .tuple #[.slice y.1.1 y.1.2.1 y.1.2.2, .int .i64 y.2.1, .int .i64 y.2.2] ∧ True | 4 => ∃ (y : (Option Addr × Nat × Nat) × Int × Int), v = .tuple #[.slice y.1.1 y.1.2.1 y.1.2.2, .int .i64 y.2.1, .int .i64 y.2.2] ∧ True | 5 => ∃ (y : (Option Addr × Nat × Nat) × Int × Int), v = .slice y.1.1 y.1.2.1 y.1.2.2 ∧ True | 6 => ∃ (y : (Option Addr × Nat × Nat) × Int × Int), v = .int .i64 y.2.1 ∧ True | 7 => ∃ (y : (Option Addr × Nat × Nat) × Int × Int), v = .int .i64 y.2.2 ∧ True | 8 => ∃ (y : (Option Addr × Nat × Nat) × Int × Int), v = .slice y.1.1 y.1.2.1 y.1.2.2 ∧ True | 9 => ∃ (y : (Option Addr × Nat × Nat) × Int × Int), v = .int .i64 y.2.1 ∧ True | _ => True) (fun A B => Below A.heap.size A B) (fun _ _ => True) (by kernel_rfl) (by kernel_rfl) ?_ (fun h k => h.trans (k.mono h.size)) ⟨rfl, rfl, rfl, Nat.le_refl _, fun _ _ => rfl⟩ trivial (by kernel_rfl) ?_ ?_
  · intro i v W1 W2 hb h
    match i, h with
    | 0, h => exact h
    | 1, h =>
      obtain ⟨y, rfl, h1⟩ := h
      exact ⟨_, rfl, h1.at_ hb⟩
    | 2, h => exact h
    | 3, h =>
      obtain ⟨y, rfl, h1⟩ := h
      exact ⟨_, rfl, trivial⟩
    | 4, h =>
      obtain ⟨y, rfl, h1⟩ := h
      exact ⟨_, rfl, trivial⟩
    | 5, h =>
      obtain ⟨y, rfl, h1⟩ := h
      exact ⟨_, rfl, trivial⟩
    | 6, h =>
      obtain ⟨y, rfl, h1⟩ := h
      exact ⟨_, rfl, trivial⟩
    | 7, h =>
      obtain ⟨y, rfl, h1⟩ := h
      exact ⟨_, rfl, trivial⟩
    | 8, h =>
      obtain ⟨y, rfl, h1⟩ := h
      exact ⟨_, rfl, trivial⟩
    | 9, h =>
      obtain ⟨y, rfl, h1⟩ := h
      exact ⟨_, rfl, trivial⟩
    | i + 10, h => trivial
  · refine ⟨?_, ?_, ?_, ?_, ?_, ?_, ?_, ?_, ?_, ?_, trivial⟩
    · -- 0
      intro li a1 W2 hA K hK
      have e5 := hA.par 5 (by kernel_rfl)
      obtain ⟨q1, q2, q3, q4⟩ := (HT21.out.keep hA.st).c4
      refine opStep none 0 rfl rfl (fun c hc => by cases hc) ?_
      go_simp
      exact hK _ _ rfl (Below.refl _ _) trivial
    · -- 1
      intro li a1 W2 hA K hK
      have e114 : a1.tmps.getD 114 undef = .agg #[.slice A m.old.length c, .int .i64 m.nw, .slice A2 m.ss.length c2, .slice A3 m.js.length c3] := hA.val 0 114 (by kernel_rfl) (by kernel_rfl)
      refine opStep none 0 rfl rfl (fun c hc => by cases hc) ?_
      go_simp
      refine (map_thin (HH.out.at_ (HB21.out.trans (hA.st.mono HB21.out.size))) HTH.out).mono ?_
      rintro e W3 ⟨P, Q, R, rfl, hy, hb3⟩
      exact hK _ _ ⟨(P, Q, R), rfl, hy⟩ hb3 trivial
    · -- 2
      intro li a1 W2 hA K hK
      have e12 := hA.par 12 (by kernel_rfl)
      obtain ⟨q1, q2⟩ := (LBM21.out.keep hA.st).c2
      refine opStep none 0 rfl rfl (fun c hc => by cases hc) ?_
      go_simp
      exact hK _ _ rfl (Below.refl _ _) trivial
    · -- 3
      intro li a1 W2 hA K hK
      obtain ⟨y115, e115, h115⟩ := hA.val 1 115 (by kernel_rfl) (by kernel_rfl)
      have e116 : a1.tmps.getD 116 undef = .agg #[.int .i64 lo2, .int .i64 hi2] := hA.val 2 116 (by kernel_rfl) (by kernel_rfl)
      refine opStep none 0 rfl rfl (fun c hc => by cases hc) ?_
      go_simp
      refine (best_all h115 HE2.out).mono ?_
      rintro e W3 ⟨y, rfl, hy, hb3⟩
      exact hK _ _ ⟨y, rfl, trivial⟩ hb3 trivial
    · -- 4
      intro li a1 W2 hA K hK
      obtain ⟨y117, e117, h117⟩ := hA.val 3 117 (by kernel_rfl) (by kernel_rfl)
      refine opStep none 0 rfl rfl (fun c hc => by cases hc) ?_
      go_simp
      exact hK _ _ ⟨_, rfl, h117⟩ (Below.refl _ _) trivial
    · -- 5
      intro li a1 W2 hA K hK
      obtain ⟨y113, e113, h113⟩ := hA.val 4 113 (by kernel_rfl) (by kernel_rfl)
      refine opStep none 0 rfl rfl (fun c hc => by cases hc) ?_
      go_simp
      exact hK _ _ ⟨_, rfl, h113⟩ (Below.refl _ _) trivial
    · -- 6
      intro li a1 W2 hA K hK
      obtain ⟨y113, e113, h113⟩ := hA.val 4 113 (by kernel_rfl) (by kernel_rfl)
      refine opStep none 0 rfl rfl (fun c hc => by cases hc) ?_
      go_simp
      exact hK _ _ ⟨_, rfl, h113⟩ (Below.refl _ _) trivial
    · -- 7
      intro li a1 W2 hA K hK
      obtain ⟨y113, e113, h113⟩ := hA.val 4 113 (by kernel_rfl) (by kernel_rfl)
      refine opStep none 0 rfl rfl (fun c hc => by cases hc) ?_
      go_simp
      exact hK _ _ ⟨_, rfl, h113⟩ (Below.refl _ _) trivial
    · -- 8
      intro li a1 W2 hA K hK
      obtain ⟨y118, e118, h118⟩ := hA.val 5 118 (by kernel_rfl) (by kernel_rfl)
      refine opStep none 0 rfl rfl (fun c hc => by cases hc) ?_
      go_simp
      exact hK _ _ ⟨_, rfl, h118⟩ (Below.refl _ _) trivial
    · -- 9
      intro li a1 W2 hA K hK
      obtain ⟨y119, e119, h119⟩ := hA.val 6 119 (by kernel_rfl) (by kernel_rfl)
      refine opStep none 0 rfl rfl (fun c hc => by cases hc) ?_
      go_simp
      exact hK _ _ ⟨_, rfl, h119⟩ (Below.refl _ _) trivial
  intro li a1 W2 hD
  obtain ⟨y18, e18, h18⟩ := hD.val 8 18 (by kernel_rfl) (by kernel_rfl)
  obtain ⟨y19, e19, h19⟩ := hD.val 9 19 (by kernel_rfl) (by kernel_rfl)
  obtain ⟨y120, e120, h120⟩ := hD.val 7 120 (by kernel_rfl) (by kernel_rfl)
  have hkp2 := hD.keeps (ds := [114, 115, 116, 117, 113, 118, 119, 120, 18, 19, 20]) (by kernel_rfl)
  have hds := hD.size
  have hsz9 : a1.tmps.size = 221 := hD.size
  have hdd := hD.defers
  have hst := hD.st
  refine tail_val (i := 10) (v := .int .i64 y120.2.2) (W' := W2) none 0 rfl rfl rfl (fun c hc => by cases hc) (by go_simp) (by rw [hsz9]; decide) ?_
  intro a3 s3 d3 f3 o3
  have hkp3 := keeps_then hkp2 o3 (by decide)
  have e := act_mix [114, 115, 116, 117, 113, 118, 119, 120, 18, 19, 20] (s3.trans (hds)) (d3.trans (hdd)) (fun i _ hc => hkp3 i hc)
  have hgg0 : (fun i => a3.tmps.getD i undef) 20 = .int .i64 y120.2.2 := f3
  have hgk18 : (fun i => a3.tmps.getD i undef) 18 = .slice y18.1.1 y18.1.2.1 y18.1.2.2 := (o3 18 (by decide)).trans (e18)
  have hgk19 : (fun i => a3.tmps.getD i undef) 19 = .int .i64 y19.2.1 := (o3 19 (by decide)).trans (e19)
  generalize (fun i => a3.tmps.getD i undef) = g' at e hgg0 hgk18 hgk19
  refine wpListIn_nil ?_
  rw [e]
  clear e hD hkp2 hkp3 hds hdd hsz9 s3 d3 f3 o3 e120 h18 h19 h120 e18 e19
  simp only [mix, List.contains_cons, List.contains_nil, Nat.reduceAdd, Nat.reduceBEq, Bool.or_false, Bool.or_true, cond_true, cond_false, hgg0, hgk18, hgk19]
  clear hgg0 hgk18 hgk19
  have hb := hst
  clear hst
  have HB22 := hid (HB21.out.trans (hb.mono HB21.out.size))
  have HT22 := hid (HT21.out.keep hb)
  have BY22 := hid (BY21.out.trans (hb.mono BY21.out.size))
  have LB22 := hid (LB21.out.keep hb)
  have LBM22 := hid (LBM21.out.keep hb)
  have XB22 := hid (XB21.out.keep hb)
  clear hb
  generalize W2 = w22 at *
  obtain ⟨t0, t1, t2, t3⟩ := HT22.out.c4
  obtain ⟨l0, l1_⟩ := LB22.out.c2
  obtain ⟨k0, k1⟩ := LBM22.out.c2
  obtain ⟨x0, x1, x2, x3⟩ := XB22.out.c4
  cases hrx : readyM x
  · have HRX := hid hrx
    clear hrx
    have K23 := hid (mready_any x A c (some ⟨g, 0, none⟩) cap A3 c3 w22 (HXA.out.at_ BY22.out).toMIn)
    rw [HRX.out] at K23
    go_wp2_with fail
    refine K23.out.mono ?_
    rintro e w23 ⟨rfl, hb⟩
    have HB23 := hid (HB22.out.trans (hb.mono HB22.out.size))
    have HT23 := hid (HT22.out.keep hb)
    have BY23 := hid (BY22.out.trans (hb.mono BY22.out.size))
    have LB23 := hid (LB22.out.keep hb)
    have LBM23 := hid (LBM22.out.keep hb)
    have XB23 := hid (XB22.out.keep hb)
    clear hb K23 t0 t1 t2 t3 l0 l1_ k0 k1 x0 x1 x2 x3
    obtain ⟨t0, t1, t2, t3⟩ := HT23.out.c4
    obtain ⟨l0, l1_⟩ := LB23.out.c2
    obtain ⟨k0, k1⟩ := LBM23.out.c2
    obtain ⟨x0, x1, x2, x3⟩ := XB23.out.c4
    have K24 := hid (awake_any w23)
    go_wp2_with fail
    refine K24.out.mono ?_
    rintro e w24 ⟨rfl, hb⟩
    have HB24 := hid (HB23.out.trans (hb.mono HB23.out.size))
    have HT24 := hid (HT23.out.keep hb)
    have BY24 := hid (BY23.out.trans (hb.mono BY23.out.size))
    have LB24 := hid (LB23.out.keep hb)
    have LBM24 := hid (LBM23.out.keep hb)
    have XB24 := hid (XB23.out.keep hb)
    clear hb K24 t0 t1 t2 t3 l0 l1_ k0 k1 x0 x1 x2 x3
    obtain ⟨t0, t1, t2, t3⟩ := HT24.out.c4
    obtain ⟨l0, l1_⟩ := LB24.out.c2
    obtain ⟨k0, k1⟩ := LBM24.out.c2
    obtain ⟨x0, x1, x2, x3⟩ := XB24.out.c4
    clear t0 t1 t2 t3 l0 l1_ k0 k1 x0 x1 x2 x3
    go_wp2
    go_ret
    exact ⟨rfl, HB24.out⟩
  · have HRX := hid hrx
    have HCX := hid (ready_iff.1 hrx).2
    have HEX := hid (ask_mk (ready_iff.1 hrx).2 HLI.out.1 HLI.out.2.1 HLI.out.2.2 : askE x lo hi = 0)
    have HBX := hid (show (bndL x).length = m.nw.toNat by rw [bndL_len, HNX.out.nw])
    have hn4z := OK.out.n4
    clear hrx
    have K23 := hid (mready_any x A c (some ⟨g, 0, none⟩) cap A3 c3 w22 (HXA.out.at_ BY22.out).toMIn)
    rw [HRX.out] at K23
    go_wp2_with fail
    refine K23.out.mono ?_
    rintro e w23 ⟨rfl, hb⟩
    have HB23 := hid (HB22.out.trans (hb.mono HB22.out.size))
    have HT23 := hid (HT22.out.keep hb)
    have BY23 := hid (BY22.out.trans (hb.mono BY22.out.size))
    have LB23 := hid (LB22.out.keep hb)
    have LBM23 := hid (LBM22.out.keep hb)
    have XB23 := hid (XB22.out.keep hb)
    clear hb K23 t0 t1 t2 t3 l0 l1_ k0 k1 x0 x1 x2 x3
    obtain ⟨t0, t1, t2, t3⟩ := HT23.out.c4
    obtain ⟨l0, l1_⟩ := LB23.out.c2
    obtain ⟨k0, k1⟩ := LBM23.out.c2
    obtain ⟨x0, x1, x2, x3⟩ := XB23.out.c4
    have K24 := hid (map_thin (HH.out.at_ HB23.out) HTH.out)
    go_wp2_with fail
    refine K24.out.mono ?_
    rintro e w24 ⟨P24, Q24, R24, rfl, hm, hb⟩
    have HB24 := hid (HB23.out.trans (hb.mono HB23.out.size))
    have HT24 := hid (HT23.out.keep hb)
    have BY24 := hid (BY23.out.trans (hb.mono BY23.out.size))
    have LB24 := hid (LB23.out.keep hb)
    have LBM24 := hid (LBM23.out.keep hb)
    have XB24 := hid (XB23.out.keep hb)
    have M24 := hid hm
    clear hm
    clear hb K24 t0 t1 t2 t3 l0 l1_ k0 k1 x0 x1 x2 x3
    obtain ⟨t0, t1, t2, t3⟩ := HT24.out.c4
    obtain ⟨l0, l1_⟩ := LB24.out.c2
    obtain ⟨k0, k1⟩ := LBM24.out.c2
    obtain ⟨x0, x1, x2, x3⟩ := XB24.out.c4
    have K25 := hid (bounds_good M24.out HCM.out)
    unfold GivesR0 at K25
    rw [HBND.out] at K25
    go_wp2_with fail
    refine K25.out.mono ?_
    rintro e w25 ⟨⟨A21, c21⟩, rfl, hy, hb⟩
    have HB25 := hid (HB24.out.trans (hb.mono HB24.out.size))
    have HT25 := hid (HT24.out.keep hb)
    have BY25 := hid (BY24.out.trans (hb.mono BY24.out.size))
    have LB25 := hid (LB24.out.keep hb)
    have LBM25 := hid (LBM24.out.keep hb)
    have XB25 := hid (XB24.out.keep hb)
    have HYA := hid hy
    clear hy
    clear hb K25 t0 t1 t2 t3 l0 l1_ k0 k1 x0 x1 x2 x3
    obtain ⟨t0, t1, t2, t3⟩ := HT25.out.c4
    obtain ⟨l0, l1_⟩ := LB25.out.c2
    obtain ⟨k0, k1⟩ := LBM25.out.c2
    obtain ⟨x0, x1, x2, x3⟩ := XB25.out.c4
    have YA_0 := hid (HYA.out)
    have K26 := hid (map_thin (HXA.out.at_ BY25.out) HXT.out)
    go_wp2_with fail
    refine K26.out.mono ?_
    rintro e w26 ⟨P26, Q26, R26, rfl, hm, hb⟩
    have HB26 := hid (HB25.out.trans (hb.mono HB25.out.size))
    have HT26 := hid (HT25.out.keep hb)
    have BY26 := hid (BY25.out.trans (hb.mono BY25.out.size))
    have LB26 := hid (LB25.out.keep hb)
    have LBM26 := hid (LBM25.out.keep hb)
    have XB26 := hid (XB25.out.keep hb)
    have YA_26 := hid (YA_0.out.at_ hb)
    have M26 := hid hm
    clear hm
    clear hb K26 t0 t1 t2 t3 l0 l1_ k0 k1 x0 x1 x2 x3
    obtain ⟨t0, t1, t2, t3⟩ := HT26.out.c4
    obtain ⟨l0, l1_⟩ := LB26.out.c2
    obtain ⟨k0, k1⟩ := LBM26.out.c2
    obtain ⟨x0, x1, x2, x3⟩ := XB26.out.c4
    have K27 := hid (bounds_good M26.out HCX.out)
    unfold GivesR0 at K27
    rw [HBX.out] at K27
    go_wp2_with fail
    refine K27.out.mono ?_
    rintro e w27 ⟨⟨A23, c23⟩, rfl, hy, hb⟩
    have HB27 := hid (HB26.out.trans (hb.mono HB26.out.size))
    have HT27 := hid (HT26.out.keep hb)
    have BY27 := hid (BY26.out.trans (hb.mono BY26.out.size))
    have LB27 := hid (LB26.out.keep hb)
    have LBM27 := hid (LBM26.out.keep hb)
    have XB27 := hid (XB26.out.keep hb)
    have YA_27 := hid (YA_26.out.at_ hb)
    have HYB := hid hy
    clear hy
    clear hb K27 t0 t1 t2 t3 l0 l1_ k0 k1 x0 x1 x2 x3
    obtain ⟨t0, t1, t2, t3⟩ := HT27.out.c4
    obtain ⟨l0, l1_⟩ := LB27.out.c2
    obtain ⟨k0, k1⟩ := LBM27.out.c2
    obtain ⟨x0, x1, x2, x3⟩ := XB27.out.c4
    have YB_0 := hid (HYB.out)
    clear t0 t1 t2 t3 l0 l1_ k0 k1 x0 x1 x2 x3
    go_wp2
    refine (wpIn_wide (n := 0)).1 ?_
    refine wpIn_region_each 10 (fun i v W' => match i with | 0 => v = .agg #[.slice A x.old.length c, .int .i64 x.nw, .slice (some ⟨g, 0, none⟩) x.ss.length cap, .slice A3 x.js.length c3] | 1 => ∃ (y : (Option Addr × Nat) × (Option Addr × Nat) × (Option Addr × Nat)), v = .agg #[.slice y.1.1 x.old.length y.1.2, .int .i64 x.nw, .slice y.2.1.1 x.ss.length y.2.1.2, .slice y.2.2.1 x.js.length y.2.2.2] ∧ MIn x y.1.1 y.1.2 y.2.1.1 y.2.1.2 y.2.2.1 y.2.2.2 W' | 2 => v = .agg #[.int .i64 lo, .int .i64 hi] | 3 => ∃ (y : (Option Addr × Nat × Nat) × Int × Int), v = .tuple #[.slice y.1.1 y.1.2.1 y.1.2.2, .int .i64 y.2.1, .int .i64 y.2.2] ∧ True | 4 => ∃ (y : (Option Addr × Nat × Nat) × Int × Int), v = .tuple #[.slice y.1.1 y.1.2.1 y.1.2.2, .int .i64 y.2.1, .int .i64 y.2.2] ∧ True | 5 => ∃ (y : (Option Addr × Nat × Nat) × Int × Int), v = .slice y.1.1 y.1.2.1 y.1.2.2 ∧ True | 6 => ∃ (y : (Option Addr × Nat × Nat) × Int × Int), v = .int .i64 y.2.1 ∧ True | 7 => ∃ (y : (Option Addr × Nat × Nat) × Int × Int), v = .int .i64 y.2.2 ∧ True | 8 => ∃ (y : (Option Addr × Nat × Nat) × Int × Int), v = .slice y.1.1 y.1.2.1 y.1.2.2 ∧ True | 9 => ∃ (y : (Option Addr × Nat × Nat) × Int × Int), v = .int .i64 y.2.1 ∧ True | _ => True) (fun A B => Below A.heap.size A B) (fun _ _ => True) (by kernel_rfl) (by kernel_rfl) ?_ (fun h k => h.trans (k.mono h.size)) ⟨rfl, rfl, rfl, Nat.le_refl _, fun _ _ => rfl⟩ trivial (by kernel_rfl) ?_ ?_
    · intro i v W1 W2 hb h
      match i, h with
      | 0, h => exact h
      | 1, h =>
        obtain ⟨y, rfl, h1⟩ := h
        exact ⟨_, rfl, h1.at_ hb⟩
      | 2, h => exact h
      | 3, h =>
        obtain ⟨y, rfl, h1⟩ := h
        exact ⟨_, rfl, trivial⟩
      | 4, h =>
        obtain ⟨y, rfl, h1⟩ := h
        exact ⟨_, rfl, trivial⟩
      | 5, h =>
        obtain ⟨y, rfl, h1⟩ := h
        exact ⟨_, rfl, trivial⟩
      | 6, h =>
        obtain ⟨y, rfl, h1⟩ := h
        exact ⟨_, rfl, trivial⟩
      | 7, h =>
        obtain ⟨y, rfl, h1⟩ := h
        exact ⟨_, rfl, trivial⟩
      | 8, h =>
        obtain ⟨y, rfl, h1⟩ := h
        exact ⟨_, rfl, trivial⟩
      | 9, h =>
        obtain ⟨y, rfl, h1⟩ := h
        exact ⟨_, rfl, trivial⟩
      | i + 10, h => trivial
    · refine ⟨?_, ?_, ?_, ?_, ?_, ?_, ?_, ?_, ?_, ?_, trivial⟩
      · -- 0
        intro li a1 W2 hA K hK
        have e13 := hA.par 13 (by kernel_rfl)
        obtain ⟨q1, q2, q3, q4⟩ := (XB27.out.keep hA.st).c4
        refine opStep none 0 rfl rfl (fun c hc => by cases hc) ?_
        go_simp
        exact hK _ _ rfl (Below.refl _ _) trivial
      · -- 1
        intro li a1 W2 hA K hK
        have e157 : a1.tmps.getD 157 undef = .agg #[.slice A x.old.length c, .int .i64 x.nw, .slice (some ⟨g, 0, none⟩) x.ss.length cap, .slice A3 x.js.length c3] := hA.val 0 157 (by kernel_rfl) (by kernel_rfl)
        refine opStep none 0 rfl rfl (fun c hc => by cases hc) ?_
        go_simp
        refine (map_thin (HXA.out.at_ (BY27.out.trans (hA.st.mono BY27.out.size))) HXT.out).mono ?_
        rintro e W3 ⟨P, Q, R, rfl, hy, hb3⟩
        exact hK _ _ ⟨(P, Q, R), rfl, hy⟩ hb3 trivial
      · -- 2
        intro li a1 W2 hA K hK
        have e11 := hA.par 11 (by kernel_rfl)
        obtain ⟨q1, q2⟩ := (LB27.out.keep hA.st).c2
        refine opStep none 0 rfl rfl (fun c hc => by cases hc) ?_
        go_simp
        exact hK _ _ rfl (Below.refl _ _) trivial
      · -- 3
        intro li a1 W2 hA K hK
        obtain ⟨y158, e158, h158⟩ := hA.val 1 158 (by kernel_rfl) (by kernel_rfl)
        have e159 : a1.tmps.getD 159 undef = .agg #[.int .i64 lo, .int .i64 hi] := hA.val 2 159 (by kernel_rfl) (by kernel_rfl)
        refine opStep none 0 rfl rfl (fun c hc => by cases hc) ?_
        go_simp
        refine (best_all h158 HEX.out).mono ?_
        rintro e W3 ⟨y, rfl, hy, hb3⟩
        exact hK _ _ ⟨y, rfl, trivial⟩ hb3 trivial
      · -- 4
        intro li a1 W2 hA K hK
        obtain ⟨y160, e160, h160⟩ := hA.val 3 160 (by kernel_rfl) (by kernel_rfl)
        refine opStep none 0 rfl rfl (fun c hc => by cases hc) ?_
        go_simp
        exact hK _ _ ⟨_, rfl, h160⟩ (Below.refl _ _) trivial
      · -- 5
        intro li a1 W2 hA K hK
        obtain ⟨y156, e156, h156⟩ := hA.val 4 156 (by kernel_rfl) (by kernel_rfl)
        refine opStep none 0 rfl rfl (fun c hc => by cases hc) ?_
        go_simp
        exact hK _ _ ⟨_, rfl, h156⟩ (Below.refl _ _) trivial
      · -- 6
        intro li a1 W2 hA K hK
        obtain ⟨y156, e156, h156⟩ := hA.val 4 156 (by kernel_rfl) (by kernel_rfl)
        refine opStep none 0 rfl rfl (fun c hc => by cases hc) ?_
        go_simp
        exact hK _ _ ⟨_, rfl, h156⟩ (Below.refl _ _) trivial
      · -- 7
        intro li a1 W2 hA K hK
        obtain ⟨y156, e156, h156⟩ := hA.val 4 156 (by kernel_rfl) (by kernel_rfl)
        refine opStep none 0 rfl rfl (fun c hc => by cases hc) ?_
        go_simp
        exact hK _ _ ⟨_, rfl, h156⟩ (Below.refl _ _) trivial
      · -- 8
        intro li a1 W2 hA K hK
        obtain ⟨y161, e161, h161⟩ := hA.val 5 161 (by kernel_rfl) (by kernel_rfl)
        refine opStep none 0 rfl rfl (fun c hc => by cases hc) ?_
        go_simp
        exact hK _ _ ⟨_, rfl, h161⟩ (Below.refl _ _) trivial
      · -- 9
        intro li a1 W2 hA K hK
        obtain ⟨y162, e162, h162⟩ := hA.val 6 162 (by kernel_rfl) (by kernel_rfl)
        refine opStep none 0 rfl rfl (fun c hc => by cases hc) ?_
        go_simp
        exact hK _ _ ⟨_, rfl, h162⟩ (Below.refl _ _) trivial
    intro li a1 W2 hD
    obtain ⟨y25, e25, h25⟩ := hD.val 8 25 (by kernel_rfl) (by kernel_rfl)
    obtain ⟨y26, e26, h26⟩ := hD.val 9 26 (by kernel_rfl) (by kernel_rfl)
    obtain ⟨y163, e163, h163⟩ := hD.val 7 163 (by kernel_rfl) (by kernel_rfl)
    have hkp2 := hD.keeps (ds := [157, 158, 159, 160, 156, 161, 162, 163, 25, 26, 27]) (by kernel_rfl)
    have hds := hD.size
    have hsz9 : a1.tmps.size = 221 := hD.size
    have hdd := hD.defers
    have hst := hD.st
    refine tail_val (i := 10) (v := .int .i64 y163.2.2) (W' := W2) none 0 rfl rfl rfl (fun c hc => by cases hc) (by go_simp) (by rw [hsz9]; decide) ?_
    intro a3 s3 d3 f3 o3
    have hkp3 := keeps_then hkp2 o3 (by decide)
    have e := act_mix [157, 158, 159, 160, 156, 161, 162, 163, 25, 26, 27] (s3.trans (hds)) (d3.trans (hdd)) (fun i _ hc => hkp3 i hc)
    have hgg0 : (fun i => a3.tmps.getD i undef) 27 = .int .i64 y163.2.2 := f3
    have hgk25 : (fun i => a3.tmps.getD i undef) 25 = .slice y25.1.1 y25.1.2.1 y25.1.2.2 := (o3 25 (by decide)).trans (e25)
    have hgk26 : (fun i => a3.tmps.getD i undef) 26 = .int .i64 y26.2.1 := (o3 26 (by decide)).trans (e26)
    generalize (fun i => a3.tmps.getD i undef) = g' at e hgg0 hgk25 hgk26
    refine wpListIn_nil ?_
    rw [e]
    clear e hD hkp2 hkp3 hds hdd hsz9 s3 d3 f3 o3 e163 h25 h26 h163 e25 e26
    simp only [mix, List.contains_cons, List.contains_nil, Nat.reduceAdd, Nat.reduceBEq, Bool.or_false, Bool.or_true, cond_true, cond_false, hgg0, hgk25, hgk26]
    clear hgg0 hgk25 hgk26
    have hb := hst
    clear hst
    have HB28 := hid (HB27.out.trans (hb.mono HB27.out.size))
    have HT28 := hid (HT27.out.keep hb)
    have BY28 := hid (BY27.out.trans (hb.mono BY27.out.size))
    have LB28 := hid (LB27.out.keep hb)
    have LBM28 := hid (LBM27.out.keep hb)
    have XB28 := hid (XB27.out.keep hb)
    have YA_28 := hid (YA_27.out.at_ hb)
    have YB_28 := hid (YB_0.out.at_ hb)
    clear hb
    generalize W2 = w28 at *
    obtain ⟨t0, t1, t2, t3⟩ := HT28.out.c4
    obtain ⟨l0, l1_⟩ := LB28.out.c2
    obtain ⟨k0, k1⟩ := LBM28.out.c2
    obtain ⟨x0, x1, x2, x3⟩ := XB28.out.c4
    go_wp2
    clear t0 t1 t2 t3 x0 x1 x2 x3 l0 l1_ k0 k1
    go_loopw [28] (fun i W => ∃ d : Nat, d ≤ m.nw.toNat ∧ i = .int .i64 d ∧ Below w28.heap.size w28 W) (fun i _ => m.nw.toNat - (intOf i).toNat)
    case atStart => exact ⟨0, Nat.zero_le _, rfl, Below.refl _ _⟩
    case round =>
      obtain ⟨d, hd, rfl, hbr⟩ := hrel
      have HR := hid hbr
      have HTR := hid (HT28.out.keep hbr)
      have HBR := hid (HB28.out.trans (hbr.mono HB28.out.size))
      clear hbr
      by_cases hlt : d < m.nw.toNat
      · have hdI : (d : Int) < (m.nw.toNat : Int) := by omega
        obtain ⟨a21, e21, _, f1, f2⟩ := (YA_28.out.at_ HR.out).1 d (bndOne m d) (bndL_at hlt)
        obtain ⟨a23, e23, _, f3, f4⟩ := (YB_28.out.at_ HR.out).1 d (bndOne x d) (bndL_at (by rw [HNX.out.nw]; exact hlt))
        replace e21 : A21 = some a21 := e21
        replace e23 : A23 = some a23 := e23
        subst e21 e23
        have hnb := nar_bnd HNX.out d
        have hc1 : decide ((bndOne x d).1 < (bndOne m d).1) = false := by simp; omega
        have hc2 : decide ((bndOne m d).2 < (bndOne x d).2) = false := by simp; omega
        have s1 := xt_cell f1
        have s2 := xt_cell f2
        have s3 := xt_cell f3
        have s4 := xt_cell f4
        clear f1 f2 f3 f4 hnb
        go_wp2
        refine wp_region_quiet_xt (by kernel_rfl) (by kernel_rfl) ?_
        repeat (go_big_quiet_step (fail))
        refine wpQuiet_nil ?_
        intro W3 hw3
        replace hw3 := of_xt hw3
        have HNZ := hid (HR.out.trans (hw3.mono HR.out.size))
        clear hw3 s1 s2 s3 s4 HR
        go_wp2
        go_roundw
        case rel => exact ⟨d + 1, by omega, by go_num, HNZ.out⟩
        case measure => first | (simp [intOf]; done) | (simp [intOf]; omega)
      · have hdI : decide ((d : Int) < (m.nw.toNat : Int)) = false := by simp; omega
        obtain ⟨t0, t1, t2, t3⟩ := HTR.out.c4
        have K91 := hid (awake_any wr)
        go_wp2_with fail
        refine K91.out.mono ?_
        rintro e w91 ⟨rfl, hb⟩
        have HB91 := hid (HBR.out.trans (hb.mono HBR.out.size))
        have HT91 := hid (HTR.out.keep hb)
        clear hb K91 t0 t1 t2 t3
        obtain ⟨t0, t1, t2, t3⟩ := HT91.out.c4
        clear t0 t1 t2 t3
        go_wp2
        go_ret
        exact ⟨rfl, HB91.out⟩

set_option maxRecDepth 100000 in
set_option maxHeartbeats 8000000 in
theorem wid_some (m : MapD) (A : Option Addr) (c : Nat) (A2 : Option Addr) (c2 : Nat) (A3 : Option Addr) (c3 : Nat) (p q v b : Int) (w : World) (h : MArg m A c A2 c2 A3 c3 w) (hp0 : 0 ≤ p) (hp1 : p ≤ 65535) (hq0 : 0 ≤ q) (hq1 : q ≤ 65535) (hv0 : 0 ≤ v) (hv1 : v ≤ 255) (hb0 : 0 ≤ b) (hb1 : b ≤ 255) (hr : readyM m = true) (j : Nat) (l : Nat → Int) (hbb : bestB m (p % 2000) (min 40000 (p % 2000 + q)) = some (j, l)) :
    Calls Try.prog 6 #[.agg #[.slice A m.old.length c, .int .i64 m.nw, .slice A2 m.ss.length c2, .slice A3 m.js.length c3], .int .u16 p, .int .u16 q, .int .u8 v, .int .u8 b] w fun e w' => e = .returned (.bool true) ∧ Below w.heap.size w w' := by
  have hB := below_box (w := w) #[.slice A m.old.length c, .int .i64 m.nw, .slice A2 m.ss.length c2, .slice A3 m.js.length c3] 26
  have hT := Blk.new w 26 #[.slice A m.old.length c, .int .i64 m.nw, .slice A2 m.ss.length c2, .slice A3 m.js.length c3]
  have HB0 := hid hB
  have HT0 := hid hT
  have HH := hid h
  obtain ⟨t0, t1, t2, t3⟩ := hT.c4
  clear h hB hT
  have HRD := hid hr
  have HCM := hid (ready_iff.1 hr).2
  have HTH := hid (ready_iff.1 hr).1
  have OK := hid (chk_okm (cst_ok (ready_iff.1 hr).2).1)
  have hs8 := OK.out.s8
  have hs1 := OK.out.s1
  obtain ⟨lo, hlo⟩ : ∃ lo, p % 2000 = lo := ⟨_, rfl⟩
  obtain ⟨hi, hhi⟩ : ∃ hi, min 40000 (lo + q) = hi := ⟨_, rfl⟩
  have hlo0 : 0 ≤ lo ∧ lo < 2000 := by rw [← hlo]; exact ⟨Int.emod_nonneg _ (by omega), Int.emod_lt_of_pos _ (by omega)⟩
  obtain ⟨lo2, hlo2⟩ : ∃ z, max 0 (lo - b) = z := ⟨_, rfl⟩
  obtain ⟨hi2, hhi2⟩ : ∃ z, min 40000 (hi + b) = z := ⟨_, rfl⟩
  have HE0 := hid (ask_mk (ready_iff.1 hr).2 hlo0.1 (by omega) (by omega) : askE m lo hi = 0)
  have HE2 := hid (ask_mk (ready_iff.1 hr).2 (by omega) (by omega) (by omega) : askE m lo2 hi2 = 0)
  have HLI := hid (show 0 ≤ lo ∧ lo ≤ hi ∧ hi ≤ 40000 by omega)
  have HWI := hid (show lo2 ≤ lo ∧ hi ≤ hi2 by omega)
  have htm : p.tmod 2000 = lo := by rw [Int.tmod_eq_emod_of_nonneg hp0]; exact hlo
  have hwp : IntKind.i64.wrap p = p := IntWalk.i64_in _ (by omega)
  have hwq : IntKind.i64.wrap q = q := IntWalk.i64_in _ (by omega)
  have hwb : IntKind.i64.wrap b = b := IntWalk.i64_in _ (by omega)
  have hwv : IntKind.i64.wrap v = v := IntWalk.i64_in _ (by omega)
  have hwl : IntKind.i64.wrap lo = lo := IntWalk.i64_in _ (by omega)
  have hws : IntKind.i64.wrap (lo + q) = lo + q := IntWalk.i64_in _ (by omega)
  have hwm : IntKind.i64.wrap (lo - b) = lo - b := IntWalk.i64_in _ (by omega)
  have hwh : IntKind.i64.wrap (hi + b) = hi + b := IntWalk.i64_in _ (by omega)
  have hite : (if lo + q < 40000 then lo + q else 40000) = hi := by rw [← hhi]; split <;> omega
  have hitv : (if lo + q < 40000 then Value.int .i64 (lo + q) else Value.int .i64 40000) = Value.int .i64 hi := by rw [← hhi]; split <;> congr 1 <;> omega
  have hit2 : (if hi + b < 40000 then hi + b else 40000) = hi2 := by rw [← hhi2]; split <;> omega
  have hiv2 : (if hi + b < 40000 then Value.int .i64 (hi + b) else Value.int .i64 40000) = Value.int .i64 hi2 := by rw [← hhi2]; split <;> congr 1 <;> omega
  have hit3 : (if 0 < lo - b then lo - b else 0) = lo2 := by rw [← hlo2]; split <;> omega
  have hiv3 : (if 0 < lo - b then Value.int .i64 (lo - b) else Value.int .i64 0) = Value.int .i64 lo2 := by rw [← hlo2]; split <;> congr 1 <;> omega
  have hit4 : (if b < lo then lo - b else 0) = lo2 := by rw [← hlo2]; split <;> omega
  have hiv4 : (if b < lo then Value.int .i64 (lo - b) else Value.int .i64 0) = Value.int .i64 lo2 := by rw [← hlo2]; split <;> congr 1 <;> omega
  obtain ⟨k, hk⟩ : ∃ k : Nat, (k : Int) = v % (m.ss.length : Int) := ⟨(v % (m.ss.length : Int)).toNat, by have := Int.emod_nonneg v (show (m.ss.length : Int) ≠ 0 by omega); omega⟩
  have hkI : (k : Int) < (m.ss.length : Int) := by rw [hk]; exact Int.emod_lt_of_pos v (by omega)
  have htk : v.tmod (m.ss.length : Int) = (k : Int) := by rw [Int.tmod_eq_emod_of_nonneg hv0]; exact hk.symm
  have hwk : IntKind.i64.wrap (k : Int) = (k : Int) := IntWalk.i64_in _ (by omega)
  have hkz : ¬ (m.ss.length : Int) = 0 := by omega
  obtain ⟨s, hs⟩ : ∃ s, m.ss[k]? = some s := ⟨_, List.getElem?_eq_getElem (by omega)⟩
  have hsb := OK.out.stt s (List.mem_of_getElem? hs)
  obtain ⟨b9, hb9⟩ : ∃ z, b % 9 = z := ⟨_, rfl⟩
  have hb90 : 0 ≤ b9 ∧ b9 < 9 := by rw [← hb9]; exact ⟨Int.emod_nonneg _ (by omega), Int.emod_lt_of_pos _ (by omega)⟩
  have ht9 : b.tmod 9 = b9 := by rw [Int.tmod_eq_emod_of_nonneg hb0]; exact hb9
  have hw9 : IntKind.i64.wrap b9 = b9 := IntWalk.i64_in _ (by omega)
  obtain ⟨u, hu⟩ : ∃ z, b / 16 = z := ⟨_, rfl⟩
  have hu0 : 0 ≤ u ∧ u ≤ 16 := by omega
  have htu : b.tdiv 16 = u := by rw [Int.tdiv_eq_ediv_of_nonneg hb0]; exact hu
  have hwu : IntKind.i64.wrap u = u := IntWalk.i64_in _ (by omega)
  have hwa : IntKind.i64.wrap (s.lo + b9) = s.lo + b9 := IntWalk.i64_in _ (by omega)
  have hwc : IntKind.i64.wrap (s.hi - u) = s.hi - u := IntWalk.i64_in _ (by omega)
  obtain ⟨l1, hl1⟩ : ∃ z, min s.hi (s.lo + b9) = z := ⟨_, rfl⟩
  obtain ⟨h1, hh1⟩ : ∃ z, max l1 (s.hi - u) = z := ⟨_, rfl⟩
  have hitl : (if s.lo + b9 < s.hi then s.lo + b9 else s.hi) = l1 := by rw [← hl1]; split <;> omega
  have hivl : (if s.lo + b9 < s.hi then Value.int .i64 (s.lo + b9) else Value.int .i64 s.hi) = Value.int .i64 l1 := by rw [← hl1]; split <;> congr 1 <;> omega
  have hith : (if l1 < s.hi - u then s.hi - u else l1) = h1 := by rw [← hh1]; split <;> omega
  have hivh : (if l1 < s.hi - u then Value.int .i64 (s.hi - u) else Value.int .i64 l1) = Value.int .i64 h1 := by rw [← hh1]; split <;> congr 1 <;> omega
  have HS := hid hs
  have HNR := hid (nar_of hs (show s.lo ≤ l1 by omega) (show h1 ≤ s.hi by omega))
  have HBND := hid (bndL_len m)
  rw [hlo, hhi] at hbb
  obtain ⟨j2, l2, hb2, hj2⟩ := wide_best (lo' := lo2) (hi' := hi2) (by omega) (by omega) hbb
  have hjB : decide ((j : Int) < (j2 : Int)) = false := by simp; omega
  have hjBn : decide (j < j2) = false := by simp; omega
  have HB2b := hid hb2
  clear hb2 hj2
  have HBB := hid hbb
  clear hbb
  clear hr hlo hhi hlo2 hhi2 hk hs hb9 hu hl1 hh1 hsb
  go_enter Try.func6, Try.ntmps6
  have K1 := hid (mready_any m A c A2 c2 A3 c3 (w.alloc (.cells #[.slice A m.old.length c, .int .i64 m.nw, .slice A2 m.ss.length c2, .slice A3 m.js.length c3] 26)) (HH.out.at_ HB0.out).toMIn)
  rw [HRD.out] at K1
  go_wp2_with fail
  refine K1.out.mono ?_
  rintro e w1 ⟨rfl, hb⟩
  have HB1 := hid (HB0.out.trans (hb.mono HB0.out.size))
  have HT1 := hid (HT0.out.keep hb)
  clear hb K1 t0 t1 t2 t3
  obtain ⟨t0, t1, t2, t3⟩ := HT1.out.c4
  have HNE := hid (show w.heap.size < w1.heap.size by have := HT1.out.lt; omega)
  have K2 := hid (between_any lo hi w1)
  go_wp2_with fail
  refine K2.out.mono ?_
  rintro e w2 ⟨rfl, hb⟩
  have HB2 := hid (HB1.out.trans (hb.mono HB1.out.size))
  have HT2 := hid (HT1.out.keep hb)
  clear hb K2 t0 t1 t2 t3
  obtain ⟨t0, t1, t2, t3⟩ := HT2.out.c4
  have HPRE := HT2
  go_upto_region 4 with (fail)
  refine gen (p := Code.wp _ _ _ _) (fun W => Below w2.heap.size w2 W ∧ Blk W w2.heap.size 49 #[.int .i64 lo, .int .i64 hi]) ⟨below_box _ _, Blk.new _ _ _⟩ ?_
  rintro w3 ⟨hb, hl9⟩
  have HB3 := hid (HB2.out.trans (hb.mono HB2.out.size))
  have HT3 := hid (HT2.out.keep hb)
  have LB0 := hid hl9
  have HLN := hid (show w.heap.size < w2.heap.size by have := HPRE.out.lt; omega)
  clear hb hl9 t0 t1 t2 t3
  generalize w2.heap.size = LN at *
  obtain ⟨t0, t1, t2, t3⟩ := HT3.out.c4
  obtain ⟨l0, l1⟩ := LB0.out.c2
  have K4 := hid (between_any lo2 hi2 w3)
  go_wp2_with fail
  refine K4.out.mono ?_
  rintro e w4 ⟨rfl, hb⟩
  have HB4 := hid (HB3.out.trans (hb.mono HB3.out.size))
  have HT4 := hid (HT3.out.keep hb)
  have LB4 := hid (LB0.out.keep hb)
  clear hb K4 t0 t1 t2 t3 l0 l1
  obtain ⟨t0, t1, t2, t3⟩ := HT4.out.c4
  obtain ⟨l0, l1⟩ := LB4.out.c2
  have HPRE := HT4
  go_upto_region 5 with (fail)
  refine gen (p := Code.wp _ _ _ _) (fun W => Below w4.heap.size w4 W ∧ Blk W w4.heap.size 49 #[.int .i64 lo2, .int .i64 hi2]) ⟨below_box _ _, Blk.new _ _ _⟩ ?_
  rintro w5 ⟨hb, hl9⟩
  have HB5 := hid (HB4.out.trans (hb.mono HB4.out.size))
  have HT5 := hid (HT4.out.keep hb)
  have LB5 := hid (LB4.out.keep hb)
  clear l0 l1
  have LBM0 := hid hl9
  have HLM := hid (show w.heap.size < w4.heap.size by have := HPRE.out.lt; omega)
  clear hb hl9 t0 t1 t2 t3
  generalize w4.heap.size = LM at *
  obtain ⟨t0, t1, t2, t3⟩ := HT5.out.c4
  obtain ⟨l0, l1⟩ := LB5.out.c2
  obtain ⟨k0, k1⟩ := LBM0.out.c2
  go_upto_region 6 with (fail)
  refine gen (p := Code.wp _ _ _ _) (fun W => Below w5.heap.size w5 W ∧ Blk W w5.heap.size 26 #[.slice A m.old.length c, .int .i64 m.nw, .slice A2 m.ss.length c2, .slice A3 m.js.length c3]) ⟨below_box _ _, Blk.new _ _ _⟩ ?_
  rintro w6 ⟨hb, hx⟩
  have HB6 := hid (HB5.out.trans (hb.mono HB5.out.size))
  have HT6 := hid (HT5.out.keep hb)
  have LB6 := hid (LB5.out.keep hb)
  clear l0 l1
  have LBM6 := hid (LBM0.out.keep hb)
  clear k0 k1
  have hXW := HB5.out.size
  have HXX := hid hx
  clear hb hx t0 t1 t2 t3
  have HXL := hid (show w.heap.size < w5.heap.size ∧ LN < w5.heap.size ∧ LM < w5.heap.size from ⟨HT5.out.lt, LB5.out.lt, LBM0.out.lt⟩)
  generalize w5.heap.size = XN at *
  obtain ⟨t0, t1, t2, t3⟩ := (HT6.out.alloc (.cells #[] 45)).c4
  go_wp2_with (at_builtin; refine wpList_run_append rfl _ _ 23 rfl rfl rfl (copy_stts (base := w6.heap.size) (HH.out.at_ (HB6.out.trans ((below_box _ _).mono HB6.out.size))).toMIn.is (Blk.new _ _ _) (Nat.le_refl _) hs1 (by omega)) ?_; rintro v' w7 ⟨ho7, hb7⟩; obtain ⟨g, cap, cur, rfl, hS7, hg7, hc7, hm7⟩ := SttB.of_row ho7 hs1; have hst7 := then_below (below_box _ _) hb7; have HX7 := hid (HXX.out.keep hst7); have HT7 := hid (HT6.out.keep hst7); have HB7 := hid (HB6.out.trans (hst7.mono HB6.out.size)); have LB7 := hid (LB6.out.keep hst7); have LM7 := hid (LBM6.out.keep hst7); obtain ⟨x0, x1, x2, x3⟩ := HX7.out.c4; have xf := HX7.out.frozen 2; have xl := HX7.out.lt; have HS7 := hid hS7; have hgx : XN < g := (by have := HXX.out.lt; omega); have hgw : w.heap.size ≤ g := (by have := HXL.out; omega); clear hst7 ho7 hb7 hS7 t0 t1 t2 t3)
  clear xf xl x0 x1 x2 x3
  refine gen (p := Code.wp _ _ _ _) (fun W => Below w.heap.size w W ∧ Blk W XN 26 #[.slice A m.old.length c, .int .i64 m.nw, .slice (some ⟨g, 0, none⟩) m.ss.length cap, .slice A3 m.js.length c3] ∧ Blk W w.heap.size 26 #[.slice A m.old.length c, .int .i64 m.nw, .slice A2 m.ss.length c2, .slice A3 m.js.length c3] ∧ (∃ cur, SttB W g cur m.ss) ∧ Blk W LN 49 #[.int .i64 lo, .int .i64 hi] ∧ Blk W LM 49 #[.int .i64 lo2, .int .i64 hi2]) ⟨HB7.out.setCell (p := ⟨XN, 2, none⟩) hXW _, HX7.out.set_ 2 _, blk_off HT7.out (by have := HXL.out; omega), ⟨cur, blk_off HS7.out.1 (by omega), HS7.out.2⟩, blk_off LB7.out (by have := HXL.out; omega), blk_off LM7.out (by have := HXL.out; omega)⟩ ?_
  rintro w7 ⟨hb, hx, ht, ⟨cur0, hs⟩, hln, hlm⟩
  have HBY := hid hb
  have HXY := hid hx
  have HTY := hid ht
  have HSY := hid hs
  have LBY := hid hln
  have LMY := hid hlm
  clear hb hx ht hs hln hlm
  clear HX7 HT7 HB7 HS7 LB7 LM7 cur
  go_wp2
  obtain ⟨x0, x1, x2, x3⟩ := xt_c4 HXY.out
  refine wp_region_quiet_xt (by kernel_rfl) (by kernel_rfl) ?_
  repeat (go_big_quiet_step (fail))
  refine wpQuiet_nil ?_
  intro W3 hw3
  have hb := of_xt hw3
  have HB8 := hid (HBY.out.trans (hb.mono HBY.out.size))
  have HX8 := hid (HXY.out.keep hb)
  have HT8 := hid (HTY.out.keep hb)
  have HS8 := hid (HSY.out.keep hb)
  have LB8 := hid (LBY.out.keep hb)
  have LM8 := hid (LMY.out.keep hb)
  clear hb hw3 x0 x1 x2 x3 HBY HXY HTY HSY LBY LMY
  generalize W3 = w8 at *
  have q3 := (HS8.out.1.cell (k * 5 + 3)).trans (HS8.out.2 k s HS.out 3 (by omega))
  have q4 := (HS8.out.1.cell (k * 5 + 4)).trans (HS8.out.2 k s HS.out 4 (by omega))
  have cf := HS8.out.1.frozen (k * 5 + 3)
  have cl := HS8.out.1.lt
  rw [show s.f 3 = s.lo from rfl] at q3
  rw [show s.f 4 = s.hi from rfl] at q4
  have HNW := hid (show Below w.heap.size w (w8.setCell ⟨g, k * 5 + 3, none⟩ (.int .i64 l1)).drew ∧ Blk (w8.setCell ⟨g, k * 5 + 3, none⟩ (.int .i64 l1)).drew XN 26 #[.slice A m.old.length c, .int .i64 m.nw, .slice (some ⟨g, 0, none⟩) m.ss.length cap, .slice A3 m.js.length c3] ∧ Blk (w8.setCell ⟨g, k * 5 + 3, none⟩ (.int .i64 l1)).drew w.heap.size 26 #[.slice A m.old.length c, .int .i64 m.nw, .slice A2 m.ss.length c2, .slice A3 m.js.length c3] ∧ (∃ cur, SttB (w8.setCell ⟨g, k * 5 + 3, none⟩ (.int .i64 l1)).drew g cur (m.ss.set k (narS s l1 s.hi))) ∧ Blk (w8.setCell ⟨g, k * 5 + 3, none⟩ (.int .i64 l1)).drew LN 49 #[.int .i64 lo, .int .i64 hi] ∧ Blk (w8.setCell ⟨g, k * 5 + 3, none⟩ (.int .i64 l1)).drew LM 49 #[.int .i64 lo2, .int .i64 hi2] from ⟨(HB8.out.setCell (p := ⟨g, k * 5 + 3, none⟩) hgw _).drew, (blk_off HX8.out (by omega)).drew, (blk_off HT8.out (by have := HXL.out; omega)).drew, ⟨_, (HS8.out.set HS.out (r := 3) (s' := (narS s l1 s.hi)) (z := l1) (by omega) rfl (by intro q hq hne; rcases q with _ | _ | _ | _ | _ | q <;> first | rfl | omega)).1.drew, (HS8.out.set HS.out (r := 3) (s' := (narS s l1 s.hi)) (z := l1) (by omega) rfl (by intro q hq hne; rcases q with _ | _ | _ | _ | _ | q <;> first | rfl | omega)).2⟩, (blk_off LB8.out (by have := HXL.out; omega)).drew, (blk_off LM8.out (by have := HXL.out; omega)).drew⟩)
  go_wp2
  clear HB8 HX8 HT8 HS8 LB8 LM8
  go_still_tail 14, (by kernel_rfl)
  go_upto_region 9 with (fail)
  refine gen (p := Code.wp _ _ _ _) (fun W => (Below w.heap.size w W) ∧ (Blk W XN 26 #[.slice A m.old.length c, .int .i64 m.nw, .slice (some ⟨g, 0, none⟩) m.ss.length cap, .slice A3 m.js.length c3]) ∧ (Blk W w.heap.size 26 #[.slice A m.old.length c, .int .i64 m.nw, .slice A2 m.ss.length c2, .slice A3 m.js.length c3]) ∧ ((∃ cur, SttB W g cur (m.ss.set k (narS s l1 s.hi)))) ∧ (Blk W LN 49 #[.int .i64 lo, .int .i64 hi]) ∧ (Blk W LM 49 #[.int .i64 lo2, .int .i64 hi2])) HNW.out ?_
  rintro w9 ⟨hb, hx, ht, ⟨cur1, hs⟩, hln, hlm⟩
  have HB8 := hid hb
  have HX8 := hid hx
  have HT8 := hid ht
  have HS8 := hid hs
  have LB8 := hid hln
  have LM8 := hid hlm
  clear hb hx ht hs hln hlm
  clear q3 q4 cf cl HNW
  generalize w9 = w8 at *
  have q3 := (HS8.out.1.cell (k * 5 + 3)).trans (HS8.out.2 k (narS s l1 s.hi) (by rw [List.getElem?_set_self (List.getElem?_eq_some_iff.1 HS.out).1]) 3 (by omega))
  have q4 := (HS8.out.1.cell (k * 5 + 4)).trans (HS8.out.2 k (narS s l1 s.hi) (by rw [List.getElem?_set_self (List.getElem?_eq_some_iff.1 HS.out).1]) 4 (by omega))
  have cf := HS8.out.1.frozen (k * 5 + 4)
  have cl := HS8.out.1.lt
  rw [show (narS s l1 s.hi).f 3 = l1 from rfl] at q3
  rw [show (narS s l1 s.hi).f 4 = s.hi from rfl] at q4
  have HNW := hid (show Below w.heap.size w (w8.setCell ⟨g, k * 5 + 4, none⟩ (.int .i64 h1)).drew ∧ Blk (w8.setCell ⟨g, k * 5 + 4, none⟩ (.int .i64 h1)).drew XN 26 #[.slice A m.old.length c, .int .i64 m.nw, .slice (some ⟨g, 0, none⟩) m.ss.length cap, .slice A3 m.js.length c3] ∧ Blk (w8.setCell ⟨g, k * 5 + 4, none⟩ (.int .i64 h1)).drew w.heap.size 26 #[.slice A m.old.length c, .int .i64 m.nw, .slice A2 m.ss.length c2, .slice A3 m.js.length c3] ∧ (∃ cur, SttB (w8.setCell ⟨g, k * 5 + 4, none⟩ (.int .i64 h1)).drew g cur (m.ss.set k (narS s l1 h1))) ∧ Blk (w8.setCell ⟨g, k * 5 + 4, none⟩ (.int .i64 h1)).drew LN 49 #[.int .i64 lo, .int .i64 hi] ∧ Blk (w8.setCell ⟨g, k * 5 + 4, none⟩ (.int .i64 h1)).drew LM 49 #[.int .i64 lo2, .int .i64 hi2] from ⟨(HB8.out.setCell (p := ⟨g, k * 5 + 4, none⟩) hgw _).drew, (blk_off HX8.out (by omega)).drew, (blk_off HT8.out (by have := HXL.out; omega)).drew, ⟨_, ((show SttB _ g _ (m.ss.set k (narS s l1 h1)) by have h9 := HS8.out.set (k := k) (s := (narS s l1 s.hi)) (s' := (narS s l1 h1)) (r := 4) (z := h1) (by rw [List.getElem?_set_self (List.getElem?_eq_some_iff.1 HS.out).1]) (by omega) rfl (by intro q hq hne; rcases q with _ | _ | _ | _ | _ | q <;> first | rfl | omega); rw [List.set_set] at h9; exact h9)).1.drew, ((show SttB _ g _ (m.ss.set k (narS s l1 h1)) by have h9 := HS8.out.set (k := k) (s := (narS s l1 s.hi)) (s' := (narS s l1 h1)) (r := 4) (z := h1) (by rw [List.getElem?_set_self (List.getElem?_eq_some_iff.1 HS.out).1]) (by omega) rfl (by intro q hq hne; rcases q with _ | _ | _ | _ | _ | q <;> first | rfl | omega); rw [List.set_set] at h9; exact h9)).2⟩, (blk_off LB8.out (by have := HXL.out; omega)).drew, (blk_off LM8.out (by have := HXL.out; omega)).drew⟩)
  go_wp2
  clear HB8 HX8 HT8 HS8 LB8 LM8
  go_still_tail 14, (by kernel_rfl)
  go_upto_region 10 with (fail)
  refine gen (p := Code.wp _ _ _ _) (fun W => (Below w.heap.size w W) ∧ (Blk W XN 26 #[.slice A m.old.length c, .int .i64 m.nw, .slice (some ⟨g, 0, none⟩) m.ss.length cap, .slice A3 m.js.length c3]) ∧ (Blk W w.heap.size 26 #[.slice A m.old.length c, .int .i64 m.nw, .slice A2 m.ss.length c2, .slice A3 m.js.length c3]) ∧ ((∃ cur, SttB W g cur (m.ss.set k (narS s l1 h1)))) ∧ (Blk W LN 49 #[.int .i64 lo, .int .i64 hi]) ∧ (Blk W LM 49 #[.int .i64 lo2, .int .i64 hi2])) HNW.out ?_
  rintro w9 ⟨hb, hx, ht, ⟨cur1, hs⟩, hln, hlm⟩
  have HB8 := hid hb
  have HX8 := hid hx
  have HT8 := hid ht
  have HS8 := hid hs
  have LB8 := hid hln
  have LM8 := hid hlm
  clear hb hx ht hs hln hlm
  clear q3 q4 cf cl HNW
  generalize w9 = w8 at *
  have hgz := HS8.out
  obtain ⟨x, hxe⟩ : ∃ x, narM m k (narS s l1 h1) = x := ⟨_, rfl⟩
  have HXE := hid hxe
  have hxl : (narM m k (narS s l1 h1)).ss.length = m.ss.length := narM_len _ _ _
  have HXA := hid (show MArg x A c (some ⟨g, 0, none⟩) cap A3 c3 w8 by
    have h9 := HH.out.at_ HB8.out
    rw [← hxe]
    exact ⟨⟨h9.io, hgz.is, h9.ij, h9.l1, h9.m1, by rw [hxl]; exact hc7, hm7, h9.l3, h9.m3⟩, h9.z1, (fun e => by cases e), h9.z3⟩)
  have HXT := hid (show ThinP x by rw [← hxe]; exact ⟨HTH.out.1, by rw [hxl]; exact HTH.out.2.1, HTH.out.2.2⟩)
  have XB0 := hid (show Blk w8 XN 26 #[.slice A x.old.length c, .int .i64 x.nw, .slice (some ⟨g, 0, none⟩) x.ss.length cap, .slice A3 x.js.length c3] by rw [← hxe, hxl]; exact HX8.out)
  have BY0 := hid (Below.refl w8.heap.size w8)
  have HNX := hid (show Nar m x by rw [← hxe]; exact HNR.out)
  clear hgz hxe hxl HX8 HS8
  obtain ⟨t0, t1, t2, t3⟩ := HT8.out.c4
  obtain ⟨x0, x1, x2, x3⟩ := XB0.out.c4
  obtain ⟨l0, l1_⟩ := LB8.out.c2
  obtain ⟨k0, k1⟩ := LM8.out.c2
  clear t0 t1 t2 t3 l0 l1_ k0 k1 x0 x1 x2 x3
  go_wp2
  refine (wpIn_wide (n := 0)).1 ?_
  refine wpIn_region_each 10 (fun i v W' => match i with | 0 => v = .agg #[.slice A m.old.length c, .int .i64 m.nw, .slice A2 m.ss.length c2, .slice A3 m.js.length c3] | 1 => ∃ (y : (Option Addr × Nat) × (Option Addr × Nat) × (Option Addr × Nat)), v = .agg #[.slice y.1.1 m.old.length y.1.2, .int .i64 m.nw, .slice y.2.1.1 m.ss.length y.2.1.2, .slice y.2.2.1 m.js.length y.2.2.2] ∧ MIn m y.1.1 y.1.2 y.2.1.1 y.2.1.2 y.2.2.1 y.2.2.2 W' | 2 => v = .agg #[.int .i64 lo, .int .i64 hi] | 3 => ∃ (y : Option Addr × Nat), v = .tuple #[.slice y.1 (lst m l).length y.2, .int .i64 (j : Int), .int .i64 0] ∧ True | 4 => ∃ (y : Option Addr × Nat), v = .tuple #[.slice y.1 (lst m l).length y.2, .int .i64 (j : Int), .int .i64 0] ∧ True | 5 => ∃ (y : Option Addr × Nat), v = .slice y.1 (lst m l).length y.2 ∧ True | 6 => v = .int .i64 (j : Int) | 7 => v = .int .i64 0 | 8 => ∃ (y : Option Addr × Nat), v = .slice y.1 (lst m l).length y.2 ∧ True | 9 => v = .int .i64 (j : Int) | _ => True) (fun A B => Below A.heap.size A B) (fun _ _ => True) (by kernel_rfl) (by kernel_rfl) ?_ (fun h k => h.trans (k.mono h.size)) ⟨rfl, rfl, rfl, Nat.le_refl _, fun _ _ => rfl⟩ trivial (by kernel_rfl) ?_ ?_
  · intro i v W1 W2 hb h
    match i, h with
    | 0, h => exact h
    | 1, h =>
      obtain ⟨y, rfl, h1⟩ := h
      exact ⟨_, rfl, h1.at_ hb⟩
    | 2, h => exact h
    | 3, h =>
      obtain ⟨y, rfl, h1⟩ := h
      exact ⟨_, rfl, trivial⟩
    | 4, h =>
      obtain ⟨y, rfl, h1⟩ := h
      exact ⟨_, rfl, trivial⟩
    | 5, h =>
      obtain ⟨y, rfl, h1⟩ := h
      exact ⟨_, rfl, trivial⟩
    | 6, h => exact h
    | 7, h => exact h
    | 8, h =>
      obtain ⟨y, rfl, h1⟩ := h
      exact ⟨_, rfl, trivial⟩
    | 9, h => exact h
    | i + 10, h => trivial
  · refine ⟨?_, ?_, ?_, ?_, ?_, ?_, ?_, ?_, ?_, ?_, trivial⟩
    · -- 0
      intro li a1 W2 hA K hK
      have e5 := hA.par 5 (by kernel_rfl)
      obtain ⟨q1, q2, q3, q4⟩ := (HT8.out.keep hA.st).c4
      refine opStep none 0 rfl rfl (fun c hc => by cases hc) ?_
      go_simp
      exact hK _ _ rfl (Below.refl _ _) trivial
    · -- 1
      intro li a1 W2 hA K hK
      have e106 : a1.tmps.getD 106 undef = .agg #[.slice A m.old.length c, .int .i64 m.nw, .slice A2 m.ss.length c2, .slice A3 m.js.length c3] := hA.val 0 106 (by kernel_rfl) (by kernel_rfl)
      refine opStep none 0 rfl rfl (fun c hc => by cases hc) ?_
      go_simp
      refine (map_thin (HH.out.at_ (HB8.out.trans (hA.st.mono HB8.out.size))) HTH.out).mono ?_
      rintro e W3 ⟨P, Q, R, rfl, hy, hb3⟩
      exact hK _ _ ⟨(P, Q, R), rfl, hy⟩ hb3 trivial
    · -- 2
      intro li a1 W2 hA K hK
      have e11 := hA.par 11 (by kernel_rfl)
      obtain ⟨q1, q2⟩ := (LB8.out.keep hA.st).c2
      refine opStep none 0 rfl rfl (fun c hc => by cases hc) ?_
      go_simp
      exact hK _ _ rfl (Below.refl _ _) trivial
    · -- 3
      intro li a1 W2 hA K hK
      obtain ⟨y107, e107, h107⟩ := hA.val 1 107 (by kernel_rfl) (by kernel_rfl)
      have e108 : a1.tmps.getD 108 undef = .agg #[.int .i64 lo, .int .i64 hi] := hA.val 2 108 (by kernel_rfl) (by kernel_rfl)
      refine opStep none 0 rfl rfl (fun c hc => by cases hc) ?_
      go_simp
      refine (best_yes h107 HE0.out HBB.out).mono ?_
      rintro e W3 ⟨y, rfl, hy, hb3⟩
      exact hK _ _ ⟨y, rfl, trivial⟩ hb3 trivial
    · -- 4
      intro li a1 W2 hA K hK
      obtain ⟨y109, e109, h109⟩ := hA.val 3 109 (by kernel_rfl) (by kernel_rfl)
      refine opStep none 0 rfl rfl (fun c hc => by cases hc) ?_
      go_simp
      exact hK _ _ ⟨_, rfl, h109⟩ (Below.refl _ _) trivial
    · -- 5
      intro li a1 W2 hA K hK
      obtain ⟨y105, e105, h105⟩ := hA.val 4 105 (by kernel_rfl) (by kernel_rfl)
      refine opStep none 0 rfl rfl (fun c hc => by cases hc) ?_
      go_simp
      exact hK _ _ ⟨_, rfl, h105⟩ (Below.refl _ _) trivial
    · -- 6
      intro li a1 W2 hA K hK
      obtain ⟨y105, e105, h105⟩ := hA.val 4 105 (by kernel_rfl) (by kernel_rfl)
      refine opStep none 0 rfl rfl (fun c hc => by cases hc) ?_
      go_simp
      exact hK _ _ rfl (Below.refl _ _) trivial
    · -- 7
      intro li a1 W2 hA K hK
      obtain ⟨y105, e105, h105⟩ := hA.val 4 105 (by kernel_rfl) (by kernel_rfl)
      refine opStep none 0 rfl rfl (fun c hc => by cases hc) ?_
      go_simp
      exact hK _ _ rfl (Below.refl _ _) trivial
    · -- 8
      intro li a1 W2 hA K hK
      obtain ⟨y110, e110, h110⟩ := hA.val 5 110 (by kernel_rfl) (by kernel_rfl)
      refine opStep none 0 rfl rfl (fun c hc => by cases hc) ?_
      go_simp
      exact hK _ _ ⟨_, rfl, h110⟩ (Below.refl _ _) trivial
    · -- 9
      intro li a1 W2 hA K hK
      have e111 : a1.tmps.getD 111 undef = .int .i64 (j : Int) := hA.val 6 111 (by kernel_rfl) (by kernel_rfl)
      refine opStep none 0 rfl rfl (fun c hc => by cases hc) ?_
      go_simp
      exact hK _ _ rfl (Below.refl _ _) trivial
  intro li a1 W2 hD
  obtain ⟨y15, e15, h15⟩ := hD.val 8 15 (by kernel_rfl) (by kernel_rfl)
  have e16 : a1.tmps.getD 16 undef = .int .i64 (j : Int) := hD.val 9 16 (by kernel_rfl) (by kernel_rfl)
  have e112 : a1.tmps.getD 112 undef = .int .i64 0 := hD.val 7 112 (by kernel_rfl) (by kernel_rfl)
  have hkp2 := hD.keeps (ds := [106, 107, 108, 109, 105, 110, 111, 112, 15, 16, 17]) (by kernel_rfl)
  have hds := hD.size
  have hsz9 : a1.tmps.size = 221 := hD.size
  have hdd := hD.defers
  have hst := hD.st
  refine tail_val (i := 10) (v := .int .i64 0) (W' := W2) none 0 rfl rfl rfl (fun c hc => by cases hc) (by go_simp) (by rw [hsz9]; decide) ?_
  intro a3 s3 d3 f3 o3
  have hkp3 := keeps_then hkp2 o3 (by decide)
  have e := act_mix [106, 107, 108, 109, 105, 110, 111, 112, 15, 16, 17] (s3.trans (hds)) (d3.trans (hdd)) (fun i _ hc => hkp3 i hc)
  have hgg0 : (fun i => a3.tmps.getD i undef) 17 = .int .i64 0 := f3
  have hgk15 : (fun i => a3.tmps.getD i undef) 15 = .slice y15.1 (lst m l).length y15.2 := (o3 15 (by decide)).trans (e15)
  have hgk16 : (fun i => a3.tmps.getD i undef) 16 = .int .i64 (j : Int) := (o3 16 (by decide)).trans (e16)
  generalize (fun i => a3.tmps.getD i undef) = g' at e hgg0 hgk15 hgk16
  refine wpListIn_nil ?_
  rw [e]
  clear e hD hkp2 hkp3 hds hdd hsz9 s3 d3 f3 o3 e112 h15 e15 e16
  simp only [mix, List.contains_cons, List.contains_nil, Nat.reduceAdd, Nat.reduceBEq, Bool.or_false, Bool.or_true, cond_true, cond_false, hgg0, hgk15, hgk16]
  clear hgg0 hgk15 hgk16
  have hb := hst
  clear hst
  have HB21 := hid (HB8.out.trans (hb.mono HB8.out.size))
  have HT21 := hid (HT8.out.keep hb)
  have BY21 := hid (BY0.out.trans (hb.mono BY0.out.size))
  have LB21 := hid (LB8.out.keep hb)
  have LBM21 := hid (LM8.out.keep hb)
  have XB21 := hid (XB0.out.keep hb)
  clear hb
  generalize W2 = w21 at *
  obtain ⟨t0, t1, t2, t3⟩ := HT21.out.c4
  obtain ⟨l0, l1_⟩ := LB21.out.c2
  obtain ⟨k0, k1⟩ := LBM21.out.c2
  obtain ⟨x0, x1, x2, x3⟩ := XB21.out.c4
  clear t0 t1 t2 t3 l0 l1_ k0 k1 x0 x1 x2 x3
  go_wp2
  refine (wpIn_wide (n := 0)).1 ?_
  refine wpIn_region_each 10 (fun i v W' => match i with | 0 => v = .agg #[.slice A m.old.length c, .int .i64 m.nw, .slice A2 m.ss.length c2, .slice A3 m.js.length c3] | 1 => ∃ (y : (Option Addr × Nat) × (Option Addr × Nat) × (Option Addr × Nat)), v = .agg #[.slice y.1.1 m.old.length y.1.2, .int .i64 m.nw, .slice y.2.1.1 m.ss.length y.2.1.2, .slice y.2.2.1 m.js.length y.2.2.2] ∧ MIn m y.1.1 y.1.2 y.2.1.1 y.2.1.2 y.2.2.1 y.2.2.2 W' | 2 => v = .agg #[.int .i64 lo2, .int .i64 hi2] | 3 => ∃ (y : Option Addr × Nat), v = .tuple #[.slice y.1 (lst m l2).length y.2, .int .i64 (j2 : Int), .int .i64 0] ∧ True | 4 => ∃ (y : Option Addr × Nat), v = .tuple #[.slice y.1 (lst m l2).length y.2, .int .i64 (j2 : Int), .int .i64 0] ∧ True | 5 => ∃ (y : Option Addr × Nat), v = .slice y.1 (lst m l2).length y.2 ∧ True | 6 => v = .int .i64 (j2 : Int) | 7 => v = .int .i64 0 | 8 => ∃ (y : Option Addr × Nat), v = .slice y.1 (lst m l2).length y.2 ∧ True | 9 => v = .int .i64 (j2 : Int) | _ => True) (fun A B => Below A.heap.size A B) (fun _ _ => True) (by kernel_rfl) (by kernel_rfl) ?_ (fun h k => h.trans (k.mono h.size)) ⟨rfl, rfl, rfl, Nat.le_refl _, fun _ _ => rfl⟩ trivial (by kernel_rfl) ?_ ?_
  · intro i v W1 W2 hb h
    match i, h with
    | 0, h => exact h
    | 1, h =>
      obtain ⟨y, rfl, h1⟩ := h
      exact ⟨_, rfl, h1.at_ hb⟩
    | 2, h => exact h
    | 3, h =>
      obtain ⟨y, rfl, h1⟩ := h
      exact ⟨_, rfl, trivial⟩
    | 4, h =>
      obtain ⟨y, rfl, h1⟩ := h
      exact ⟨_, rfl, trivial⟩
    | 5, h =>
      obtain ⟨y, rfl, h1⟩ := h
      exact ⟨_, rfl, trivial⟩
    | 6, h => exact h
    | 7, h => exact h
    | 8, h =>
      obtain ⟨y, rfl, h1⟩ := h
      exact ⟨_, rfl, trivial⟩
    | 9, h => exact h
    | i + 10, h => trivial
  · refine ⟨?_, ?_, ?_, ?_, ?_, ?_, ?_, ?_, ?_, ?_, trivial⟩
    · -- 0
      intro li a1 W2 hA K hK
      have e5 := hA.par 5 (by kernel_rfl)
      obtain ⟨q1, q2, q3, q4⟩ := (HT21.out.keep hA.st).c4
      refine opStep none 0 rfl rfl (fun c hc => by cases hc) ?_
      go_simp
      exact hK _ _ rfl (Below.refl _ _) trivial
    · -- 1
      intro li a1 W2 hA K hK
      have e114 : a1.tmps.getD 114 undef = .agg #[.slice A m.old.length c, .int .i64 m.nw, .slice A2 m.ss.length c2, .slice A3 m.js.length c3] := hA.val 0 114 (by kernel_rfl) (by kernel_rfl)
      refine opStep none 0 rfl rfl (fun c hc => by cases hc) ?_
      go_simp
      refine (map_thin (HH.out.at_ (HB21.out.trans (hA.st.mono HB21.out.size))) HTH.out).mono ?_
      rintro e W3 ⟨P, Q, R, rfl, hy, hb3⟩
      exact hK _ _ ⟨(P, Q, R), rfl, hy⟩ hb3 trivial
    · -- 2
      intro li a1 W2 hA K hK
      have e12 := hA.par 12 (by kernel_rfl)
      obtain ⟨q1, q2⟩ := (LBM21.out.keep hA.st).c2
      refine opStep none 0 rfl rfl (fun c hc => by cases hc) ?_
      go_simp
      exact hK _ _ rfl (Below.refl _ _) trivial
    · -- 3
      intro li a1 W2 hA K hK
      obtain ⟨y115, e115, h115⟩ := hA.val 1 115 (by kernel_rfl) (by kernel_rfl)
      have e116 : a1.tmps.getD 116 undef = .agg #[.int .i64 lo2, .int .i64 hi2] := hA.val 2 116 (by kernel_rfl) (by kernel_rfl)
      refine opStep none 0 rfl rfl (fun c hc => by cases hc) ?_
      go_simp
      refine (best_yes h115 HE2.out HB2b.out).mono ?_
      rintro e W3 ⟨y, rfl, hy, hb3⟩
      exact hK _ _ ⟨y, rfl, trivial⟩ hb3 trivial
    · -- 4
      intro li a1 W2 hA K hK
      obtain ⟨y117, e117, h117⟩ := hA.val 3 117 (by kernel_rfl) (by kernel_rfl)
      refine opStep none 0 rfl rfl (fun c hc => by cases hc) ?_
      go_simp
      exact hK _ _ ⟨_, rfl, h117⟩ (Below.refl _ _) trivial
    · -- 5
      intro li a1 W2 hA K hK
      obtain ⟨y113, e113, h113⟩ := hA.val 4 113 (by kernel_rfl) (by kernel_rfl)
      refine opStep none 0 rfl rfl (fun c hc => by cases hc) ?_
      go_simp
      exact hK _ _ ⟨_, rfl, h113⟩ (Below.refl _ _) trivial
    · -- 6
      intro li a1 W2 hA K hK
      obtain ⟨y113, e113, h113⟩ := hA.val 4 113 (by kernel_rfl) (by kernel_rfl)
      refine opStep none 0 rfl rfl (fun c hc => by cases hc) ?_
      go_simp
      exact hK _ _ rfl (Below.refl _ _) trivial
    · -- 7
      intro li a1 W2 hA K hK
      obtain ⟨y113, e113, h113⟩ := hA.val 4 113 (by kernel_rfl) (by kernel_rfl)
      refine opStep none 0 rfl rfl (fun c hc => by cases hc) ?_
      go_simp
      exact hK _ _ rfl (Below.refl _ _) trivial
    · -- 8
      intro li a1 W2 hA K hK
      obtain ⟨y118, e118, h118⟩ := hA.val 5 118 (by kernel_rfl) (by kernel_rfl)
      refine opStep none 0 rfl rfl (fun c hc => by cases hc) ?_
      go_simp
      exact hK _ _ ⟨_, rfl, h118⟩ (Below.refl _ _) trivial
    · -- 9
      intro li a1 W2 hA K hK
      have e119 : a1.tmps.getD 119 undef = .int .i64 (j2 : Int) := hA.val 6 119 (by kernel_rfl) (by kernel_rfl)
      refine opStep none 0 rfl rfl (fun c hc => by cases hc) ?_
      go_simp
      exact hK _ _ rfl (Below.refl _ _) trivial
  intro li a1 W2 hD
  obtain ⟨y18, e18, h18⟩ := hD.val 8 18 (by kernel_rfl) (by kernel_rfl)
  have e19 : a1.tmps.getD 19 undef = .int .i64 (j2 : Int) := hD.val 9 19 (by kernel_rfl) (by kernel_rfl)
  have e120 : a1.tmps.getD 120 undef = .int .i64 0 := hD.val 7 120 (by kernel_rfl) (by kernel_rfl)
  have hkp2 := hD.keeps (ds := [114, 115, 116, 117, 113, 118, 119, 120, 18, 19, 20]) (by kernel_rfl)
  have hds := hD.size
  have hsz9 : a1.tmps.size = 221 := hD.size
  have hdd := hD.defers
  have hst := hD.st
  refine tail_val (i := 10) (v := .int .i64 0) (W' := W2) none 0 rfl rfl rfl (fun c hc => by cases hc) (by go_simp) (by rw [hsz9]; decide) ?_
  intro a3 s3 d3 f3 o3
  have hkp3 := keeps_then hkp2 o3 (by decide)
  have e := act_mix [114, 115, 116, 117, 113, 118, 119, 120, 18, 19, 20] (s3.trans (hds)) (d3.trans (hdd)) (fun i _ hc => hkp3 i hc)
  have hgg0 : (fun i => a3.tmps.getD i undef) 20 = .int .i64 0 := f3
  have hgk18 : (fun i => a3.tmps.getD i undef) 18 = .slice y18.1 (lst m l2).length y18.2 := (o3 18 (by decide)).trans (e18)
  have hgk19 : (fun i => a3.tmps.getD i undef) 19 = .int .i64 (j2 : Int) := (o3 19 (by decide)).trans (e19)
  generalize (fun i => a3.tmps.getD i undef) = g' at e hgg0 hgk18 hgk19
  refine wpListIn_nil ?_
  rw [e]
  clear e hD hkp2 hkp3 hds hdd hsz9 s3 d3 f3 o3 e120 h18 e18 e19
  simp only [mix, List.contains_cons, List.contains_nil, Nat.reduceAdd, Nat.reduceBEq, Bool.or_false, Bool.or_true, cond_true, cond_false, hgg0, hgk18, hgk19]
  clear hgg0 hgk18 hgk19
  have hb := hst
  clear hst
  have HB22 := hid (HB21.out.trans (hb.mono HB21.out.size))
  have HT22 := hid (HT21.out.keep hb)
  have BY22 := hid (BY21.out.trans (hb.mono BY21.out.size))
  have LB22 := hid (LB21.out.keep hb)
  have LBM22 := hid (LBM21.out.keep hb)
  have XB22 := hid (XB21.out.keep hb)
  clear hb
  generalize W2 = w22 at *
  obtain ⟨t0, t1, t2, t3⟩ := HT22.out.c4
  obtain ⟨l0, l1_⟩ := LB22.out.c2
  obtain ⟨k0, k1⟩ := LBM22.out.c2
  obtain ⟨x0, x1, x2, x3⟩ := XB22.out.c4
  cases hrx : readyM x
  · have HRX := hid hrx
    clear hrx
    have K23 := hid (mready_any x A c (some ⟨g, 0, none⟩) cap A3 c3 w22 (HXA.out.at_ BY22.out).toMIn)
    rw [HRX.out] at K23
    go_wp2_with fail
    refine K23.out.mono ?_
    rintro e w23 ⟨rfl, hb⟩
    have HB23 := hid (HB22.out.trans (hb.mono HB22.out.size))
    have HT23 := hid (HT22.out.keep hb)
    have BY23 := hid (BY22.out.trans (hb.mono BY22.out.size))
    have LB23 := hid (LB22.out.keep hb)
    have LBM23 := hid (LBM22.out.keep hb)
    have XB23 := hid (XB22.out.keep hb)
    clear hb K23 t0 t1 t2 t3 l0 l1_ k0 k1 x0 x1 x2 x3
    obtain ⟨t0, t1, t2, t3⟩ := HT23.out.c4
    obtain ⟨l0, l1_⟩ := LB23.out.c2
    obtain ⟨k0, k1⟩ := LBM23.out.c2
    obtain ⟨x0, x1, x2, x3⟩ := XB23.out.c4
    have K24 := hid (awake_any w23)
    go_wp2_with fail
    refine K24.out.mono ?_
    rintro e w24 ⟨rfl, hb⟩
    have HB24 := hid (HB23.out.trans (hb.mono HB23.out.size))
    have HT24 := hid (HT23.out.keep hb)
    have BY24 := hid (BY23.out.trans (hb.mono BY23.out.size))
    have LB24 := hid (LB23.out.keep hb)
    have LBM24 := hid (LBM23.out.keep hb)
    have XB24 := hid (XB23.out.keep hb)
    clear hb K24 t0 t1 t2 t3 l0 l1_ k0 k1 x0 x1 x2 x3
    obtain ⟨t0, t1, t2, t3⟩ := HT24.out.c4
    obtain ⟨l0, l1_⟩ := LB24.out.c2
    obtain ⟨k0, k1⟩ := LBM24.out.c2
    obtain ⟨x0, x1, x2, x3⟩ := XB24.out.c4
    clear t0 t1 t2 t3 l0 l1_ k0 k1 x0 x1 x2 x3
    go_wp2
    go_ret
    exact ⟨rfl, HB24.out⟩
  · have HRX := hid hrx
    have HCX := hid (ready_iff.1 hrx).2
    have HEX := hid (ask_mk (ready_iff.1 hrx).2 HLI.out.1 HLI.out.2.1 HLI.out.2.2 : askE x lo hi = 0)
    have HBX := hid (show (bndL x).length = m.nw.toNat by rw [bndL_len, HNX.out.nw])
    have hn4z := OK.out.n4
    obtain ⟨j3, l3, hb3, hj3⟩ := HNX.out.best HBB.out
    have hjC : decide ((j : Int) < (j3 : Int)) = false := by simp; omega
    have hjCn : decide (j < j3) = false := by simp; omega
    have HB3b := hid hb3
    clear hb3 hj3
    clear hrx
    have K23 := hid (mready_any x A c (some ⟨g, 0, none⟩) cap A3 c3 w22 (HXA.out.at_ BY22.out).toMIn)
    rw [HRX.out] at K23
    go_wp2_with fail
    refine K23.out.mono ?_
    rintro e w23 ⟨rfl, hb⟩
    have HB23 := hid (HB22.out.trans (hb.mono HB22.out.size))
    have HT23 := hid (HT22.out.keep hb)
    have BY23 := hid (BY22.out.trans (hb.mono BY22.out.size))
    have LB23 := hid (LB22.out.keep hb)
    have LBM23 := hid (LBM22.out.keep hb)
    have XB23 := hid (XB22.out.keep hb)
    clear hb K23 t0 t1 t2 t3 l0 l1_ k0 k1 x0 x1 x2 x3
    obtain ⟨t0, t1, t2, t3⟩ := HT23.out.c4
    obtain ⟨l0, l1_⟩ := LB23.out.c2
    obtain ⟨k0, k1⟩ := LBM23.out.c2
    obtain ⟨x0, x1, x2, x3⟩ := XB23.out.c4
    have K24 := hid (map_thin (HH.out.at_ HB23.out) HTH.out)
    go_wp2_with fail
    refine K24.out.mono ?_
    rintro e w24 ⟨P24, Q24, R24, rfl, hm, hb⟩
    have HB24 := hid (HB23.out.trans (hb.mono HB23.out.size))
    have HT24 := hid (HT23.out.keep hb)
    have BY24 := hid (BY23.out.trans (hb.mono BY23.out.size))
    have LB24 := hid (LB23.out.keep hb)
    have LBM24 := hid (LBM23.out.keep hb)
    have XB24 := hid (XB23.out.keep hb)
    have M24 := hid hm
    clear hm
    clear hb K24 t0 t1 t2 t3 l0 l1_ k0 k1 x0 x1 x2 x3
    obtain ⟨t0, t1, t2, t3⟩ := HT24.out.c4
    obtain ⟨l0, l1_⟩ := LB24.out.c2
    obtain ⟨k0, k1⟩ := LBM24.out.c2
    obtain ⟨x0, x1, x2, x3⟩ := XB24.out.c4
    have K25 := hid (bounds_good M24.out HCM.out)
    unfold GivesR0 at K25
    rw [HBND.out] at K25
    go_wp2_with fail
    refine K25.out.mono ?_
    rintro e w25 ⟨⟨A21, c21⟩, rfl, hy, hb⟩
    have HB25 := hid (HB24.out.trans (hb.mono HB24.out.size))
    have HT25 := hid (HT24.out.keep hb)
    have BY25 := hid (BY24.out.trans (hb.mono BY24.out.size))
    have LB25 := hid (LB24.out.keep hb)
    have LBM25 := hid (LBM24.out.keep hb)
    have XB25 := hid (XB24.out.keep hb)
    have HYA := hid hy
    clear hy
    clear hb K25 t0 t1 t2 t3 l0 l1_ k0 k1 x0 x1 x2 x3
    obtain ⟨t0, t1, t2, t3⟩ := HT25.out.c4
    obtain ⟨l0, l1_⟩ := LB25.out.c2
    obtain ⟨k0, k1⟩ := LBM25.out.c2
    obtain ⟨x0, x1, x2, x3⟩ := XB25.out.c4
    have YA_0 := hid (HYA.out)
    have K26 := hid (map_thin (HXA.out.at_ BY25.out) HXT.out)
    go_wp2_with fail
    refine K26.out.mono ?_
    rintro e w26 ⟨P26, Q26, R26, rfl, hm, hb⟩
    have HB26 := hid (HB25.out.trans (hb.mono HB25.out.size))
    have HT26 := hid (HT25.out.keep hb)
    have BY26 := hid (BY25.out.trans (hb.mono BY25.out.size))
    have LB26 := hid (LB25.out.keep hb)
    have LBM26 := hid (LBM25.out.keep hb)
    have XB26 := hid (XB25.out.keep hb)
    have YA_26 := hid (YA_0.out.at_ hb)
    have M26 := hid hm
    clear hm
    clear hb K26 t0 t1 t2 t3 l0 l1_ k0 k1 x0 x1 x2 x3
    obtain ⟨t0, t1, t2, t3⟩ := HT26.out.c4
    obtain ⟨l0, l1_⟩ := LB26.out.c2
    obtain ⟨k0, k1⟩ := LBM26.out.c2
    obtain ⟨x0, x1, x2, x3⟩ := XB26.out.c4
    have K27 := hid (bounds_good M26.out HCX.out)
    unfold GivesR0 at K27
    rw [HBX.out] at K27
    go_wp2_with fail
    refine K27.out.mono ?_
    rintro e w27 ⟨⟨A23, c23⟩, rfl, hy, hb⟩
    have HB27 := hid (HB26.out.trans (hb.mono HB26.out.size))
    have HT27 := hid (HT26.out.keep hb)
    have BY27 := hid (BY26.out.trans (hb.mono BY26.out.size))
    have LB27 := hid (LB26.out.keep hb)
    have LBM27 := hid (LBM26.out.keep hb)
    have XB27 := hid (XB26.out.keep hb)
    have YA_27 := hid (YA_26.out.at_ hb)
    have HYB := hid hy
    clear hy
    clear hb K27 t0 t1 t2 t3 l0 l1_ k0 k1 x0 x1 x2 x3
    obtain ⟨t0, t1, t2, t3⟩ := HT27.out.c4
    obtain ⟨l0, l1_⟩ := LB27.out.c2
    obtain ⟨k0, k1⟩ := LBM27.out.c2
    obtain ⟨x0, x1, x2, x3⟩ := XB27.out.c4
    have YB_0 := hid (HYB.out)
    clear t0 t1 t2 t3 l0 l1_ k0 k1 x0 x1 x2 x3
    go_wp2
    refine (wpIn_wide (n := 0)).1 ?_
    refine wpIn_region_each 10 (fun i v W' => match i with | 0 => v = .agg #[.slice A x.old.length c, .int .i64 x.nw, .slice (some ⟨g, 0, none⟩) x.ss.length cap, .slice A3 x.js.length c3] | 1 => ∃ (y : (Option Addr × Nat) × (Option Addr × Nat) × (Option Addr × Nat)), v = .agg #[.slice y.1.1 x.old.length y.1.2, .int .i64 x.nw, .slice y.2.1.1 x.ss.length y.2.1.2, .slice y.2.2.1 x.js.length y.2.2.2] ∧ MIn x y.1.1 y.1.2 y.2.1.1 y.2.1.2 y.2.2.1 y.2.2.2 W' | 2 => v = .agg #[.int .i64 lo, .int .i64 hi] | 3 => ∃ (y : Option Addr × Nat), v = .tuple #[.slice y.1 (lst x l3).length y.2, .int .i64 (j3 : Int), .int .i64 0] ∧ True | 4 => ∃ (y : Option Addr × Nat), v = .tuple #[.slice y.1 (lst x l3).length y.2, .int .i64 (j3 : Int), .int .i64 0] ∧ True | 5 => ∃ (y : Option Addr × Nat), v = .slice y.1 (lst x l3).length y.2 ∧ True | 6 => v = .int .i64 (j3 : Int) | 7 => v = .int .i64 0 | 8 => ∃ (y : Option Addr × Nat), v = .slice y.1 (lst x l3).length y.2 ∧ True | 9 => v = .int .i64 (j3 : Int) | _ => True) (fun A B => Below A.heap.size A B) (fun _ _ => True) (by kernel_rfl) (by kernel_rfl) ?_ (fun h k => h.trans (k.mono h.size)) ⟨rfl, rfl, rfl, Nat.le_refl _, fun _ _ => rfl⟩ trivial (by kernel_rfl) ?_ ?_
    · intro i v W1 W2 hb h
      match i, h with
      | 0, h => exact h
      | 1, h =>
        obtain ⟨y, rfl, h1⟩ := h
        exact ⟨_, rfl, h1.at_ hb⟩
      | 2, h => exact h
      | 3, h =>
        obtain ⟨y, rfl, h1⟩ := h
        exact ⟨_, rfl, trivial⟩
      | 4, h =>
        obtain ⟨y, rfl, h1⟩ := h
        exact ⟨_, rfl, trivial⟩
      | 5, h =>
        obtain ⟨y, rfl, h1⟩ := h
        exact ⟨_, rfl, trivial⟩
      | 6, h => exact h
      | 7, h => exact h
      | 8, h =>
        obtain ⟨y, rfl, h1⟩ := h
        exact ⟨_, rfl, trivial⟩
      | 9, h => exact h
      | i + 10, h => trivial
    · refine ⟨?_, ?_, ?_, ?_, ?_, ?_, ?_, ?_, ?_, ?_, trivial⟩
      · -- 0
        intro li a1 W2 hA K hK
        have e13 := hA.par 13 (by kernel_rfl)
        obtain ⟨q1, q2, q3, q4⟩ := (XB27.out.keep hA.st).c4
        refine opStep none 0 rfl rfl (fun c hc => by cases hc) ?_
        go_simp
        exact hK _ _ rfl (Below.refl _ _) trivial
      · -- 1
        intro li a1 W2 hA K hK
        have e157 : a1.tmps.getD 157 undef = .agg #[.slice A x.old.length c, .int .i64 x.nw, .slice (some ⟨g, 0, none⟩) x.ss.length cap, .slice A3 x.js.length c3] := hA.val 0 157 (by kernel_rfl) (by kernel_rfl)
        refine opStep none 0 rfl rfl (fun c hc => by cases hc) ?_
        go_simp
        refine (map_thin (HXA.out.at_ (BY27.out.trans (hA.st.mono BY27.out.size))) HXT.out).mono ?_
        rintro e W3 ⟨P, Q, R, rfl, hy, hb3⟩
        exact hK _ _ ⟨(P, Q, R), rfl, hy⟩ hb3 trivial
      · -- 2
        intro li a1 W2 hA K hK
        have e11 := hA.par 11 (by kernel_rfl)
        obtain ⟨q1, q2⟩ := (LB27.out.keep hA.st).c2
        refine opStep none 0 rfl rfl (fun c hc => by cases hc) ?_
        go_simp
        exact hK _ _ rfl (Below.refl _ _) trivial
      · -- 3
        intro li a1 W2 hA K hK
        obtain ⟨y158, e158, h158⟩ := hA.val 1 158 (by kernel_rfl) (by kernel_rfl)
        have e159 : a1.tmps.getD 159 undef = .agg #[.int .i64 lo, .int .i64 hi] := hA.val 2 159 (by kernel_rfl) (by kernel_rfl)
        refine opStep none 0 rfl rfl (fun c hc => by cases hc) ?_
        go_simp
        refine (best_yes h158 HEX.out HB3b.out).mono ?_
        rintro e W3 ⟨y, rfl, hy, hb3⟩
        exact hK _ _ ⟨y, rfl, trivial⟩ hb3 trivial
      · -- 4
        intro li a1 W2 hA K hK
        obtain ⟨y160, e160, h160⟩ := hA.val 3 160 (by kernel_rfl) (by kernel_rfl)
        refine opStep none 0 rfl rfl (fun c hc => by cases hc) ?_
        go_simp
        exact hK _ _ ⟨_, rfl, h160⟩ (Below.refl _ _) trivial
      · -- 5
        intro li a1 W2 hA K hK
        obtain ⟨y156, e156, h156⟩ := hA.val 4 156 (by kernel_rfl) (by kernel_rfl)
        refine opStep none 0 rfl rfl (fun c hc => by cases hc) ?_
        go_simp
        exact hK _ _ ⟨_, rfl, h156⟩ (Below.refl _ _) trivial
      · -- 6
        intro li a1 W2 hA K hK
        obtain ⟨y156, e156, h156⟩ := hA.val 4 156 (by kernel_rfl) (by kernel_rfl)
        refine opStep none 0 rfl rfl (fun c hc => by cases hc) ?_
        go_simp
        exact hK _ _ rfl (Below.refl _ _) trivial
      · -- 7
        intro li a1 W2 hA K hK
        obtain ⟨y156, e156, h156⟩ := hA.val 4 156 (by kernel_rfl) (by kernel_rfl)
        refine opStep none 0 rfl rfl (fun c hc => by cases hc) ?_
        go_simp
        exact hK _ _ rfl (Below.refl _ _) trivial
      · -- 8
        intro li a1 W2 hA K hK
        obtain ⟨y161, e161, h161⟩ := hA.val 5 161 (by kernel_rfl) (by kernel_rfl)
        refine opStep none 0 rfl rfl (fun c hc => by cases hc) ?_
        go_simp
        exact hK _ _ ⟨_, rfl, h161⟩ (Below.refl _ _) trivial
      · -- 9
        intro li a1 W2 hA K hK
        have e162 : a1.tmps.getD 162 undef = .int .i64 (j3 : Int) := hA.val 6 162 (by kernel_rfl) (by kernel_rfl)
        refine opStep none 0 rfl rfl (fun c hc => by cases hc) ?_
        go_simp
        exact hK _ _ rfl (Below.refl _ _) trivial
    intro li a1 W2 hD
    obtain ⟨y25, e25, h25⟩ := hD.val 8 25 (by kernel_rfl) (by kernel_rfl)
    have e26 : a1.tmps.getD 26 undef = .int .i64 (j3 : Int) := hD.val 9 26 (by kernel_rfl) (by kernel_rfl)
    have e163 : a1.tmps.getD 163 undef = .int .i64 0 := hD.val 7 163 (by kernel_rfl) (by kernel_rfl)
    have hkp2 := hD.keeps (ds := [157, 158, 159, 160, 156, 161, 162, 163, 25, 26, 27]) (by kernel_rfl)
    have hds := hD.size
    have hsz9 : a1.tmps.size = 221 := hD.size
    have hdd := hD.defers
    have hst := hD.st
    refine tail_val (i := 10) (v := .int .i64 0) (W' := W2) none 0 rfl rfl rfl (fun c hc => by cases hc) (by go_simp) (by rw [hsz9]; decide) ?_
    intro a3 s3 d3 f3 o3
    have hkp3 := keeps_then hkp2 o3 (by decide)
    have e := act_mix [157, 158, 159, 160, 156, 161, 162, 163, 25, 26, 27] (s3.trans (hds)) (d3.trans (hdd)) (fun i _ hc => hkp3 i hc)
    have hgg0 : (fun i => a3.tmps.getD i undef) 27 = .int .i64 0 := f3
    have hgk25 : (fun i => a3.tmps.getD i undef) 25 = .slice y25.1 (lst x l3).length y25.2 := (o3 25 (by decide)).trans (e25)
    have hgk26 : (fun i => a3.tmps.getD i undef) 26 = .int .i64 (j3 : Int) := (o3 26 (by decide)).trans (e26)
    generalize (fun i => a3.tmps.getD i undef) = g' at e hgg0 hgk25 hgk26
    refine wpListIn_nil ?_
    rw [e]
    clear e hD hkp2 hkp3 hds hdd hsz9 s3 d3 f3 o3 e163 h25 e25 e26
    simp only [mix, List.contains_cons, List.contains_nil, Nat.reduceAdd, Nat.reduceBEq, Bool.or_false, Bool.or_true, cond_true, cond_false, hgg0, hgk25, hgk26]
    clear hgg0 hgk25 hgk26
    have hb := hst
    clear hst
    have HB28 := hid (HB27.out.trans (hb.mono HB27.out.size))
    have HT28 := hid (HT27.out.keep hb)
    have BY28 := hid (BY27.out.trans (hb.mono BY27.out.size))
    have LB28 := hid (LB27.out.keep hb)
    have LBM28 := hid (LBM27.out.keep hb)
    have XB28 := hid (XB27.out.keep hb)
    have YA_28 := hid (YA_27.out.at_ hb)
    have YB_28 := hid (YB_0.out.at_ hb)
    clear hb
    generalize W2 = w28 at *
    obtain ⟨t0, t1, t2, t3⟩ := HT28.out.c4
    obtain ⟨l0, l1_⟩ := LB28.out.c2
    obtain ⟨k0, k1⟩ := LBM28.out.c2
    obtain ⟨x0, x1, x2, x3⟩ := XB28.out.c4
    go_wp2
    clear t0 t1 t2 t3 x0 x1 x2 x3 l0 l1_ k0 k1
    go_loopw [28] (fun i W => ∃ d : Nat, d ≤ m.nw.toNat ∧ i = .int .i64 d ∧ Below w28.heap.size w28 W) (fun i _ => m.nw.toNat - (intOf i).toNat)
    case atStart => exact ⟨0, Nat.zero_le _, rfl, Below.refl _ _⟩
    case round =>
      obtain ⟨d, hd, rfl, hbr⟩ := hrel
      have HR := hid hbr
      have HTR := hid (HT28.out.keep hbr)
      have HBR := hid (HB28.out.trans (hbr.mono HB28.out.size))
      clear hbr
      by_cases hlt : d < m.nw.toNat
      · have hdI : (d : Int) < (m.nw.toNat : Int) := by omega
        obtain ⟨a21, e21, _, f1, f2⟩ := (YA_28.out.at_ HR.out).1 d (bndOne m d) (bndL_at hlt)
        obtain ⟨a23, e23, _, f3, f4⟩ := (YB_28.out.at_ HR.out).1 d (bndOne x d) (bndL_at (by rw [HNX.out.nw]; exact hlt))
        replace e21 : A21 = some a21 := e21
        replace e23 : A23 = some a23 := e23
        subst e21 e23
        have hnb := nar_bnd HNX.out d
        have hc1 : decide ((bndOne x d).1 < (bndOne m d).1) = false := by simp; omega
        have hc2 : decide ((bndOne m d).2 < (bndOne x d).2) = false := by simp; omega
        have s1 := xt_cell f1
        have s2 := xt_cell f2
        have s3 := xt_cell f3
        have s4 := xt_cell f4
        clear f1 f2 f3 f4 hnb
        go_wp2
        refine wp_region_quiet_xt (by kernel_rfl) (by kernel_rfl) ?_
        repeat (go_big_quiet_step (fail))
        refine wpQuiet_nil ?_
        intro W3 hw3
        replace hw3 := of_xt hw3
        have HNZ := hid (HR.out.trans (hw3.mono HR.out.size))
        clear hw3 s1 s2 s3 s4 HR
        go_wp2
        go_roundw
        case rel => exact ⟨d + 1, by omega, by go_num, HNZ.out⟩
        case measure => first | (simp [intOf]; done) | (simp [intOf]; omega)
      · have hdI : decide ((d : Int) < (m.nw.toNat : Int)) = false := by simp; omega
        obtain ⟨t0, t1, t2, t3⟩ := HTR.out.c4
        have K91 := hid (awake_any wr)
        go_wp2_with fail
        refine K91.out.mono ?_
        rintro e w91 ⟨rfl, hb⟩
        have HB91 := hid (HBR.out.trans (hb.mono HBR.out.size))
        have HT91 := hid (HTR.out.keep hb)
        clear hb K91 t0 t1 t2 t3
        obtain ⟨t0, t1, t2, t3⟩ := HT91.out.c4
        clear t0 t1 t2 t3
        go_wp2
        go_ret
        exact ⟨rfl, HB91.out⟩

theorem wider_any9 (m : MapD) (A : Option Addr) (c : Nat) (A2 : Option Addr) (c2 : Nat) (A3 : Option Addr) (c3 : Nat) (p q v b : Int) (w : World) (h : MArg m A c A2 c2 A3 c3 w) (hp0 : 0 ≤ p) (hp1 : p ≤ 65535) (hq0 : 0 ≤ q) (hq1 : q ≤ 65535) (hv0 : 0 ≤ v) (hv1 : v ≤ 255) (hb0 : 0 ≤ b) (hb1 : b ≤ 255) :
    Calls Try.prog 6 #[.agg #[.slice A m.old.length c, .int .i64 m.nw, .slice A2 m.ss.length c2, .slice A3 m.js.length c3], .int .u16 p, .int .u16 q, .int .u8 v, .int .u8 b] w fun e w' => e = .returned (.bool true) ∧ Below w.heap.size w w' := by
  cases hr : readyM m
  · exact wid_not m A c A2 c2 A3 c3 p q v b w h hr
  · cases hbb : bestB m (p % 2000) (min 40000 (p % 2000 + q)) with
    | none => exact wid_none m A c A2 c2 A3 c3 p q v b w h hp0 hp1 hq0 hq1 hv0 hv1 hb0 hb1 hr hbb
    | some z => exact wid_some m A c A2 c2 A3 c3 p q v b w h hp0 hp1 hq0 hq1 hv0 hv1 hb0 hb1 hr z.1 z.2 hbb

open Go.ChangeShapes Go.WideShapes Go.ChangeAt in
set_option maxRecDepth 100000 in
theorem widers_lifted (os : Os) (started : os.Started) (H : Type) (enc : TypeId × Value → H) :
    ReturnsInHanded {} Try.checked os 6 .any (Rows.borderWiderSpec.pre6 enc Try.prog Try.f6 Rows.borderWiderRow.domain false) (Rows.borderWiderSpec.post enc Try.prog Try.f6 false true false false) := by
  refine returnsInHanded_of_change (C := Try.checked) own started (by kernel_rfl) Try.func6
    (ChangeSpec.witness6 (enc := enc) (C := Try.checked) false ⟨#[], #[.agg #[.slice none 0 0, .int .i64 0, .slice none 0 0, .slice none 0 0], .int .u16 0, .int .u16 0, .int .u8 0, .int .u8 0], []⟩ 8 (by kernel_rfl) (by kernel_rfl) (by kernel_rfl) (by kernel_rfl)) ?_
  intro W base args ds gs before hval0 hW hcnd _
  have hval : ∀ (j : Nat) t v, Try.f6.params[j]? = some t → args[j]? = some v → Value.okWide Try.prog W .any base t v := hval0
  have hW' := hW
  obtain ⟨p, q, hA0, hV, rfl, hfz, hnd⟩ := hW
  have hA : DataW.TrodAll enc Try.prog W 0 (fun _ => true) true Try.f6.params.toList args.toList ds p := hA0
  rw [Try.params6] at hA hval
  obtain ⟨v0, vs0, d0, ds0, p0, q0, hargs, rfl, rfl, h0, r0⟩ := trodAll_cons hA
  obtain ⟨v1, vs1, d1, ds1, p1, q1, rfl, rfl, rfl, h1, r1⟩ := trodAll_cons r0
  obtain ⟨v2, vs2, d2, ds2, p2, q2, rfl, rfl, rfl, h2, r2⟩ := trodAll_cons r1
  obtain ⟨v3, vs3, d3, ds3, p3, q3, rfl, rfl, rfl, h3, r3⟩ := trodAll_cons r2
  obtain ⟨v4, vs4, d4, ds4, p4, q4, rfl, rfl, rfl, h4, r4⟩ := trodAll_cons r3
  obtain ⟨rfl, rfl, rfl⟩ := trodAll_nil r4
  obtain rfl : args = #[v0, v1, v2, v3, v4] := by cases args; simp_all
  obtain ⟨rfl, rfl⟩ := trodVars_none hV
  obtain ⟨m, A, c, A2, c2, A3, c3, rfl, ht⟩ := open_map (hval 0 26 v0 rfl rfl) h0
  obtain ⟨p9, rfl, rfl, rfl, wk1⟩ := open_int Try.underlying52 (hval 1 52 v1 rfl rfl) h1
  have hbp9 : 0 ≤ p9 ∧ p9 ≤ 65535 := by
    have h : decide (IntKind.u16.min ≤ p9) = true ∧ decide (p9 ≤ IntKind.u16.max) = true := by simpa [Lit.wf] using wk1
    have h2 := of_decide_eq_true h.1
    have h3 := of_decide_eq_true h.2
    have e1 : IntKind.u16.min = 0 := by decide
    have e2 : IntKind.u16.max = 65535 := by decide
    omega
  obtain ⟨q9, rfl, rfl, rfl, wk2⟩ := open_int Try.underlying52 (hval 2 52 v2 rfl rfl) h2
  have hbq9 : 0 ≤ q9 ∧ q9 ≤ 65535 := by
    have h : decide (IntKind.u16.min ≤ q9) = true ∧ decide (q9 ≤ IntKind.u16.max) = true := by simpa [Lit.wf] using wk2
    have h2 := of_decide_eq_true h.1
    have h3 := of_decide_eq_true h.2
    have e1 : IntKind.u16.min = 0 := by decide
    have e2 : IntKind.u16.max = 65535 := by decide
    omega
  obtain ⟨v9, rfl, rfl, rfl, wk3⟩ := open_int Try.underlying5 (hval 3 5 v3 rfl rfl) h3
  have hbv9 : 0 ≤ v9 ∧ v9 ≤ 255 := by
    have h : decide (IntKind.u8.min ≤ v9) = true ∧ decide (v9 ≤ IntKind.u8.max) = true := by simpa [Lit.wf] using wk3
    have h2 := of_decide_eq_true h.1
    have h3 := of_decide_eq_true h.2
    have e1 : IntKind.u8.min = 0 := by decide
    have e2 : IntKind.u8.max = 255 := by decide
    omega
  obtain ⟨b9, rfl, rfl, rfl, wk4⟩ := open_int Try.underlying5 (hval 4 5 v4 rfl rfl) h4
  have hbb9 : 0 ≤ b9 ∧ b9 ≤ 255 := by
    have h : decide (IntKind.u8.min ≤ b9) = true ∧ decide (b9 ≤ IntKind.u8.max) = true := by simpa [Lit.wf] using wk4
    have h2 := of_decide_eq_true h.1
    have h3 := of_decide_eq_true h.2
    have e1 : IntKind.u8.min = 0 := by decide
    have e2 : IntKind.u8.max = 255 := by decide
    omega
  refine (wider_any9 m A c A2 c2 A3 c3 p9 q9 v9 b9 W ht hbp9.1 hbp9.2 hbq9.1 hbq9.2 hbv9.1 hbv9.2 hbb9.1 hbb9.2).mono fun e W' ⟨he, hb⟩ => ⟨_, he, ?_⟩
  exact law_post laid_out rfl rfl (by kernel_rfl) hW' rfl hb

theorem widers_over : Rows.borderWiderRow.holds Try.pinned (OpenSpec.ofChange Rows.borderWiderSpec) :=
  OpenClaim.holds_of_wide 6 Try.f6 rfl rfl rfl rfl rfl rfl rfl ⟨rfl, rfl, rfl, rfl, rfl⟩ rfl rfl rfl rfl rfl (by kernel_rfl) Try.func6 (by kernel_rfl)
    (of_decide_eq_true (by kernel_rfl)) (by unfold Func.isWrapper; first | (rw [if_pos (by decide +kernel)]; kernel_rfl) | (rw [if_neg (by decide +kernel)]; exact ⟨rfl, rfl⟩))
    (fun os started H enc _ => widers_lifted os started H enc)
/-- the statement -/
theorem border_wider : Rows.BorderWiderSaid := widers_over
#print axioms border_wider
end Go.Proofs.Ytoeabajigfdkaaa
