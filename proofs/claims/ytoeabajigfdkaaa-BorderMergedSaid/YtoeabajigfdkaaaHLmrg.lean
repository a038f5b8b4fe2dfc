/- For every map that is ready, if two new districts are merged, the carried count of the new one is the sum of both, and its bounds are within the sums of both bounds: the statement BorderMerged. No condition. -/
import Derived.Deep.Cut
import Derived.StillTailTactics
import Derived.Test.YtoeabajigfdkaaaG1
import Derived.Test.YtoeabajigfdkaaaG3
import Derived.Test.YtoeabajigfdkaaaG13
import Derived.Test.YtoeabajigfdkaaaG15
import Derived.Test.YtoeabajigfdkaaaG16
import Derived.Test.YtoeabajigfdkaaaG17
namespace Go.Proofs.Ytoeabajigfdkaaa
open Go.RowKit Go.Shelf

set_option maxRecDepth 100000 in
set_option maxHeartbeats 4000000 in
theorem merged_not (m : MapD) (A : Option Addr) (c : Nat) (A2 : Option Addr) (c2 : Nat) (A3 : Option Addr) (c3 : Nat) (q : Int) (w : World) (h : MArg m A c A2 c2 A3 c3 w) (hr : readyM m = false) :
    Calls Try.prog 5 #[.agg #[.slice A m.old.length c, .int .i64 m.nw, .slice A2 m.ss.length c2, .slice A3 m.js.length c3], .int .u8 q] w fun e w' => e = .returned (.bool true) ∧ Below w.heap.size w w' := by
  have hB := below_box (w := w) #[.slice A m.old.length c, .int .i64 m.nw, .slice A2 m.ss.length c2, .slice A3 m.js.length c3] 26
  have hT := Blk.new w 26 #[.slice A m.old.length c, .int .i64 m.nw, .slice A2 m.ss.length c2, .slice A3 m.js.length c3]
  have HB0 := hid hB
  have HT0 := hid hT
  have HH := hid h
  obtain ⟨t0, t1, t2, t3⟩ := hT.c4
  clear h hB hT
  have HRD := hid hr
  clear hr
  go_enter Try.func5, Try.ntmps5
  have K1 := hid (mready_any m A c A2 c2 A3 c3 (w.alloc (.cells #[.slice A m.old.length c, .int .i64 m.nw, .slice A2 m.ss.length c2, .slice A3 m.js.length c3] 26)) (HH.out.at_ HB0.out).toMIn)
  rw [HRD.out] at K1
  go_wp2_with fail
  refine K1.out.mono ?_
  rintro e w1 ⟨rfl, hb⟩
  have HB1 := hid (HB0.out.trans (hb.mono HB0.out.size))
  have HT1 := hid (HT0.out.keep hb)
  clear hb K1 t0 t1 t2 t3
  obtain ⟨t0, t1, t2, t3⟩ := HT1.out.c4
  have K2 := hid (awake_any w1)
  go_wp2_with fail
  refine K2.out.mono ?_
  rintro e w2 ⟨rfl, hb⟩
  have HB2 := hid (HB1.out.trans (hb.mono HB1.out.size))
  have HT2 := hid (HT1.out.keep hb)
  clear hb K2 t0 t1 t2 t3
  obtain ⟨t0, t1, t2, t3⟩ := HT2.out.c4
  clear t0 t1 t2 t3
  go_wp2
  go_ret
  exact ⟨rfl, HB2.out⟩

set_option maxRecDepth 100000 in
set_option maxHeartbeats 4000000 in
theorem merged_one (m : MapD) (A : Option Addr) (c : Nat) (A2 : Option Addr) (c2 : Nat) (A3 : Option Addr) (c3 : Nat) (q : Int) (w : World) (h : MArg m A c A2 c2 A3 c3 w) (hr : readyM m = true) (h1 : m.nw < 2) :
    Calls Try.prog 5 #[.agg #[.slice A m.old.length c, .int .i64 m.nw, .slice A2 m.ss.length c2, .slice A3 m.js.length c3], .int .u8 q] w fun e w' => e = .returned (.bool true) ∧ Below w.heap.size w w' := by
  have hB := below_box (w := w) #[.slice A m.old.length c, .int .i64 m.nw, .slice A2 m.ss.length c2, .slice A3 m.js.length c3] 26
  have hT := Blk.new w 26 #[.slice A m.old.length c, .int .i64 m.nw, .slice A2 m.ss.length c2, .slice A3 m.js.length c3]
  have HB0 := hid hB
  have HT0 := hid hT
  have HH := hid h
  obtain ⟨t0, t1, t2, t3⟩ := hT.c4
  clear h hB hT
  have HRD := hid hr
  clear hr
  go_enter Try.func5, Try.ntmps5
  have K1 := hid (mready_any m A c A2 c2 A3 c3 (w.alloc (.cells #[.slice A m.old.length c, .int .i64 m.nw, .slice A2 m.ss.length c2, .slice A3 m.js.length c3] 26)) (HH.out.at_ HB0.out).toMIn)
  rw [HRD.out] at K1
  go_wp2_with fail
  refine K1.out.mono ?_
  rintro e w1 ⟨rfl, hb⟩
  have HB1 := hid (HB0.out.trans (hb.mono HB0.out.size))
  have HT1 := hid (HT0.out.keep hb)
  clear hb K1 t0 t1 t2 t3
  obtain ⟨t0, t1, t2, t3⟩ := HT1.out.c4
  have K2 := hid (awake_any w1)
  go_wp2_with fail
  refine K2.out.mono ?_
  rintro e w2 ⟨rfl, hb⟩
  have HB2 := hid (HB1.out.trans (hb.mono HB1.out.size))
  have HT2 := hid (HT1.out.keep hb)
  clear hb K2 t0 t1 t2 t3
  obtain ⟨t0, t1, t2, t3⟩ := HT2.out.c4
  clear t0 t1 t2 t3
  go_wp2
  go_ret
  exact ⟨rfl, HB2.out⟩

set_option maxRecDepth 100000 in
set_option maxHeartbeats 4000000 in
theorem merged_good (m : MapD) (A : Option Addr) (c : Nat) (A2 : Option Addr) (c2 : Nat) (A3 : Option Addr) (c3 : Nat) (q : Int) (w : World) (h : MArg m A c A2 c2 A3 c3 w) (hr : readyM m = true) (h2 : 2 ≤ m.nw) (hq0 : 0 ≤ q) (hq1 : q ≤ 255) :
    Calls Try.prog 5 #[.agg #[.slice A m.old.length c, .int .i64 m.nw, .slice A2 m.ss.length c2, .slice A3 m.js.length c3], .int .u8 q] w fun e w' => e = .returned (.bool true) ∧ Below w.heap.size w w' := by
  have hB := below_box (w := w) #[.slice A m.old.length c, .int .i64 m.nw, .slice A2 m.ss.length c2, .slice A3 m.js.length c3] 26
  have hT := Blk.new w 26 #[.slice A m.old.length c, .int .i64 m.nw, .slice A2 m.ss.length c2, .slice A3 m.js.length c3]
  have HB0 := hid hB
  have HT0 := hid hT
  have HH := hid h
  obtain ⟨t0, t1, t2, t3⟩ := hT.c4
  clear h hB hT
  have HRD := hid hr
  have HCM := hid (ready_iff.1 hr).2
  have HTH := hid (ready_iff.1 hr).1
  have OK := hid (chk_okm (cst_ok (ready_iff.1 hr).2).1)
  have HOM := hid (cst_ok (ready_iff.1 hr).2).1
  have hs8 := OK.out.s8
  have hs1 := OK.out.s1
  have hd4 := OK.out.d4
  have hn4 := OK.out.n4
  obtain ⟨l, hl⟩ : ∃ l : Nat, (l : Int) = m.nw - 1 := ⟨(m.nw - 1).toNat, by omega⟩
  obtain ⟨N, hN⟩ : ∃ N : Nat, m.nw = (N : Int) := ⟨m.nw.toNat, by omega⟩
  obtain ⟨k, hk⟩ : ∃ k : Nat, (k : Int) = q % (m.nw - 1) := ⟨(q % (m.nw - 1)).toNat, by have := Int.emod_nonneg q (show m.nw - 1 ≠ 0 by omega); omega⟩
  have hkl : (k : Int) < m.nw - 1 := by rw [hk]; exact Int.emod_lt_of_pos q (by omega)
  have htm : q.tmod (m.nw - 1) = (k : Int) := by rw [Int.tmod_eq_emod_of_nonneg hq0]; exact hk.symm
  have hwq : IntKind.i64.wrap q = q := IntWalk.i64_in _ (by omega)
  have hwl : IntKind.i64.wrap (m.nw - 1) = m.nw - 1 := IntWalk.i64_in _ (by omega)
  have hwk : IntKind.i64.wrap (k : Int) = (k : Int) := IntWalk.i64_in _ (by omega)
  have hnz : ¬ m.nw - 1 = 0 := by omega
  have h2B : decide (m.nw < 2) = false := by simp; omega
  have HL := hid (show m.nw - 1 = (l : Int) from hl.symm)
  have HN := hid hN
  have HKL := hid hkl
  have H2 := hid h2
  have hl4 : l ≤ 4 := by omega
  have HNL9 := hid (show N = l + 1 by omega)
  clear hr hl hN hk h2 hkl
  go_enter Try.func5, Try.ntmps5
  have K1 := hid (mready_any m A c A2 c2 A3 c3 (w.alloc (.cells #[.slice A m.old.length c, .int .i64 m.nw, .slice A2 m.ss.length c2, .slice A3 m.js.length c3] 26)) (HH.out.at_ HB0.out).toMIn)
  rw [HRD.out] at K1
  go_wp2_with fail
  refine K1.out.mono ?_
  rintro e w1 ⟨rfl, hb⟩
  have HB1 := hid (HB0.out.trans (hb.mono HB0.out.size))
  have HT1 := hid (HT0.out.keep hb)
  clear hb K1 t0 t1 t2 t3
  obtain ⟨t0, t1, t2, t3⟩ := HT1.out.c4
  have HNE := hid (show w.heap.size ≠ w1.heap.size by have := HT1.out.lt; omega)
  go_upto_region 6 with (fail)
  refine gen (p := Code.wp _ _ _ _) (fun W => Below w1.heap.size w1 W ∧ Blk W w1.heap.size 26 #[.slice A m.old.length c, .int .i64 m.nw, .slice A2 m.ss.length c2, .slice A3 m.js.length c3]) ⟨below_box _ _, Blk.new _ _ _⟩ ?_
  rintro w2 ⟨hb, hx⟩
  have HB2 := hid (HB1.out.trans (hb.mono HB1.out.size))
  have HT2 := hid (HT1.out.keep hb)
  have hXW := HB1.out.size
  have HXX := hid hx
  clear hb hx t0 t1 t2 t3
  generalize w1.heap.size = XN at *
  obtain ⟨t0, t1, t2, t3⟩ := HT2.out.c4
  obtain ⟨x0, x1, x2, x3⟩ := HXX.out.c4
  have xf := HXX.out.frozen 1
  have xl := HXX.out.lt
  go_upto_region 7 with (fail)
  skip
  refine gen (p := Code.wp _ _ _ _) (fun W => Below w.heap.size w W ∧ Blk W XN 26 #[.slice A m.old.length c, .int .i64 (m.nw - 1), .slice A2 m.ss.length c2, .slice A3 m.js.length c3] ∧ Blk W w.heap.size 26 #[.slice A m.old.length c, .int .i64 m.nw, .slice A2 m.ss.length c2, .slice A3 m.js.length c3]) ⟨HB2.out.setCell (p := ⟨XN, 1, none⟩) hXW _, HXX.out.set_ 1 _, blk_off HT2.out HNE.out⟩ ?_
  rintro w3 ⟨hb, hx, ht⟩
  have HB3 := hid hb
  have HT3 := hid ht
  have HXY := hid hx
  clear hb hx ht t0 t1 t2 t3 x0 x1 x2 x3 xf xl
  obtain ⟨t0, t1, t2, t3⟩ := (HT3.out.alloc (.cells #[] 45)).c4
  go_wp2_with (at_builtin; refine wpList_run_append rfl _ _ 23 rfl rfl rfl (copy_stts (base := w3.heap.size) (HH.out.at_ (HB3.out.trans ((below_box _ _).mono HB3.out.size))).toMIn.is (Blk.new _ _ _) (Nat.le_refl _) hs1 (by omega)) ?_; rintro v' w7 ⟨ho7, hb7⟩; obtain ⟨g, cap, cur, rfl, hS7, hg7, hc7, hm7⟩ := SttB.of_row ho7 hs1; have hst7 := then_below (below_box _ _) hb7; have HX7 := hid (HXY.out.keep hst7); have HT7 := hid (HT3.out.keep hst7); have HB7 := hid (HB3.out.trans (hst7.mono HB3.out.size)); obtain ⟨x0, x1, x2, x3⟩ := HX7.out.c4; have xf := HX7.out.frozen 2; have xl := HX7.out.lt; have HS7 := hid hS7; have hgx : g ≠ XN := (by have := HXY.out.lt; omega); have hgw : w.heap.size ≤ g := (by have := HB3.out.size; omega); have HGW := hid (show w.heap.size ≠ g by have := HT3.out.lt; omega); clear hst7 ho7 hb7 hS7 t0 t1 t2 t3)
  clear xf xl x0 x1 x2 x3
  refine gen (p := Code.wp _ _ _ _) (fun W => Below w.heap.size w W ∧ Blk W XN 26 #[.slice A m.old.length c, .int .i64 (m.nw - 1), .slice (some ⟨g, 0, none⟩) m.ss.length cap, .slice A3 m.js.length c3] ∧ Blk W w.heap.size 26 #[.slice A m.old.length c, .int .i64 m.nw, .slice A2 m.ss.length c2, .slice A3 m.js.length c3] ∧ ∃ cur, SttB W g cur m.ss) ⟨HB7.out.setCell (p := ⟨XN, 2, none⟩) hXW _, HX7.out.set_ 2 _, blk_off HT7.out HNE.out, ⟨cur, blk_off HS7.out.1 hgx, HS7.out.2⟩⟩ ?_
  rintro w4 ⟨hb, hx, ht, ⟨cur0, hs⟩⟩
  have HB8 := hid hb
  have HX8 := hid hx
  have HT8 := hid ht
  have HS8 := hid hs
  clear hb hx ht hs HX7 HT7 HB7 HS7 cur
  go_wp2
  go_loopw [8] (fun i W => ∃ j : Nat, j ≤ m.ss.length ∧ i = .int .i64 j ∧ ∃ cur, SttB W g cur (updTo (mrgF (m.nw - 1) (k : Int)) m.ss j) ∧ Blk W XN 26 #[.slice A m.old.length c, .int .i64 (m.nw - 1), .slice (some ⟨g, 0, none⟩) m.ss.length cap, .slice A3 m.js.length c3] ∧ Blk W w.heap.size 26 #[.slice A m.old.length c, .int .i64 m.nw, .slice A2 m.ss.length c2, .slice A3 m.js.length c3] ∧ Below w.heap.size w W) (fun i _ => m.ss.length - (intOf i).toNat)
  case atStart => exact ⟨0, Nat.zero_le _, rfl, cur0, by rw [updTo_zero]; exact HS8.out, HX8.out, HT8.out, HB8.out⟩
  case round =>
    clear HB8 HX8 HT8 HS8 cur0
    obtain ⟨j, hk, rfl, cur, hSB, hxb, hbt, hbr⟩ := hrel
    obtain ⟨x0, x1, x2, x3⟩ := hxb.c4
    have HR := hid (And.intro hSB (And.intro hxb (And.intro hbt hbr)))
    clear hSB hxb hbt hbr
    by_cases hlt : j < m.ss.length
    · have hkI : (j : Int) < (m.ss.length : Int) := by omega
      obtain ⟨s, hs⟩ : ∃ s, m.ss[j]? = some s := ⟨_, List.getElem?_eq_getElem hlt⟩
      have hsu : (updTo (mrgF (m.nw - 1) (k : Int)) m.ss j)[j]? = some s := by rw [updTo_get, if_neg (by omega)]; exact hs
      obtain ⟨hB1, hB2⟩ := HR.out.1
      have c1 := (hB1.cell (j * 5 + 1)).trans (hB2 j s hsu 1 (by omega))
      have cf := hB1.frozen (j * 5 + 1)
      have cl := hB1.lt
      rw [show s.f 1 = s.n from rfl] at c1
      by_cases hsn : s.n = m.nw - 1
      · have hsB : (s.n == m.nw - 1) = true := by simp [hsn]
        have HNX := hid (show ∃ cur, SttB (wr.setCell ⟨g, j * 5 + 1, none⟩ (.int .i64 (k : Int))) g cur (updTo (mrgF (m.nw - 1) (k : Int)) m.ss (j + 1)) ∧ Blk (wr.setCell ⟨g, j * 5 + 1, none⟩ (.int .i64 (k : Int))) XN 26 #[.slice A m.old.length c, .int .i64 (m.nw - 1), .slice (some ⟨g, 0, none⟩) m.ss.length cap, .slice A3 m.js.length c3] ∧ Blk (wr.setCell ⟨g, j * 5 + 1, none⟩ (.int .i64 (k : Int))) w.heap.size 26 #[.slice A m.old.length c, .int .i64 m.nw, .slice A2 m.ss.length c2, .slice A3 m.js.length c3] ∧ Below w.heap.size w (wr.setCell ⟨g, j * 5 + 1, none⟩ (.int .i64 (k : Int))) from by
          have hf : (mrgF (m.nw - 1) (k : Int)) s = ⟨s.o, (k : Int), s.wt, s.lo, s.hi⟩ := if_pos hsn
          have h1 := HR.out.1.upd hs (r := 1) (z := (k : Int)) (by omega) (by rw [hf]; rfl) (by intro q hq hne; rw [hf]; rcases q with _ | _ | _ | _ | _ | q <;> first | rfl | omega)
          exact ⟨_, ⟨h1.1, h1.2⟩, (blk_off HR.out.2.1 hgx.symm), (blk_off HR.out.2.2.1 HGW.out), (HR.out.2.2.2.setCell (p := ⟨g, j * 5 + 1, none⟩) hgw _)⟩)
        clear hB1 hB2 hs hsu HR hsn
        go_wp2
        go_roundw
        case rel => exact ⟨j + 1, by omega, by go_num, HNX.out⟩
        case measure => first | (simp [intOf]; done) | (simp [intOf]; omega)
      · have hsB : (s.n == m.nw - 1) = false := by simp [hsn]
        have HNX := hid (show ∃ cur, SttB wr g cur (updTo (mrgF (m.nw - 1) (k : Int)) m.ss (j + 1)) ∧ Blk wr XN 26 #[.slice A m.old.length c, .int .i64 (m.nw - 1), .slice (some ⟨g, 0, none⟩) m.ss.length cap, .slice A3 m.js.length c3] ∧ Blk wr w.heap.size 26 #[.slice A m.old.length c, .int .i64 m.nw, .slice A2 m.ss.length c2, .slice A3 m.js.length c3] ∧ Below w.heap.size w wr from ⟨cur, HR.out.1.same hs (if_neg hsn), HR.out.2⟩)
        clear hB1 hB2 hs hsu HR hsn
        go_wp2
        go_roundw
        case rel => exact ⟨j + 1, by omega, by go_num, HNX.out⟩
        case measure => first | (simp [intOf]; done) | (simp [intOf]; omega)
    · have hkI : decide ((j : Int) < (m.ss.length : Int)) = false := by simp; omega
      obtain rfl : j = m.ss.length := by omega
      go_upto_region 13 with (fail)
      obtain ⟨x, hxe⟩ : ∃ x, mrgM m (k : Int) = x := ⟨_, rfl⟩
      have HXE := hid hxe
      have hxl : (mrgM m (k : Int)).ss.length = m.ss.length := updM_len _ _ _
      have hA : MArg x A c (some ⟨g, 0, none⟩) cap A3 c3 wr := by
        have h9 := HH.out.at_ HR.out.2.2.2
        have hI := HR.out.1.is
        rw [updTo_all] at hI
        rw [← hxe]
        exact ⟨⟨h9.io, hI, h9.ij, h9.l1, h9.m1, by rw [hxl]; exact hc7, hm7, h9.l3, h9.m3⟩, h9.z1, (fun e => by cases e), h9.z3⟩
      have HXA := hid hA
      have HXT := hid (show ThinP x by rw [← hxe]; exact ⟨HTH.out.1, by rw [hxl]; exact HTH.out.2.1, HTH.out.2.2⟩)
      have XB := hid (show Blk wr XN 26 #[.slice A x.old.length c, .int .i64 x.nw, .slice (some ⟨g, 0, none⟩) x.ss.length cap, .slice A3 x.js.length c3] by rw [← hxe, hxl]; exact HR.out.2.1)
      have HBX := hid HR.out.2.2.2
      have HTX := hid HR.out.2.2.1
      have BY0 := hid (Below.refl wr.heap.size wr)
      clear hxe hxl hA HR x0 x1 x2 x3
      obtain ⟨x0, x1, x2, x3⟩ := XB.out.c4
      obtain ⟨t0, t1, t2, t3⟩ := HTX.out.c4
      rw [HL.out]
      have HXC := hid (show cstM x = 0 by rw [← HXE.out]; exact mrg_cst HCM.out H2.out (by omega) HKL.out)
      have HXO := hid (okm_chk (chk_okm (cst_ok HXC.out).1))
      have hxn : x.nw = (l : Int) := by rw [← HXE.out, ← HL.out]; rfl
      have hNl := HNL9.out
      have HLN := hid (show (smD m (ownL m) (car m)).length = N by rw [smD_cnt, HN.out]; omega)
      have HLL := hid (show (smD x (ownL x) (car x)).length = l by rw [smD_cnt, hxn]; omega)
      have HBN := hid (show (bndL m).length = N by unfold bndL; rw [HN.out]; simp)
      have HBL := hid (show (bndL x).length = l by unfold bndL; rw [hxn]; simp)
      have HXN := hid hxn
      clear hxn hNl
      have K5 := hid (map_thin (HH.out.at_ HBX.out) HTH.out)
      go_wp2_with fail
      refine K5.out.mono ?_
      rintro e w5 ⟨P5, Q5, R5, rfl, hm, hb⟩
      have HB5 := hid (HBX.out.trans (hb.mono HBX.out.size))
      have HT5 := hid (HTX.out.keep hb)
      have BY5 := hid (BY0.out.trans (hb.mono BY0.out.size))
      have XB5 := hid (XB.out.keep hb)
      have M5 := hid hm
      clear hm
      clear hb K5 t0 t1 t2 t3 x0 x1 x2 x3
      obtain ⟨t0, t1, t2, t3⟩ := HT5.out.c4
      obtain ⟨x0, x1, x2, x3⟩ := XB5.out.c4
      have K6 := hid (carry_good M5.out HOM.out)
      unfold GivesCar at K6
      rw [HLN.out] at K6
      go_wp2_with fail
      refine K6.out.mono ?_
      rintro e w6 ⟨p1, ⟨A5, c5⟩, rfl, hp, hq, hb⟩
      have HB6 := hid (HB5.out.trans (hb.mono HB5.out.size))
      have HT6 := hid (HT5.out.keep hb)
      have BY6 := hid (BY5.out.trans (hb.mono BY5.out.size))
      have XB6 := hid (XB5.out.keep hb)
      have HQ1 := hid hq
      clear hp hq
      clear hb K6 t0 t1 t2 t3 x0 x1 x2 x3
      obtain ⟨t0, t1, t2, t3⟩ := HT6.out.c4
      obtain ⟨x0, x1, x2, x3⟩ := XB6.out.c4
      have BC0 := hid (Below.refl w6.heap.size w6)
      have K7 := hid (map_thin (HXA.out.at_ BY6.out) HXT.out)
      go_wp2_with fail
      refine K7.out.mono ?_
      rintro e w7 ⟨P7, Q7, R7, rfl, hm, hb⟩
      have HB7 := hid (HB6.out.trans (hb.mono HB6.out.size))
      have HT7 := hid (HT6.out.keep hb)
      have BY7 := hid (BY6.out.trans (hb.mono BY6.out.size))
      have BC7 := hid (BC0.out.trans (hb.mono BC0.out.size))
      have XB7 := hid (XB6.out.keep hb)
      have M7 := hid hm
      clear hm
      clear hb K7 t0 t1 t2 t3 x0 x1 x2 x3
      obtain ⟨t0, t1, t2, t3⟩ := HT7.out.c4
      obtain ⟨x0, x1, x2, x3⟩ := XB7.out.c4
      have K8 := hid (carry_good M7.out HXO.out)
      unfold GivesCar at K8
      rw [HLL.out] at K8
      go_wp2_with fail
      refine K8.out.mono ?_
      rintro e w8 ⟨p2, ⟨A6, c6⟩, rfl, hp, hq, hb⟩
      have HB8 := hid (HB7.out.trans (hb.mono HB7.out.size))
      have HT8 := hid (HT7.out.keep hb)
      have BY8 := hid (BY7.out.trans (hb.mono BY7.out.size))
      have BC8 := hid (BC7.out.trans (hb.mono BC7.out.size))
      have XB8 := hid (XB7.out.keep hb)
      have HQ2 := hid hq
      clear hp hq
      clear hb K8 t0 t1 t2 t3 x0 x1 x2 x3
      obtain ⟨t0, t1, t2, t3⟩ := HT8.out.c4
      obtain ⟨x0, x1, x2, x3⟩ := XB8.out.c4
      have BD0 := hid (Below.refl w8.heap.size w8)
      have K9 := hid (map_thin (HH.out.at_ HB8.out) HTH.out)
      go_wp2_with fail
      refine K9.out.mono ?_
      rintro e w9 ⟨P9, Q9, R9, rfl, hm, hb⟩
      have HB9 := hid (HB8.out.trans (hb.mono HB8.out.size))
      have HT9 := hid (HT8.out.keep hb)
      have BY9 := hid (BY8.out.trans (hb.mono BY8.out.size))
      have BC9 := hid (BC8.out.trans (hb.mono BC8.out.size))
      have BD9 := hid (BD0.out.trans (hb.mono BD0.out.size))
      have XB9 := hid (XB8.out.keep hb)
      have M9 := hid hm
      clear hm
      clear hb K9 t0 t1 t2 t3 x0 x1 x2 x3
      obtain ⟨t0, t1, t2, t3⟩ := HT9.out.c4
      obtain ⟨x0, x1, x2, x3⟩ := XB9.out.c4
      have K10 := hid (bounds_good M9.out HCM.out)
      unfold GivesR0 at K10
      rw [HBN.out] at K10
      go_wp2_with fail
      refine K10.out.mono ?_
      rintro e w10 ⟨⟨A7, c7⟩, rfl, hy, hb⟩
      have HB10 := hid (HB9.out.trans (hb.mono HB9.out.size))
      have HT10 := hid (HT9.out.keep hb)
      have BY10 := hid (BY9.out.trans (hb.mono BY9.out.size))
      have BC10 := hid (BC9.out.trans (hb.mono BC9.out.size))
      have BD10 := hid (BD9.out.trans (hb.mono BD9.out.size))
      have XB10 := hid (XB9.out.keep hb)
      have HY1 := hid hy
      clear hy
      clear hb K10 t0 t1 t2 t3 x0 x1 x2 x3
      obtain ⟨t0, t1, t2, t3⟩ := HT10.out.c4
      obtain ⟨x0, x1, x2, x3⟩ := XB10.out.c4
      have BE0 := hid (Below.refl w10.heap.size w10)
      have K11 := hid (map_thin (HXA.out.at_ BY10.out) HXT.out)
      go_wp2_with fail
      refine K11.out.mono ?_
      rintro e w11 ⟨P11, Q11, R11, rfl, hm, hb⟩
      have HB11 := hid (HB10.out.trans (hb.mono HB10.out.size))
      have HT11 := hid (HT10.out.keep hb)
      have BY11 := hid (BY10.out.trans (hb.mono BY10.out.size))
      have BC11 := hid (BC10.out.trans (hb.mono BC10.out.size))
      have BD11 := hid (BD10.out.trans (hb.mono BD10.out.size))
      have BE11 := hid (BE0.out.trans (hb.mono BE0.out.size))
      have XB11 := hid (XB10.out.keep hb)
      have M11 := hid hm
      clear hm
      clear hb K11 t0 t1 t2 t3 x0 x1 x2 x3
      obtain ⟨t0, t1, t2, t3⟩ := HT11.out.c4
      obtain ⟨x0, x1, x2, x3⟩ := XB11.out.c4
      have K12 := hid (bounds_good M11.out HXC.out)
      unfold GivesR0 at K12
      rw [HBL.out] at K12
      go_wp2_with fail
      refine K12.out.mono ?_
      rintro e w12 ⟨⟨A8, c8⟩, rfl, hy, hb⟩
      have HB12 := hid (HB11.out.trans (hb.mono HB11.out.size))
      have HT12 := hid (HT11.out.keep hb)
      have BY12 := hid (BY11.out.trans (hb.mono BY11.out.size))
      have BC12 := hid (BC11.out.trans (hb.mono BC11.out.size))
      have BD12 := hid (BD11.out.trans (hb.mono BD11.out.size))
      have BE12 := hid (BE11.out.trans (hb.mono BE11.out.size))
      have XB12 := hid (XB11.out.keep hb)
      have HY2 := hid hy
      clear hy
      clear hb K12 t0 t1 t2 t3 x0 x1 x2 x3
      obtain ⟨t0, t1, t2, t3⟩ := HT12.out.c4
      obtain ⟨x0, x1, x2, x3⟩ := XB12.out.c4
      have BF0 := hid (Below.refl w12.heap.size w12)
      rw [HN.out] at t1
      have HT9 := HT12
      have HB9 := HB12
      have HZ1 := hid (HQ1.out.at_ BC12.out)
      have HZ2 := hid (HQ2.out.at_ BD12.out)
      have HZ3 := hid (HY1.out.at_ BE12.out)
      have HZ4 := hid (HY2.out.at_ BF0.out)
      clear x0 x1 x2 x3
      go_wp2
      clear t0 t1 t2 t3
      go_loopw [19] (fun i W => ∃ d : Nat, d ≤ l ∧ i = .int .i64 d ∧ Below w12.heap.size w12 W) (fun i _ => l - (intOf i).toNat)
      case atStart => exact ⟨0, Nat.zero_le _, rfl, Below.refl _ _⟩
      case round =>
        obtain ⟨d, hd, rfl, hbr⟩ := hrel
        have HR := hid hbr
        have HTR := hid (HT9.out.keep hbr)
        have HBR := hid (HB9.out.trans (hbr.mono HB9.out.size))
        clear hbr
        by_cases hlt : d < l
        · have hdI : (d : Int) < (l : Int) := by omega
          have hNl := HNL9.out
          have hdN : (d : Int) < (N : Int) := by omega
          have hlm : m.nw - 1 = (l : Int) := HL.out
          have hn1 : m.nw.toNat = N := by rw [HN.out]; omega
          have hn2 : x.nw.toNat = l := by rw [HXN.out]; omega
          obtain ⟨a5, e5, g5, f5⟩ := (HZ1.out.at_ HR.out).1 d _ (smQ_get (by omega))
          obtain ⟨a6, e6, g6, f6⟩ := (HZ2.out.at_ HR.out).1 d _ (smQ_get (by omega))
          obtain ⟨a7, e7, g7, f7, h7⟩ := (HZ3.out.at_ HR.out).1 d (bndOne m d) (by unfold bndL; rw [List.getElem?_map, List.getElem?_range (by omega)]; rfl)
          obtain ⟨a8, e8, g8, f8, h8⟩ := (HZ4.out.at_ HR.out).1 d (bndOne x d) (by unfold bndL; rw [List.getElem?_map, List.getElem?_range (by omega)]; rfl)
          replace e5 : A5 = some a5 := e5
          replace e6 : A6 = some a6 := e6
          replace e7 : A7 = some a7 := e7
          replace e8 : A8 = some a8 := e8
          subst e5 e6 e7 e8
          by_cases hdk : d = k
          · have hdB : ((d : Int) != (k : Int)) = false := by simp [hdk]
            have HF := hid (And.intro f5 (And.intro f6 (And.intro (And.intro f7 h7) (And.intro f8 h8))))
            clear f5 f6 f7 f8 h7 h8 g5 g6 g7 g8 hdk hlm hn1 hn2 hNl
            go_wp2
            refine (wpIn_wide (n := 0)).1 ?_
            refine wpIn_region_each 24 (fun i v W' => match i with | 0 => v = .int .i64 (d : Int) | 1 => v = .int .i64 (k : Int) | 2 => v = .bool false | 3 => v = .bool false | 4 => v = undef | 5 => v = undef | 6 => v = undef | 7 => v = undef | 8 => v = undef | 9 => v = undef | 10 => v = undef | 11 => v = undef | 12 => v = undef | 13 => v = undef | 14 => v = undef | 15 => v = undef | 16 => v = undef | 17 => v = undef | 18 => v = undef | 19 => v = undef | 20 => v = undef | 21 => v = undef | 22 => v = undef | 23 => v = undef | _ => True) (fun A B => Below A.heap.size A B) (fun _ _ => True) (by kernel_rfl) (by kernel_rfl) ?_ (fun h k => h.trans (k.mono h.size)) ⟨rfl, rfl, rfl, Nat.le_refl _, fun _ _ => rfl⟩ trivial (by kernel_rfl) ?_ ?_
            · intro i v W1 W2 hb h
              match i, h with
              | 0, h => exact h
              | 1, h => exact h
              | 2, h => exact h
              | 3, h => exact h
              | 4, h => exact h
              | 5, h => exact h
              | 6, h => exact h
              | 7, h => exact h
              | 8, h => exact h
              | 9, h => exact h
              | 10, h => exact h
              | 11, h => exact h
              | 12, h => exact h
              | 13, h => exact h
              | 14, h => exact h
              | 15, h => exact h
              | 16, h => exact h
              | 17, h => exact h
              | 18, h => exact h
              | 19, h => exact h
              | 20, h => exact h
              | 21, h => exact h
              | 22, h => exact h
              | 23, h => exact h
              | i + 24, h => trivial
            · refine ⟨?_, ?_, ?_, ?_, ?_, ?_, ?_, ?_, ?_, ?_, ?_, ?_, ?_, ?_, ?_, ?_, ?_, ?_, ?_, ?_, ?_, ?_, ?_, ?_, trivial⟩
              · -- 0
                intro li a1 W2 hA K hK
                have e19 := hA.par 19 (by kernel_rfl)
                refine opStep none 0 rfl rfl (fun c hc => by cases hc) ?_
                go_simp
                exact hK _ _ rfl (Below.refl _ _) trivial
              · -- 1
                intro li a1 W2 hA K hK
                have e6 := hA.par 6 (by kernel_rfl)
                refine opStep none 0 rfl rfl (fun c hc => by cases hc) ?_
                go_simp
                exact hK _ _ rfl (Below.refl _ _) trivial
              · -- 2
                intro li a1 W2 hA K hK
                have e136 : a1.tmps.getD 136 undef = .int .i64 (d : Int) := hA.val 0 136 (by kernel_rfl) (by kernel_rfl)
                have e137 : a1.tmps.getD 137 undef = .int .i64 (k : Int) := hA.val 1 137 (by kernel_rfl) (by kernel_rfl)
                refine opStep none 0 rfl rfl (fun c hc => by cases hc) ?_
                go_simp
                exact hK _ _ (by first | rfl | exact congrArg Value.bool hdB) (Below.refl _ _) trivial
              · -- 3
                intro li a1 W2 hA K hK
                have e138 : a1.tmps.getD 138 undef = .bool false := hA.val 2 138 (by kernel_rfl) (by kernel_rfl)
                refine opStep none 0 rfl rfl (fun c hc => by cases hc) ?_
                go_simp
                exact hK _ _ rfl (Below.refl _ _) trivial
              · -- 4
                intro li a1 W2 hA K hK
                have eg139 : a1.tmps.getD 139 undef = .bool false := hA.val 3 139 (by kernel_rfl) (by kernel_rfl)
                refine opSkip none 0 rfl (wanted_no (j := 3) (d := 139) (b := true) rfl (by kernel_rfl) eg139 (by decide)) ?_
                exact hK _ _ rfl (Below.refl _ _) trivial
              · -- 5
                intro li a1 W2 hA K hK
                have eg139 : a1.tmps.getD 139 undef = .bool false := hA.val 3 139 (by kernel_rfl) (by kernel_rfl)
                refine opSkip none 0 rfl (wanted_no (j := 3) (d := 139) (b := true) rfl (by kernel_rfl) eg139 (by decide)) ?_
                exact hK _ _ rfl (Below.refl _ _) trivial
              · -- 6
                intro li a1 W2 hA K hK
                have eg139 : a1.tmps.getD 139 undef = .bool false := hA.val 3 139 (by kernel_rfl) (by kernel_rfl)
                refine opSkip none 0 rfl (wanted_no (j := 3) (d := 139) (b := true) rfl (by kernel_rfl) eg139 (by decide)) ?_
                exact hK _ _ rfl (Below.refl _ _) trivial
              · -- 7
                intro li a1 W2 hA K hK
                have eg139 : a1.tmps.getD 139 undef = .bool false := hA.val 3 139 (by kernel_rfl) (by kernel_rfl)
                refine opSkip none 0 rfl (wanted_no (j := 3) (d := 139) (b := true) rfl (by kernel_rfl) eg139 (by decide)) ?_
                exact hK _ _ rfl (Below.refl _ _) trivial
              · -- 8
                intro li a1 W2 hA K hK
                have eg139 : a1.tmps.getD 139 undef = .bool false := hA.val 3 139 (by kernel_rfl) (by kernel_rfl)
                refine opSkip none 0 rfl (wanted_no (j := 3) (d := 139) (b := true) rfl (by kernel_rfl) eg139 (by decide)) ?_
                exact hK _ _ rfl (Below.refl _ _) trivial
              · -- 9
                intro li a1 W2 hA K hK
                have eg139 : a1.tmps.getD 139 undef = .bool false := hA.val 3 139 (by kernel_rfl) (by kernel_rfl)
                refine opSkip none 0 rfl (wanted_no (j := 3) (d := 139) (b := true) rfl (by kernel_rfl) eg139 (by decide)) ?_
                exact hK _ _ rfl (Below.refl _ _) trivial
              · -- 10
                intro li a1 W2 hA K hK
                have eg139 : a1.tmps.getD 139 undef = .bool false := hA.val 3 139 (by kernel_rfl) (by kernel_rfl)
                refine opSkip none 0 rfl (wanted_no (j := 3) (d := 139) (b := true) rfl (by kernel_rfl) eg139 (by decide)) ?_
                exact hK _ _ rfl (Below.refl _ _) trivial
              · -- 11
                intro li a1 W2 hA K hK
                have eg139 : a1.tmps.getD 139 undef = .bool false := hA.val 3 139 (by kernel_rfl) (by kernel_rfl)
                refine opSkip none 0 rfl (wanted_no (j := 3) (d := 139) (b := true) rfl (by kernel_rfl) eg139 (by decide)) ?_
                exact hK _ _ rfl (Below.refl _ _) trivial
              · -- 12
                intro li a1 W2 hA K hK
                have eg139 : a1.tmps.getD 139 undef = .bool false := hA.val 3 139 (by kernel_rfl) (by kernel_rfl)
                refine opSkip none 0 rfl (wanted_no (j := 3) (d := 139) (b := true) rfl (by kernel_rfl) eg139 (by decide)) ?_
                exact hK _ _ rfl (Below.refl _ _) trivial
              · -- 13
                intro li a1 W2 hA K hK
                have eg139 : a1.tmps.getD 139 undef = .bool false := hA.val 3 139 (by kernel_rfl) (by kernel_rfl)
                refine opSkip none 0 rfl (wanted_no (j := 3) (d := 139) (b := true) rfl (by kernel_rfl) eg139 (by decide)) ?_
                exact hK _ _ rfl (Below.refl _ _) trivial
              · -- 14
                intro li a1 W2 hA K hK
                have eg149 : a1.tmps.getD 149 undef = undef := hA.val 13 149 (by kernel_rfl) (by kernel_rfl)
                refine opSkip none 0 rfl (wanted_un (j := 13) (d := 149) (b := false) rfl (by kernel_rfl) eg149) ?_
                exact hK _ _ rfl (Below.refl _ _) trivial
              · -- 15
                intro li a1 W2 hA K hK
                have eg149 : a1.tmps.getD 149 undef = undef := hA.val 13 149 (by kernel_rfl) (by kernel_rfl)
                refine opSkip none 0 rfl (wanted_un (j := 13) (d := 149) (b := false) rfl (by kernel_rfl) eg149) ?_
                exact hK _ _ rfl (Below.refl _ _) trivial
              · -- 16
                intro li a1 W2 hA K hK
                have eg149 : a1.tmps.getD 149 undef = undef := hA.val 13 149 (by kernel_rfl) (by kernel_rfl)
                refine opSkip none 0 rfl (wanted_un (j := 13) (d := 149) (b := false) rfl (by kernel_rfl) eg149) ?_
                exact hK _ _ rfl (Below.refl _ _) trivial
              · -- 17
                intro li a1 W2 hA K hK
                have eg149 : a1.tmps.getD 149 undef = undef := hA.val 13 149 (by kernel_rfl) (by kernel_rfl)
                refine opSkip none 0 rfl (wanted_un (j := 13) (d := 149) (b := false) rfl (by kernel_rfl) eg149) ?_
                exact hK _ _ rfl (Below.refl _ _) trivial
              · -- 18
                intro li a1 W2 hA K hK
                have eg149 : a1.tmps.getD 149 undef = undef := hA.val 13 149 (by kernel_rfl) (by kernel_rfl)
                refine opSkip none 0 rfl (wanted_un (j := 13) (d := 149) (b := false) rfl (by kernel_rfl) eg149) ?_
                exact hK _ _ rfl (Below.refl _ _) trivial
              · -- 19
                intro li a1 W2 hA K hK
                have eg149 : a1.tmps.getD 149 undef = undef := hA.val 13 149 (by kernel_rfl) (by kernel_rfl)
                refine opSkip none 0 rfl (wanted_un (j := 13) (d := 149) (b := false) rfl (by kernel_rfl) eg149) ?_
                exact hK _ _ rfl (Below.refl _ _) trivial
              · -- 20
                intro li a1 W2 hA K hK
                have eg149 : a1.tmps.getD 149 undef = undef := hA.val 13 149 (by kernel_rfl) (by kernel_rfl)
                refine opSkip none 0 rfl (wanted_un (j := 13) (d := 149) (b := false) rfl (by kernel_rfl) eg149) ?_
                exact hK _ _ rfl (Below.refl _ _) trivial
              · -- 21
                intro li a1 W2 hA K hK
                have eg149 : a1.tmps.getD 149 undef = undef := hA.val 13 149 (by kernel_rfl) (by kernel_rfl)
                refine opSkip none 0 rfl (wanted_un (j := 13) (d := 149) (b := false) rfl (by kernel_rfl) eg149) ?_
                exact hK _ _ rfl (Below.refl _ _) trivial
              · -- 22
                intro li a1 W2 hA K hK
                have eg149 : a1.tmps.getD 149 undef = undef := hA.val 13 149 (by kernel_rfl) (by kernel_rfl)
                refine opSkip none 0 rfl (wanted_un (j := 13) (d := 149) (b := false) rfl (by kernel_rfl) eg149) ?_
                exact hK _ _ rfl (Below.refl _ _) trivial
              · -- 23
                intro li a1 W2 hA K hK
                have eg139 : a1.tmps.getD 139 undef = .bool false := hA.val 3 139 (by kernel_rfl) (by kernel_rfl)
                refine opSkip none 0 rfl (wanted_no (j := 3) (d := 139) (b := true) rfl (by kernel_rfl) eg139 (by decide)) ?_
                exact hK _ _ rfl (Below.refl _ _) trivial
            · intro li a1 W2 hD
              have e139 : a1.tmps.getD 139 undef = .bool false := hD.val 3 139 (by kernel_rfl) (by kernel_rfl)
              have hkp2 := hD.keeps (ds := [136, 137, 138, 139, 140, 141, 142, 143, 144, 145, 146, 147, 148, 149, 150, 151, 152, 153, 154, 155, 156, 157, 158, 159, 160]) (by kernel_rfl)
              have hds := hD.size
              have hsz9 : a1.tmps.size = 216 := hD.size
              have hdd := hD.defers
              have hst := hD.st
              refine tail_val (i := 24) (v := .bool false) (W' := W2) none 0 rfl rfl rfl (fun c hc => by cases hc) (by go_simp) (by rw [hsz9]; decide) ?_
              intro a3 s3 d3 f3 o3
              have hkp3 := keeps_then hkp2 o3 (by decide)
              have e := act_mix [136, 137, 138, 139, 140, 141, 142, 143, 144, 145, 146, 147, 148, 149, 150, 151, 152, 153, 154, 155, 156, 157, 158, 159, 160] (s3.trans hds) (d3.trans hdd) (fun i _ hc => hkp3 i hc)
              have hg9 : (fun i => a3.tmps.getD i undef) 160 = .bool false := f3
              generalize (fun i => a3.tmps.getD i undef) = g' at e hg9
              refine wpListIn_nil ?_
              rw [e]
              clear e hD hkp2 hkp3 s3 d3 f3 o3 hds hdd hsz9 e139
              simp only [mix, List.contains_cons, List.contains_nil, Nat.reduceAdd, Nat.reduceBEq, Bool.or_false, Bool.or_true, cond_true, cond_false, hg9]
              clear hg9
              have HNX := hid (HR.out.trans (hst.mono HR.out.size))
              clear hst HF HTR HBR HR
              go_wp2
              go_roundw
              case rel => exact ⟨d + 1, by omega, by go_num, HNX.out⟩
              case measure => first | (simp [intOf]; done) | (simp [intOf]; omega)
          · have hdB : ((d : Int) != (k : Int)) = true := by simp; omega
            have hq1 : smQ x d = smQ m d := by rw [← HXE.out]; exact mrg_c HCM.out H2.out (by omega) HKL.out (by omega) (by omega)
            have hq2 : bndOne x d = bndOne m d := by rw [← HXE.out]; exact mrg_b (by omega) (by omega)
            rw [hq1] at f6
            rw [hq2] at f8 h8
            have HF := hid (And.intro f5 (And.intro f6 (And.intro (And.intro f7 h7) (And.intro f8 h8))))
            clear f5 f6 f7 f8 h7 h8 g5 g6 g7 g8 hdk hlm hn1 hn2 hq1 hq2 hNl
            go_wp2
            refine (wpIn_wide (n := 0)).1 ?_
            refine wpIn_region_each 24 (fun i v W' => match i with | 0 => v = .int .i64 (d : Int) | 1 => v = .int .i64 (k : Int) | 2 => v = .bool true | 3 => v = .bool true | 4 => v = .slice (some a5) N c5 | 5 => v = .int .i64 (d : Int) | 6 => v = .pointer (some (a5.add d)) | 7 => v = .int .i64 (smQ m d) | 8 => v = .slice (some a6) l c6 | 9 => v = .int .i64 (d : Int) | 10 => v = .pointer (some (a6.add d)) | 11 => v = .int .i64 (smQ m d) | 12 => v = .bool false | 13 => v = .bool false | 14 => v = .slice (some a7) N c7 | 15 => v = .int .i64 (d : Int) | 16 => v = .pointer (some (a7.add (d * 2))) | 17 => v = .agg #[.int .i64 (bndOne m d).1, .int .i64 (bndOne m d).2] | 18 => v = .slice (some a8) l c8 | 19 => v = .int .i64 (d : Int) | 20 => v = .pointer (some (a8.add (d * 2))) | 21 => v = .agg #[.int .i64 (bndOne m d).1, .int .i64 (bndOne m d).2] | 22 => v = .bool false | 23 => v = .bool false | _ => True) (fun A B => Below A.heap.size A B) (fun _ _ => True) (by kernel_rfl) (by kernel_rfl) ?_ (fun h k => h.trans (k.mono h.size)) ⟨rfl, rfl, rfl, Nat.le_refl _, fun _ _ => rfl⟩ trivial (by kernel_rfl) ?_ ?_
            · intro i v W1 W2 hb h
              match i, h with
              | 0, h => exact h
              | 1, h => exact h
              | 2, h => exact h
              | 3, h => exact h
              | 4, h => exact h
              | 5, h => exact h
              | 6, h => exact h
              | 7, h => exact h
              | 8, h => exact h
              | 9, h => exact h
              | 10, h => exact h
              | 11, h => exact h
              | 12, h => exact h
              | 13, h => exact h
              | 14, h => exact h
              | 15, h => exact h
              | 16, h => exact h
              | 17, h => exact h
              | 18, h => exact h
              | 19, h => exact h
              | 20, h => exact h
              | 21, h => exact h
              | 22, h => exact h
              | 23, h => exact h
              | i + 24, h => trivial
            · refine ⟨?_, ?_, ?_, ?_, ?_, ?_, ?_, ?_, ?_, ?_, ?_, ?_, ?_, ?_, ?_, ?_, ?_, ?_, ?_, ?_, ?_, ?_, ?_, ?_, trivial⟩
              · -- 0
                intro li a1 W2 hA K hK
                have e19 := hA.par 19 (by kernel_rfl)
                refine opStep none 0 rfl rfl (fun c hc => by cases hc) ?_
                go_simp
                exact hK _ _ rfl (Below.refl _ _) trivial
              · -- 1
                intro li a1 W2 hA K hK
                have e6 := hA.par 6 (by kernel_rfl)
                refine opStep none 0 rfl rfl (fun c hc => by cases hc) ?_
                go_simp
                exact hK _ _ rfl (Below.refl _ _) trivial
              · -- 2
                intro li a1 W2 hA K hK
                have e136 : a1.tmps.getD 136 undef = .int .i64 (d : Int) := hA.val 0 136 (by kernel_rfl) (by kernel_rfl)
                have e137 : a1.tmps.getD 137 undef = .int .i64 (k : Int) := hA.val 1 137 (by kernel_rfl) (by kernel_rfl)
                refine opStep none 0 rfl rfl (fun c hc => by cases hc) ?_
                go_simp
                exact hK _ _ (by first | rfl | exact congrArg Value.bool hdB) (Below.refl _ _) trivial
              · -- 3
                intro li a1 W2 hA K hK
                have e138 : a1.tmps.getD 138 undef = .bool true := hA.val 2 138 (by kernel_rfl) (by kernel_rfl)
                refine opStep none 0 rfl rfl (fun c hc => by cases hc) ?_
                go_simp
                exact hK _ _ rfl (Below.refl _ _) trivial
              · -- 4
                intro li a1 W2 hA K hK
                have eg139 : a1.tmps.getD 139 undef = .bool true := hA.val 3 139 (by kernel_rfl) (by kernel_rfl)
                have e10 := hA.par 10 (by kernel_rfl)
                refine opStep none 0 rfl (wanted_yes (j := 3) (d := 139) (b := true) rfl (by kernel_rfl) eg139) (fun c hc => by cases hc) ?_
                go_simp
                exact hK _ _ rfl (Below.refl _ _) trivial
              · -- 5
                intro li a1 W2 hA K hK
                have eg139 : a1.tmps.getD 139 undef = .bool true := hA.val 3 139 (by kernel_rfl) (by kernel_rfl)
                have e19 := hA.par 19 (by kernel_rfl)
                refine opStep none 0 rfl (wanted_yes (j := 3) (d := 139) (b := true) rfl (by kernel_rfl) eg139) (fun c hc => by cases hc) ?_
                go_simp
                exact hK _ _ rfl (Below.refl _ _) trivial
              · -- 6
                intro li a1 W2 hA K hK
                have eg139 : a1.tmps.getD 139 undef = .bool true := hA.val 3 139 (by kernel_rfl) (by kernel_rfl)
                have e140 : a1.tmps.getD 140 undef = .slice (some a5) N c5 := hA.val 4 140 (by kernel_rfl) (by kernel_rfl)
                have e141 : a1.tmps.getD 141 undef = .int .i64 (d : Int) := hA.val 5 141 (by kernel_rfl) (by kernel_rfl)
                refine opStep none 0 rfl (wanted_yes (j := 3) (d := 139) (b := true) rfl (by kernel_rfl) eg139) (fun c hc => by cases hc) ?_
                go_simp
                exact hK _ _ (by first | rfl | exact congrArg (fun q => Value.pointer (some q)) (add_blk _ _)) (Below.refl _ _) trivial
              · -- 7
                intro li a1 W2 hA K hK
                have eg139 : a1.tmps.getD 139 undef = .bool true := hA.val 3 139 (by kernel_rfl) (by kernel_rfl)
                have e142 : a1.tmps.getD 142 undef = .pointer (some (a5.add d)) := hA.val 6 142 (by kernel_rfl) (by kernel_rfl)
                have q1 := (hA.st.cell (World.block_lt_of_cell? _ _ HF.out.1)).trans HF.out.1
                refine opStep none 0 rfl (wanted_yes (j := 3) (d := 139) (b := true) rfl (by kernel_rfl) eg139) (fun c hc => by cases hc) ?_
                go_simp
                exact hK _ _ rfl (Below.refl _ _) trivial
              · -- 8
                intro li a1 W2 hA K hK
                have eg139 : a1.tmps.getD 139 undef = .bool true := hA.val 3 139 (by kernel_rfl) (by kernel_rfl)
                have e13 := hA.par 13 (by kernel_rfl)
                refine opStep none 0 rfl (wanted_yes (j := 3) (d := 139) (b := true) rfl (by kernel_rfl) eg139) (fun c hc => by cases hc) ?_
                go_simp
                exact hK _ _ rfl (Below.refl _ _) trivial
              · -- 9
                intro li a1 W2 hA K hK
                have eg139 : a1.tmps.getD 139 undef = .bool true := hA.val 3 139 (by kernel_rfl) (by kernel_rfl)
                have e19 := hA.par 19 (by kernel_rfl)
                refine opStep none 0 rfl (wanted_yes (j := 3) (d := 139) (b := true) rfl (by kernel_rfl) eg139) (fun c hc => by cases hc) ?_
                go_simp
                exact hK _ _ rfl (Below.refl _ _) trivial
              · -- 10
                intro li a1 W2 hA K hK
                have eg139 : a1.tmps.getD 139 undef = .bool true := hA.val 3 139 (by kernel_rfl) (by kernel_rfl)
                have e144 : a1.tmps.getD 144 undef = .slice (some a6) l c6 := hA.val 8 144 (by kernel_rfl) (by kernel_rfl)
                have e145 : a1.tmps.getD 145 undef = .int .i64 (d : Int) := hA.val 9 145 (by kernel_rfl) (by kernel_rfl)
                refine opStep none 0 rfl (wanted_yes (j := 3) (d := 139) (b := true) rfl (by kernel_rfl) eg139) (fun c hc => by cases hc) ?_
                go_simp
                exact hK _ _ (by first | rfl | exact congrArg (fun q => Value.pointer (some q)) (add_blk _ _)) (Below.refl _ _) trivial
              · -- 11
                intro li a1 W2 hA K hK
                have eg139 : a1.tmps.getD 139 undef = .bool true := hA.val 3 139 (by kernel_rfl) (by kernel_rfl)
                have e146 : a1.tmps.getD 146 undef = .pointer (some (a6.add d)) := hA.val 10 146 (by kernel_rfl) (by kernel_rfl)
                have q1 := (hA.st.cell (World.block_lt_of_cell? _ _ HF.out.2.1)).trans HF.out.2.1
                refine opStep none 0 rfl (wanted_yes (j := 3) (d := 139) (b := true) rfl (by kernel_rfl) eg139) (fun c hc => by cases hc) ?_
                go_simp
                exact hK _ _ rfl (Below.refl _ _) trivial
              · -- 12
                intro li a1 W2 hA K hK
                have eg139 : a1.tmps.getD 139 undef = .bool true := hA.val 3 139 (by kernel_rfl) (by kernel_rfl)
                have e143 : a1.tmps.getD 143 undef = .int .i64 (smQ m d) := hA.val 7 143 (by kernel_rfl) (by kernel_rfl)
                have e147 : a1.tmps.getD 147 undef = .int .i64 (smQ m d) := hA.val 11 147 (by kernel_rfl) (by kernel_rfl)
                refine opStep none 0 rfl (wanted_yes (j := 3) (d := 139) (b := true) rfl (by kernel_rfl) eg139) (fun c hc => by cases hc) ?_
                go_simp
                exact hK _ _ (by first | rfl | simp) (Below.refl _ _) trivial
              · -- 13
                intro li a1 W2 hA K hK
                have eg139 : a1.tmps.getD 139 undef = .bool true := hA.val 3 139 (by kernel_rfl) (by kernel_rfl)
                have e148 : a1.tmps.getD 148 undef = .bool false := hA.val 12 148 (by kernel_rfl) (by kernel_rfl)
                refine opStep none 0 rfl (wanted_yes (j := 3) (d := 139) (b := true) rfl (by kernel_rfl) eg139) (fun c hc => by cases hc) ?_
                go_simp
                exact hK _ _ rfl (Below.refl _ _) trivial
              · -- 14
                intro li a1 W2 hA K hK
                have eg149 : a1.tmps.getD 149 undef = .bool false := hA.val 13 149 (by kernel_rfl) (by kernel_rfl)
                have e15 := hA.par 15 (by kernel_rfl)
                refine opStep none 0 rfl (wanted_yes (j := 13) (d := 149) (b := false) rfl (by kernel_rfl) eg149) (fun c hc => by cases hc) ?_
                go_simp
                exact hK _ _ rfl (Below.refl _ _) trivial
              · -- 15
                intro li a1 W2 hA K hK
                have eg149 : a1.tmps.getD 149 undef = .bool false := hA.val 13 149 (by kernel_rfl) (by kernel_rfl)
                have e19 := hA.par 19 (by kernel_rfl)
                refine opStep none 0 rfl (wanted_yes (j := 13) (d := 149) (b := false) rfl (by kernel_rfl) eg149) (fun c hc => by cases hc) ?_
                go_simp
                exact hK _ _ rfl (Below.refl _ _) trivial
              · -- 16
                intro li a1 W2 hA K hK
                have eg149 : a1.tmps.getD 149 undef = .bool false := hA.val 13 149 (by kernel_rfl) (by kernel_rfl)
                have e150 : a1.tmps.getD 150 undef = .slice (some a7) N c7 := hA.val 14 150 (by kernel_rfl) (by kernel_rfl)
                have e151 : a1.tmps.getD 151 undef = .int .i64 (d : Int) := hA.val 15 151 (by kernel_rfl) (by kernel_rfl)
                refine opStep none 0 rfl (wanted_yes (j := 13) (d := 149) (b := false) rfl (by kernel_rfl) eg149) (fun c hc => by cases hc) ?_
                go_simp
                exact hK _ _ (by first | rfl | exact congrArg (fun q => Value.pointer (some q)) (add_blk _ _)) (Below.refl _ _) trivial
              · -- 17
                intro li a1 W2 hA K hK
                have eg149 : a1.tmps.getD 149 undef = .bool false := hA.val 13 149 (by kernel_rfl) (by kernel_rfl)
                have e152 : a1.tmps.getD 152 undef = .pointer (some (a7.add (d * 2))) := hA.val 16 152 (by kernel_rfl) (by kernel_rfl)
                have q1 := (hA.st.cell (World.block_lt_of_cell? _ _ HF.out.2.2.1.1)).trans HF.out.2.2.1.1
                have q2 := (hA.st.cell (World.block_lt_of_cell? _ _ HF.out.2.2.1.2)).trans HF.out.2.2.1.2
                refine opStep none 0 rfl (wanted_yes (j := 13) (d := 149) (b := false) rfl (by kernel_rfl) eg149) (fun c hc => by cases hc) ?_
                go_simp
                exact hK _ _ rfl (Below.refl _ _) trivial
              · -- 18
                intro li a1 W2 hA K hK
                have eg149 : a1.tmps.getD 149 undef = .bool false := hA.val 13 149 (by kernel_rfl) (by kernel_rfl)
                have e17 := hA.par 17 (by kernel_rfl)
                refine opStep none 0 rfl (wanted_yes (j := 13) (d := 149) (b := false) rfl (by kernel_rfl) eg149) (fun c hc => by cases hc) ?_
                go_simp
                exact hK _ _ rfl (Below.refl _ _) trivial
              · -- 19
                intro li a1 W2 hA K hK
                have eg149 : a1.tmps.getD 149 undef = .bool false := hA.val 13 149 (by kernel_rfl) (by kernel_rfl)
                have e19 := hA.par 19 (by kernel_rfl)
                refine opStep none 0 rfl (wanted_yes (j := 13) (d := 149) (b := false) rfl (by kernel_rfl) eg149) (fun c hc => by cases hc) ?_
                go_simp
                exact hK _ _ rfl (Below.refl _ _) trivial
              · -- 20
                intro li a1 W2 hA K hK
                have eg149 : a1.tmps.getD 149 undef = .bool false := hA.val 13 149 (by kernel_rfl) (by kernel_rfl)
                have e154 : a1.tmps.getD 154 undef = .slice (some a8) l c8 := hA.val 18 154 (by kernel_rfl) (by kernel_rfl)
                have e155 : a1.tmps.getD 155 undef = .int .i64 (d : Int) := hA.val 19 155 (by kernel_rfl) (by kernel_rfl)
                refine opStep none 0 rfl (wanted_yes (j := 13) (d := 149) (b := false) rfl (by kernel_rfl) eg149) (fun c hc => by cases hc) ?_
                go_simp
                exact hK _ _ (by first | rfl | exact congrArg (fun q => Value.pointer (some q)) (add_blk _ _)) (Below.refl _ _) trivial
              · -- 21
                intro li a1 W2 hA K hK
                have eg149 : a1.tmps.getD 149 undef = .bool false := hA.val 13 149 (by kernel_rfl) (by kernel_rfl)
                have e156 : a1.tmps.getD 156 undef = .pointer (some (a8.add (d * 2))) := hA.val 20 156 (by kernel_rfl) (by kernel_rfl)
                have q1 := (hA.st.cell (World.block_lt_of_cell? _ _ HF.out.2.2.2.1)).trans HF.out.2.2.2.1
                have q2 := (hA.st.cell (World.block_lt_of_cell? _ _ HF.out.2.2.2.2)).trans HF.out.2.2.2.2
                refine opStep none 0 rfl (wanted_yes (j := 13) (d := 149) (b := false) rfl (by kernel_rfl) eg149) (fun c hc => by cases hc) ?_
                go_simp
                exact hK _ _ rfl (Below.refl _ _) trivial
              · -- 22
                intro li a1 W2 hA K hK
                have eg149 : a1.tmps.getD 149 undef = .bool false := hA.val 13 149 (by kernel_rfl) (by kernel_rfl)
                have e153 : a1.tmps.getD 153 undef = .agg #[.int .i64 (bndOne m d).1, .int .i64 (bndOne m d).2] := hA.val 17 153 (by kernel_rfl) (by kernel_rfl)
                have e157 : a1.tmps.getD 157 undef = .agg #[.int .i64 (bndOne m d).1, .int .i64 (bndOne m d).2] := hA.val 21 157 (by kernel_rfl) (by kernel_rfl)
                refine opStep none 0 rfl (wanted_yes (j := 13) (d := 149) (b := false) rfl (by kernel_rfl) eg149) (fun c hc => by cases hc) ?_
                go_simp
                exact hK _ _ (by first | rfl | simp) (Below.refl _ _) trivial
              · -- 23
                intro li a1 W2 hA K hK
                have eg139 : a1.tmps.getD 139 undef = .bool true := hA.val 3 139 (by kernel_rfl) (by kernel_rfl)
                have e149 : a1.tmps.getD 149 undef = .bool false := hA.val 13 149 (by kernel_rfl) (by kernel_rfl)
                have e158 : a1.tmps.getD 158 undef = .bool false := hA.val 22 158 (by kernel_rfl) (by kernel_rfl)
                refine opStep none 0 rfl (wanted_yes (j := 3) (d := 139) (b := true) rfl (by kernel_rfl) eg139) (fun c hc => by cases hc) ?_
                go_simp
                exact hK _ _ rfl (Below.refl _ _) trivial
            · intro li a1 W2 hD
              have e139 : a1.tmps.getD 139 undef = .bool true := hD.val 3 139 (by kernel_rfl) (by kernel_rfl)
              have e159 : a1.tmps.getD 159 undef = .bool false := hD.val 23 159 (by kernel_rfl) (by kernel_rfl)
              have hkp2 := hD.keeps (ds := [136, 137, 138, 139, 140, 141, 142, 143, 144, 145, 146, 147, 148, 149, 150, 151, 152, 153, 154, 155, 156, 157, 158, 159, 160]) (by kernel_rfl)
              have hds := hD.size
              have hsz9 : a1.tmps.size = 216 := hD.size
              have hdd := hD.defers
              have hst := hD.st
              refine tail_val (i := 24) (v := .bool false) (W' := W2) none 0 rfl rfl rfl (fun c hc => by cases hc) (by go_simp) (by rw [hsz9]; decide) ?_
              intro a3 s3 d3 f3 o3
              have hkp3 := keeps_then hkp2 o3 (by decide)
              have e := act_mix [136, 137, 138, 139, 140, 141, 142, 143, 144, 145, 146, 147, 148, 149, 150, 151, 152, 153, 154, 155, 156, 157, 158, 159, 160] (s3.trans hds) (d3.trans hdd) (fun i _ hc => hkp3 i hc)
              have hg9 : (fun i => a3.tmps.getD i undef) 160 = .bool false := f3
              generalize (fun i => a3.tmps.getD i undef) = g' at e hg9
              refine wpListIn_nil ?_
              rw [e]
              clear e hD hkp2 hkp3 s3 d3 f3 o3 hds hdd hsz9 e139 e159
              simp only [mix, List.contains_cons, List.contains_nil, Nat.reduceAdd, Nat.reduceBEq, Bool.or_false, Bool.or_true, cond_true, cond_false, hg9]
              clear hg9
              have HNX := hid (HR.out.trans (hst.mono HR.out.size))
              clear hst HF HTR HBR HR
              go_wp2
              go_roundw
              case rel => exact ⟨d + 1, by omega, by go_num, HNX.out⟩
              case measure => first | (simp [intOf]; done) | (simp [intOf]; omega)
        · have hdI : decide ((d : Int) < (l : Int)) = false := by simp; omega
          have hlm : m.nw - 1 = (l : Int) := HL.out
          have hNl := HNL9.out
          have hkl := HKL.out
          have hkI : (k : Int) < (l : Int) := by omega
          have hkN : (k : Int) < (N : Int) := by omega
          have hlN : (l : Int) < (N : Int) := by omega
          have hn1 : m.nw.toNat = N := by rw [HN.out]; omega
          have hn2 : x.nw.toNat = l := by rw [HXN.out]; omega
          obtain ⟨a5, e5, g5, f5⟩ := (HZ1.out.at_ HR.out).1 k _ (smQ_get (by omega))
          obtain ⟨_, e5', _, f5'⟩ := (HZ1.out.at_ HR.out).1 l _ (smQ_get (by omega))
          obtain ⟨a6, e6, g6, f6⟩ := (HZ2.out.at_ HR.out).1 k _ (smQ_get (by omega))
          obtain ⟨a7, e7, g7, f7, h7⟩ := (HZ3.out.at_ HR.out).1 k (bndOne m k) (by unfold bndL; rw [List.getElem?_map, List.getElem?_range (by omega)]; rfl)
          obtain ⟨_, e7', _, f7', h7'⟩ := (HZ3.out.at_ HR.out).1 l (bndOne m l) (by unfold bndL; rw [List.getElem?_map, List.getElem?_range (by omega)]; rfl)
          obtain ⟨a8, e8, g8, f8, h8⟩ := (HZ4.out.at_ HR.out).1 k (bndOne x k) (by unfold bndL; rw [List.getElem?_map, List.getElem?_range (by omega)]; rfl)
          rw [e5] at e5'
          cases e5'
          rw [e7] at e7'
          cases e7'
          replace e5 : A5 = some a5 := e5
          replace e6 : A6 = some a6 := e6
          replace e7 : A7 = some a7 := e7
          replace e8 : A8 = some a8 := e8
          subst e5 e6 e7 e8
          have hq1 : smQ x k = smQ m k + smQ m l := by rw [← HXE.out]; exact mrg_k HCM.out H2.out hkl hlm.symm
          have hq2 : (bndOne m k).1 + (bndOne m l).1 ≤ (bndOne x k).1 ∧ (bndOne x k).2 ≤ (bndOne m k).2 + (bndOne m l).2 := by rw [← HXE.out]; exact mrg_bnd HCM.out hkl hlm.symm
          obtain ⟨b1, b2, b3, b4⟩ := bndOne_bounds OK.out k
          obtain ⟨b5, b6, b7, b8⟩ := bndOne_bounds OK.out l
          have b9 := smTo_bounds (M := 10000) (by omega) (car_bounds OK.out) _ _ (List.mem_of_getElem? (smQ_get (m := m) (q := k) (by omega)))
          have b10 := smTo_bounds (M := 10000) (by omega) (car_bounds OK.out) _ _ (List.mem_of_getElem? (smQ_get (m := m) (q := l) (by omega)))
          rw [car_len] at b9 b10
          rw [hq1] at f6
          have hw1 : IntKind.i64.wrap (smQ m k + smQ m l) = smQ m k + smQ m l := IntWalk.i64_in _ (by omega)
          have hw2 : IntKind.i64.wrap ((bndOne m k).1 + (bndOne m l).1) = (bndOne m k).1 + (bndOne m l).1 := IntWalk.i64_in _ (by omega)
          have hw3 : IntKind.i64.wrap ((bndOne m k).2 + (bndOne m l).2) = (bndOne m k).2 + (bndOne m l).2 := IntWalk.i64_in _ (by omega)
          have hge : decide ((bndOne m k).1 + (bndOne m l).1 ≤ (bndOne x k).1) = true := decide_eq_true hq2.1
          have hle : decide ((bndOne x k).2 ≤ (bndOne m k).2 + (bndOne m l).2) = true := decide_eq_true hq2.2
          have HF := hid (And.intro (And.intro f5 f5') (And.intro f6 (And.intro (And.intro (And.intro f7 h7) (And.intro f7' h7')) (And.intro f8 h8))))
          clear f5 f5' f6 f7 f8 h7 h8 f7' h7' g5 g6 g7 g8 hlm hn1 hn2 hNl hq1 hq2 b1 b2 b3 b4 b5 b6 b7 b8 b9 b10
          go_wp2
          refine (wpIn_wide (n := 0)).1 ?_
          refine wpIn_region_each 55 (fun i v W' => match i with | 0 => v = .slice (some a6) l c6 | 1 => v = .int .i64 (k : Int) | 2 => v = .pointer (some (a6.add k)) | 3 => v = .int .i64 (smQ m k + smQ m l) | 4 => v = .slice (some a5) N c5 | 5 => v = .int .i64 (k : Int) | 6 => v = .pointer (some (a5.add k)) | 7 => v = .int .i64 (smQ m k) | 8 => v = .slice (some a5) N c5 | 9 => v = .int .i64 (l : Int) | 10 => v = .pointer (some (a5.add l)) | 11 => v = .int .i64 (smQ m l) | 12 => v = .int .i64 (smQ m k + smQ m l) | 13 => v = .bool true | 14 => v = .bool true | 15 => v = .slice (some a8) l c8 | 16 => v = .int .i64 (k : Int) | 17 => v = .pointer (some (a8.add (k * 2))) | 18 => v = .pointer (some (a8.add (k * 2))) | 19 => v = .int .i64 (bndOne x k).1 | 20 => v = .slice (some a7) N c7 | 21 => v = .int .i64 (k : Int) | 22 => v = .pointer (some (a7.add (k * 2))) | 23 => v = .pointer (some (a7.add (k * 2))) | 24 => v = .int .i64 (bndOne m k).1 | 25 => v = .slice (some a7) N c7 | 26 => v = .int .i64 (l : Int) | 27 => v = .pointer (some (a7.add (l * 2))) | 28 => v = .pointer (some (a7.add (l * 2))) | 29 => v = .int .i64 (bndOne m l).1 | 30 => v = .int .i64 ((bndOne m k).1 + (bndOne m l).1) | 31 => v = .bool true | 32 => v = .bool true | 33 => v = .bool true | 34 => v = .slice (some a8) l c8 | 35 => v = .int .i64 (k : Int) | 36 => v = .pointer (some (a8.add (k * 2))) | 37 => v = .pointer (some ⟨(a8.add (k * 2)).block, (a8.add (k * 2)).off + 1, none⟩) | 38 => v = .int .i64 (bndOne x k).2 | 39 => v = .slice (some a7) N c7 | 40 => v = .int .i64 (k : Int) | 41 => v = .pointer (some (a7.add (k * 2))) | 42 => v = .pointer (some ⟨(a7.add (k * 2)).block, (a7.add (k * 2)).off + 1, none⟩) | 43 => v = .int .i64 (bndOne m k).2 | 44 => v = .slice (some a7) N c7 | 45 => v = .int .i64 (l : Int) | 46 => v = .pointer (some (a7.add (l * 2))) | 47 => v = .pointer (some ⟨(a7.add (l * 2)).block, (a7.add (l * 2)).off + 1, none⟩) | 48 => v = .int .i64 (bndOne m l).2 | 49 => v = .int .i64 ((bndOne m k).2 + (bndOne m l).2) | 50 => v = .bool true | 51 => v = .bool true | 52 => v = .bool true | 53 => v = .bool true | 54 => v = .bool true | _ => True) (fun A B => Below A.heap.size A B) (fun _ _ => True) (by kernel_rfl) (by kernel_rfl) ?_ (fun h k => h.trans (k.mono h.size)) ⟨rfl, rfl, rfl, Nat.le_refl _, fun _ _ => rfl⟩ trivial (by kernel_rfl) ?_ ?_
          · intro i v W1 W2 hb h
            match i, h with
            | 0, h => exact h
            | 1, h => exact h
            | 2, h => exact h
            | 3, h => exact h
            | 4, h => exact h
            | 5, h => exact h
            | 6, h => exact h
            | 7, h => exact h
            | 8, h => exact h
            | 9, h => exact h
            | 10, h => exact h
            | 11, h => exact h
            | 12, h => exact h
            | 13, h => exact h
            | 14, h => exact h
            | 15, h => exact h
            | 16, h => exact h
            | 17, h => exact h
            | 18, h => exact h
            | 19, h => exact h
            | 20, h => exact h
            | 21, h => exact h
            | 22, h => exact h
            | 23, h => exact h
            | 24, h => exact h
            | 25, h => exact h
            | 26, h => exact h
            | 27, h => exact h
            | 28, h => exact h
            | 29, h => exact h
            | 30, h => exact h
            | 31, h => exact h
            | 32, h => exact h
            | 33, h => exact h
            | 34, h => exact h
            | 35, h => exact h
            | 36, h => exact h
            | 37, h => exact h
            | 38, h => exact h
            | 39, h => exact h
            | 40, h => exact h
            | 41, h => exact h
            | 42, h => exact h
            | 43, h => exact h
            | 44, h => exact h
            | 45, h => exact h
            | 46, h => exact h
            | 47, h => exact h
            | 48, h => exact h
            | 49, h => exact h
            | 50, h => exact h
            | 51, h => exact h
            | 52, h => exact h
            | 53, h => exact h
            | 54, h => exact h
            | i + 55, h => trivial
          · refine ⟨?_, ?_, ?_, ?_, ?_, ?_, ?_, ?_, ?_, ?_, ?_, ?_, ?_, ?_, ?_, ?_, ?_, ?_, ?_, ?_, ?_, ?_, ?_, ?_, ?_, ?_, ?_, ?_, ?_, ?_, ?_, ?_, ?_, ?_, ?_, ?_, ?_, ?_, ?_, ?_, ?_, ?_, ?_, ?_, ?_, ?_, ?_, ?_, ?_, ?_, ?_, ?_, ?_, ?_, ?_, trivial⟩
            · -- 0
              intro li a1 W2 hA K hK
              have e13 := hA.par 13 (by kernel_rfl)
              refine opStep none 0 rfl rfl (fun c hc => by cases hc) ?_
              go_simp
              exact hK _ _ rfl (Below.refl _ _) trivial
            · -- 1
              intro li a1 W2 hA K hK
              have e6 := hA.par 6 (by kernel_rfl)
              refine opStep none 0 rfl rfl (fun c hc => by cases hc) ?_
              go_simp
              exact hK _ _ rfl (Below.refl _ _) trivial
            · -- 2
              intro li a1 W2 hA K hK
              have e161 : a1.tmps.getD 161 undef = .slice (some a6) l c6 := hA.val 0 161 (by kernel_rfl) (by kernel_rfl)
              have e162 : a1.tmps.getD 162 undef = .int .i64 (k : Int) := hA.val 1 162 (by kernel_rfl) (by kernel_rfl)
              refine opStep none 0 rfl rfl (fun c hc => by cases hc) ?_
              go_simp
              exact hK _ _ (by first | rfl | exact congrArg (fun q => Value.pointer (some q)) (add_blk _ _)) (Below.refl _ _) trivial
            · -- 3
              intro li a1 W2 hA K hK
              have e163 : a1.tmps.getD 163 undef = .pointer (some (a6.add k)) := hA.val 2 163 (by kernel_rfl) (by kernel_rfl)
              have q1 := (hA.st.cell (World.block_lt_of_cell? _ _ HF.out.2.1)).trans HF.out.2.1
              refine opStep none 0 rfl rfl (fun c hc => by cases hc) ?_
              go_simp
              exact hK _ _ rfl (Below.refl _ _) trivial
            · -- 4
              intro li a1 W2 hA K hK
              have e10 := hA.par 10 (by kernel_rfl)
              refine opStep none 0 rfl rfl (fun c hc => by cases hc) ?_
              go_simp
              exact hK _ _ rfl (Below.refl _ _) trivial
            · -- 5
              intro li a1 W2 hA K hK
              have e6 := hA.par 6 (by kernel_rfl)
              refine opStep none 0 rfl rfl (fun c hc => by cases hc) ?_
              go_simp
              exact hK _ _ rfl (Below.refl _ _) trivial
            · -- 6
              intro li a1 W2 hA K hK
              have e165 : a1.tmps.getD 165 undef = .slice (some a5) N c5 := hA.val 4 165 (by kernel_rfl) (by kernel_rfl)
              have e166 : a1.tmps.getD 166 undef = .int .i64 (k : Int) := hA.val 5 166 (by kernel_rfl) (by kernel_rfl)
              refine opStep none 0 rfl rfl (fun c hc => by cases hc) ?_
              go_simp
              exact hK _ _ (by first | rfl | exact congrArg (fun q => Value.pointer (some q)) (add_blk _ _)) (Below.refl _ _) trivial
            · -- 7
              intro li a1 W2 hA K hK
              have e167 : a1.tmps.getD 167 undef = .pointer (some (a5.add k)) := hA.val 6 167 (by kernel_rfl) (by kernel_rfl)
              have q1 := (hA.st.cell (World.block_lt_of_cell? _ _ HF.out.1.1)).trans HF.out.1.1
              refine opStep none 0 rfl rfl (fun c hc => by cases hc) ?_
              go_simp
              exact hK _ _ rfl (Below.refl _ _) trivial
            · -- 8
              intro li a1 W2 hA K hK
              have e10 := hA.par 10 (by kernel_rfl)
              refine opStep none 0 rfl rfl (fun c hc => by cases hc) ?_
              go_simp
              exact hK _ _ rfl (Below.refl _ _) trivial
            · -- 9
              intro li a1 W2 hA K hK
              have e5 := hA.par 5 (by kernel_rfl)
              refine opStep none 0 rfl rfl (fun c hc => by cases hc) ?_
              go_simp
              exact hK _ _ rfl (Below.refl _ _) trivial
            · -- 10
              intro li a1 W2 hA K hK
              have e169 : a1.tmps.getD 169 undef = .slice (some a5) N c5 := hA.val 8 169 (by kernel_rfl) (by kernel_rfl)
              have e170 : a1.tmps.getD 170 undef = .int .i64 (l : Int) := hA.val 9 170 (by kernel_rfl) (by kernel_rfl)
              refine opStep none 0 rfl rfl (fun c hc => by cases hc) ?_
              go_simp
              exact hK _ _ (by first | rfl | exact congrArg (fun q => Value.pointer (some q)) (add_blk _ _)) (Below.refl _ _) trivial
            · -- 11
              intro li a1 W2 hA K hK
              have e171 : a1.tmps.getD 171 undef = .pointer (some (a5.add l)) := hA.val 10 171 (by kernel_rfl) (by kernel_rfl)
              have q1 := (hA.st.cell (World.block_lt_of_cell? _ _ HF.out.1.2)).trans HF.out.1.2
              refine opStep none 0 rfl rfl (fun c hc => by cases hc) ?_
              go_simp
              exact hK _ _ rfl (Below.refl _ _) trivial
            · -- 12
              intro li a1 W2 hA K hK
              have e168 : a1.tmps.getD 168 undef = .int .i64 (smQ m k) := hA.val 7 168 (by kernel_rfl) (by kernel_rfl)
              have e172 : a1.tmps.getD 172 undef = .int .i64 (smQ m l) := hA.val 11 172 (by kernel_rfl) (by kernel_rfl)
              refine opStep none 0 rfl rfl (fun c hc => by cases hc) ?_
              go_simp
              exact hK _ _ (by first | rfl | exact congrArg (Value.int .i64) hw1 | (simp [hw1])) (Below.refl _ _) trivial
            · -- 13
              intro li a1 W2 hA K hK
              have e164 : a1.tmps.getD 164 undef = .int .i64 (smQ m k + smQ m l) := hA.val 3 164 (by kernel_rfl) (by kernel_rfl)
              have e173 : a1.tmps.getD 173 undef = .int .i64 (smQ m k + smQ m l) := hA.val 12 173 (by kernel_rfl) (by kernel_rfl)
              refine opStep none 0 rfl rfl (fun c hc => by cases hc) ?_
              go_simp
              exact hK _ _ (by first | rfl | simp) (Below.refl _ _) trivial
            · -- 14
              intro li a1 W2 hA K hK
              have e174 : a1.tmps.getD 174 undef = .bool true := hA.val 13 174 (by kernel_rfl) (by kernel_rfl)
              refine opStep none 0 rfl rfl (fun c hc => by cases hc) ?_
              go_simp
              exact hK _ _ rfl (Below.refl _ _) trivial
            · -- 15
              intro li a1 W2 hA K hK
              have eg175 : a1.tmps.getD 175 undef = .bool true := hA.val 14 175 (by kernel_rfl) (by kernel_rfl)
              have e17 := hA.par 17 (by kernel_rfl)
              refine opStep none 0 rfl (wanted_yes (j := 14) (d := 175) (b := true) rfl (by kernel_rfl) eg175) (fun c hc => by cases hc) ?_
              go_simp
              exact hK _ _ rfl (Below.refl _ _) trivial
            · -- 16
              intro li a1 W2 hA K hK
              have eg175 : a1.tmps.getD 175 undef = .bool true := hA.val 14 175 (by kernel_rfl) (by kernel_rfl)
              have e6 := hA.par 6 (by kernel_rfl)
              refine opStep none 0 rfl (wanted_yes (j := 14) (d := 175) (b := true) rfl (by kernel_rfl) eg175) (fun c hc => by cases hc) ?_
              go_simp
              exact hK _ _ rfl (Below.refl _ _) trivial
            · -- 17
              intro li a1 W2 hA K hK
              have eg175 : a1.tmps.getD 175 undef = .bool true := hA.val 14 175 (by kernel_rfl) (by kernel_rfl)
              have e176 : a1.tmps.getD 176 undef = .slice (some a8) l c8 := hA.val 15 176 (by kernel_rfl) (by kernel_rfl)
              have e177 : a1.tmps.getD 177 undef = .int .i64 (k : Int) := hA.val 16 177 (by kernel_rfl) (by kernel_rfl)
              refine opStep none 0 rfl (wanted_yes (j := 14) (d := 175) (b := true) rfl (by kernel_rfl) eg175) (fun c hc => by cases hc) ?_
              go_simp
              exact hK _ _ (by first | rfl | exact congrArg (fun q => Value.pointer (some q)) (add_blk _ _)) (Below.refl _ _) trivial
            · -- 18
              intro li a1 W2 hA K hK
              have eg175 : a1.tmps.getD 175 undef = .bool true := hA.val 14 175 (by kernel_rfl) (by kernel_rfl)
              have e178 : a1.tmps.getD 178 undef = .pointer (some (a8.add (k * 2))) := hA.val 17 178 (by kernel_rfl) (by kernel_rfl)
              refine opStep none 0 rfl (wanted_yes (j := 14) (d := 175) (b := true) rfl (by kernel_rfl) eg175) (fun c hc => by cases hc) ?_
              go_simp
              exact hK _ _ rfl (Below.refl _ _) trivial
            · -- 19
              intro li a1 W2 hA K hK
              have eg175 : a1.tmps.getD 175 undef = .bool true := hA.val 14 175 (by kernel_rfl) (by kernel_rfl)
              have e179 : a1.tmps.getD 179 undef = .pointer (some (a8.add (k * 2))) := hA.val 18 179 (by kernel_rfl) (by kernel_rfl)
              have q1 := (hA.st.cell (World.block_lt_of_cell? _ _ HF.out.2.2.2.1)).trans HF.out.2.2.2.1
              refine opStep none 0 rfl (wanted_yes (j := 14) (d := 175) (b := true) rfl (by kernel_rfl) eg175) (fun c hc => by cases hc) ?_
              go_simp
              exact hK _ _ rfl (Below.refl _ _) trivial
            · -- 20
              intro li a1 W2 hA K hK
              have eg175 : a1.tmps.getD 175 undef = .bool true := hA.val 14 175 (by kernel_rfl) (by kernel_rfl)
              have e15 := hA.par 15 (by kernel_rfl)
              refine opStep none 0 rfl (wanted_yes (j := 14) (d := 175) (b := true) rfl (by kernel_rfl) eg175) (fun c hc => by cases hc) ?_
              go_simp
              exact hK _ _ rfl (Below.refl _ _) trivial
            · -- 21
              intro li a1 W2 hA K hK
              have eg175 : a1.tmps.getD 175 undef = .bool true := hA.val 14 175 (by kernel_rfl) (by kernel_rfl)
              have e6 := hA.par 6 (by kernel_rfl)
              refine opStep none 0 rfl (wanted_yes (j := 14) (d := 175) (b := true) rfl (by kernel_rfl) eg175) (fun c hc => by cases hc) ?_
              go_simp
              exact hK _ _ rfl (Below.refl _ _) trivial
            · -- 22
              intro li a1 W2 hA K hK
              have eg175 : a1.tmps.getD 175 undef = .bool true := hA.val 14 175 (by kernel_rfl) (by kernel_rfl)
              have e181 : a1.tmps.getD 181 undef = .slice (some a7) N c7 := hA.val 20 181 (by kernel_rfl) (by kernel_rfl)
              have e182 : a1.tmps.getD 182 undef = .int .i64 (k : Int) := hA.val 21 182 (by kernel_rfl) (by kernel_rfl)
              refine opStep none 0 rfl (wanted_yes (j := 14) (d := 175) (b := true) rfl (by kernel_rfl) eg175) (fun c hc => by cases hc) ?_
              go_simp
              exact hK _ _ (by first | rfl | exact congrArg (fun q => Value.pointer (some q)) (add_blk _ _)) (Below.refl _ _) trivial
            · -- 23
              intro li a1 W2 hA K hK
              have eg175 : a1.tmps.getD 175 undef = .bool true := hA.val 14 175 (by kernel_rfl) (by kernel_rfl)
              have e183 : a1.tmps.getD 183 undef = .pointer (some (a7.add (k * 2))) := hA.val 22 183 (by kernel_rfl) (by kernel_rfl)
              refine opStep none 0 rfl (wanted_yes (j := 14) (d := 175) (b := true) rfl (by kernel_rfl) eg175) (fun c hc => by cases hc) ?_
              go_simp
              exact hK _ _ rfl (Below.refl _ _) trivial
            · -- 24
              intro li a1 W2 hA K hK
              have eg175 : a1.tmps.getD 175 undef = .bool true := hA.val 14 175 (by kernel_rfl) (by kernel_rfl)
              have e184 : a1.tmps.getD 184 undef = .pointer (some (a7.add (k * 2))) := hA.val 23 184 (by kernel_rfl) (by kernel_rfl)
              have q1 := (hA.st.cell (World.block_lt_of_cell? _ _ HF.out.2.2.1.1.1)).trans HF.out.2.2.1.1.1
              refine opStep none 0 rfl (wanted_yes (j := 14) (d := 175) (b := true) rfl (by kernel_rfl) eg175) (fun c hc => by cases hc) ?_
              go_simp
              exact hK _ _ rfl (Below.refl _ _) trivial
            · -- 25
              intro li a1 W2 hA K hK
              have eg175 : a1.tmps.getD 175 undef = .bool true := hA.val 14 175 (by kernel_rfl) (by kernel_rfl)
              have e15 := hA.par 15 (by kernel_rfl)
              refine opStep none 0 rfl (wanted_yes (j := 14) (d := 175) (b := true) rfl (by kernel_rfl) eg175) (fun c hc => by cases hc) ?_
              go_simp
              exact hK _ _ rfl (Below.refl _ _) trivial
            · -- 26
              intro li a1 W2 hA K hK
              have eg175 : a1.tmps.getD 175 undef = .bool true := hA.val 14 175 (by kernel_rfl) (by kernel_rfl)
              have e5 := hA.par 5 (by kernel_rfl)
              refine opStep none 0 rfl (wanted_yes (j := 14) (d := 175) (b := true) rfl (by kernel_rfl) eg175) (fun c hc => by cases hc) ?_
              go_simp
              exact hK _ _ rfl (Below.refl _ _) trivial
            · -- 27
              intro li a1 W2 hA K hK
              have eg175 : a1.tmps.getD 175 undef = .bool true := hA.val 14 175 (by kernel_rfl) (by kernel_rfl)
              have e186 : a1.tmps.getD 186 undef = .slice (some a7) N c7 := hA.val 25 186 (by kernel_rfl) (by kernel_rfl)
              have e187 : a1.tmps.getD 187 undef = .int .i64 (l : Int) := hA.val 26 187 (by kernel_rfl) (by kernel_rfl)
              refine opStep none 0 rfl (wanted_yes (j := 14) (d := 175) (b := true) rfl (by kernel_rfl) eg175) (fun c hc => by cases hc) ?_
              go_simp
              exact hK _ _ (by first | rfl | exact congrArg (fun q => Value.pointer (some q)) (add_blk _ _)) (Below.refl _ _) trivial
            · -- 28
              intro li a1 W2 hA K hK
              have eg175 : a1.tmps.getD 175 undef = .bool true := hA.val 14 175 (by kernel_rfl) (by kernel_rfl)
              have e188 : a1.tmps.getD 188 undef = .pointer (some (a7.add (l * 2))) := hA.val 27 188 (by kernel_rfl) (by kernel_rfl)
              refine opStep none 0 rfl (wanted_yes (j := 14) (d := 175) (b := true) rfl (by kernel_rfl) eg175) (fun c hc => by cases hc) ?_
              go_simp
              exact hK _ _ rfl (Below.refl _ _) trivial
            · -- 29
              intro li a1 W2 hA K hK
              have eg175 : a1.tmps.getD 175 undef = .bool true := hA.val 14 175 (by kernel_rfl) (by kernel_rfl)
              have e189 : a1.tmps.getD 189 undef = .pointer (some (a7.add (l * 2))) := hA.val 28 189 (by kernel_rfl) (by kernel_rfl)
              have q1 := (hA.st.cell (World.block_lt_of_cell? _ _ HF.out.2.2.1.2.1)).trans HF.out.2.2.1.2.1
              refine opStep none 0 rfl (wanted_yes (j := 14) (d := 175) (b := true) rfl (by kernel_rfl) eg175) (fun c hc => by cases hc) ?_
              go_simp
              exact hK _ _ rfl (Below.refl _ _) trivial
            · -- 30
              intro li a1 W2 hA K hK
              have eg175 : a1.tmps.getD 175 undef = .bool true := hA.val 14 175 (by kernel_rfl) (by kernel_rfl)
              have e185 : a1.tmps.getD 185 undef = .int .i64 (bndOne m k).1 := hA.val 24 185 (by kernel_rfl) (by kernel_rfl)
              have e190 : a1.tmps.getD 190 undef = .int .i64 (bndOne m l).1 := hA.val 29 190 (by kernel_rfl) (by kernel_rfl)
              refine opStep none 0 rfl (wanted_yes (j := 14) (d := 175) (b := true) rfl (by kernel_rfl) eg175) (fun c hc => by cases hc) ?_
              go_simp
              exact hK _ _ (by first | rfl | exact congrArg (Value.int .i64) hw2 | (simp [hw2])) (Below.refl _ _) trivial
            · -- 31
              intro li a1 W2 hA K hK
              have eg175 : a1.tmps.getD 175 undef = .bool true := hA.val 14 175 (by kernel_rfl) (by kernel_rfl)
              have e180 : a1.tmps.getD 180 undef = .int .i64 (bndOne x k).1 := hA.val 19 180 (by kernel_rfl) (by kernel_rfl)
              have e191 : a1.tmps.getD 191 undef = .int .i64 ((bndOne m k).1 + (bndOne m l).1) := hA.val 30 191 (by kernel_rfl) (by kernel_rfl)
              refine opStep none 0 rfl (wanted_yes (j := 14) (d := 175) (b := true) rfl (by kernel_rfl) eg175) (fun c hc => by cases hc) ?_
              go_simp
              exact hK _ _ (by first | rfl | exact congrArg Value.bool hge | simp [hge]) (Below.refl _ _) trivial
            · -- 32
              intro li a1 W2 hA K hK
              have e175 : a1.tmps.getD 175 undef = .bool true := hA.val 14 175 (by kernel_rfl) (by kernel_rfl)
              have e192 : a1.tmps.getD 192 undef = .bool true := hA.val 31 192 (by kernel_rfl) (by kernel_rfl)
              refine opStep none 0 rfl rfl (fun c hc => by cases hc) ?_
              go_simp
              exact hK _ _ rfl (Below.refl _ _) trivial
            · -- 33
              intro li a1 W2 hA K hK
              have e193 : a1.tmps.getD 193 undef = .bool true := hA.val 32 193 (by kernel_rfl) (by kernel_rfl)
              refine opStep none 0 rfl rfl (fun c hc => by cases hc) ?_
              go_simp
              exact hK _ _ rfl (Below.refl _ _) trivial
            · -- 34
              intro li a1 W2 hA K hK
              have eg194 : a1.tmps.getD 194 undef = .bool true := hA.val 33 194 (by kernel_rfl) (by kernel_rfl)
              have e17 := hA.par 17 (by kernel_rfl)
              refine opStep none 0 rfl (wanted_yes (j := 33) (d := 194) (b := true) rfl (by kernel_rfl) eg194) (fun c hc => by cases hc) ?_
              go_simp
              exact hK _ _ rfl (Below.refl _ _) trivial
            · -- 35
              intro li a1 W2 hA K hK
              have eg194 : a1.tmps.getD 194 undef = .bool true := hA.val 33 194 (by kernel_rfl) (by kernel_rfl)
              have e6 := hA.par 6 (by kernel_rfl)
              refine opStep none 0 rfl (wanted_yes (j := 33) (d := 194) (b := true) rfl (by kernel_rfl) eg194) (fun c hc => by cases hc) ?_
              go_simp
              exact hK _ _ rfl (Below.refl _ _) trivial
            · -- 36
              intro li a1 W2 hA K hK
              have eg194 : a1.tmps.getD 194 undef = .bool true := hA.val 33 194 (by kernel_rfl) (by kernel_rfl)
              have e195 : a1.tmps.getD 195 undef = .slice (some a8) l c8 := hA.val 34 195 (by kernel_rfl) (by kernel_rfl)
              have e196 : a1.tmps.getD 196 undef = .int .i64 (k : Int) := hA.val 35 196 (by kernel_rfl) (by kernel_rfl)
              refine opStep none 0 rfl (wanted_yes (j := 33) (d := 194) (b := true) rfl (by kernel_rfl) eg194) (fun c hc => by cases hc) ?_
              go_simp
              exact hK _ _ (by first | rfl | exact congrArg (fun q => Value.pointer (some q)) (add_blk _ _)) (Below.refl _ _) trivial
            · -- 37
              intro li a1 W2 hA K hK
              have eg194 : a1.tmps.getD 194 undef = .bool true := hA.val 33 194 (by kernel_rfl) (by kernel_rfl)
              have e197 : a1.tmps.getD 197 undef = .pointer (some (a8.add (k * 2))) := hA.val 36 197 (by kernel_rfl) (by kernel_rfl)
              refine opStep none 0 rfl (wanted_yes (j := 33) (d := 194) (b := true) rfl (by kernel_rfl) eg194) (fun c hc => by cases hc) ?_
              go_simp
              exact hK _ _ rfl (Below.refl _ _) trivial
            · -- 38
              intro li a1 W2 hA K hK
              have eg194 : a1.tmps.getD 194 undef = .bool true := hA.val 33 194 (by kernel_rfl) (by kernel_rfl)
              have e198 : a1.tmps.getD 198 undef = .pointer (some ⟨(a8.add (k * 2)).block, (a8.add (k * 2)).off + 1, none⟩) := hA.val 37 198 (by kernel_rfl) (by kernel_rfl)
              have q1 := (hA.st.cell (World.block_lt_of_cell? _ _ HF.out.2.2.2.2)).trans HF.out.2.2.2.2
              refine opStep none 0 rfl (wanted_yes (j := 33) (d := 194) (b := true) rfl (by kernel_rfl) eg194) (fun c hc => by cases hc) ?_
              go_simp
              exact hK _ _ rfl (Below.refl _ _) trivial
            · -- 39
              intro li a1 W2 hA K hK
              have eg194 : a1.tmps.getD 194 undef = .bool true := hA.val 33 194 (by kernel_rfl) (by kernel_rfl)
              have e15 := hA.par 15 (by kernel_rfl)
              refine opStep none 0 rfl (wanted_yes (j := 33) (d := 194) (b := true) rfl (by kernel_rfl) eg194) (fun c hc => by cases hc) ?_
              go_simp
              exact hK _ _ rfl (Below.refl _ _) trivial
            · -- 40
              intro li a1 W2 hA K hK
              have eg194 : a1.tmps.getD 194 undef = .bool true := hA.val 33 194 (by kernel_rfl) (by kernel_rfl)
              have e6 := hA.par 6 (by kernel_rfl)
              refine opStep none 0 rfl (wanted_yes (j := 33) (d := 194) (b := true) rfl (by kernel_rfl) eg194) (fun c hc => by cases hc) ?_
              go_simp
              exact hK _ _ rfl (Below.refl _ _) trivial
            · -- 41
              intro li a1 W2 hA K hK
              have eg194 : a1.tmps.getD 194 undef = .bool true := hA.val 33 194 (by kernel_rfl) (by kernel_rfl)
              have e200 : a1.tmps.getD 200 undef = .slice (some a7) N c7 := hA.val 39 200 (by kernel_rfl) (by kernel_rfl)
              have e201 : a1.tmps.getD 201 undef = .int .i64 (k : Int) := hA.val 40 201 (by kernel_rfl) (by kernel_rfl)
              refine opStep none 0 rfl (wanted_yes (j := 33) (d := 194) (b := true) rfl (by kernel_rfl) eg194) (fun c hc => by cases hc) ?_
              go_simp
              exact hK _ _ (by first | rfl | exact congrArg (fun q => Value.pointer (some q)) (add_blk _ _)) (Below.refl _ _) trivial
            · -- 42
              intro li a1 W2 hA K hK
              have eg194 : a1.tmps.getD 194 undef = .bool true := hA.val 33 194 (by kernel_rfl) (by kernel_rfl)
              have e202 : a1.tmps.getD 202 undef = .pointer (some (a7.add (k * 2))) := hA.val 41 202 (by kernel_rfl) (by kernel_rfl)
              refine opStep none 0 rfl (wanted_yes (j := 33) (d := 194) (b := true) rfl (by kernel_rfl) eg194) (fun c hc => by cases hc) ?_
              go_simp
              exact hK _ _ rfl (Below.refl _ _) trivial
            · -- 43
              intro li a1 W2 hA K hK
              have eg194 : a1.tmps.getD 194 undef = .bool true := hA.val 33 194 (by kernel_rfl) (by kernel_rfl)
              have e203 : a1.tmps.getD 203 undef = .pointer (some ⟨(a7.add (k * 2)).block, (a7.add (k * 2)).off + 1, none⟩) := hA.val 42 203 (by kernel_rfl) (by kernel_rfl)
              have q1 := (hA.st.cell (World.block_lt_of_cell? _ _ HF.out.2.2.1.1.2)).trans HF.out.2.2.1.1.2
              refine opStep none 0 rfl (wanted_yes (j := 33) (d := 194) (b := true) rfl (by kernel_rfl) eg194) (fun c hc => by cases hc) ?_
              go_simp
              exact hK _ _ rfl (Below.refl _ _) trivial
            · -- 44
              intro li a1 W2 hA K hK
              have eg194 : a1.tmps.getD 194 undef = .bool true := hA.val 33 194 (by kernel_rfl) (by kernel_rfl)
              have e15 := hA.par 15 (by kernel_rfl)
              refine opStep none 0 rfl (wanted_yes (j := 33) (d := 194) (b := true) rfl (by kernel_rfl) eg194) (fun c hc => by cases hc) ?_
              go_simp
              exact hK _ _ rfl (Below.refl _ _) trivial
            · -- 45
              intro li a1 W2 hA K hK
              have eg194 : a1.tmps.getD 194 undef = .bool true := hA.val 33 194 (by kernel_rfl) (by kernel_rfl)
              have e5 := hA.par 5 (by kernel_rfl)
              refine opStep none 0 rfl (wanted_yes (j := 33) (d := 194) (b := true) rfl (by kernel_rfl) eg194) (fun c hc => by cases hc) ?_
              go_simp
              exact hK _ _ rfl (Below.refl _ _) trivial
            · -- 46
              intro li a1 W2 hA K hK
              have eg194 : a1.tmps.getD 194 undef = .bool true := hA.val 33 194 (by kernel_rfl) (by kernel_rfl)
              have e205 : a1.tmps.getD 205 undef = .slice (some a7) N c7 := hA.val 44 205 (by kernel_rfl) (by kernel_rfl)
              have e206 : a1.tmps.getD 206 undef = .int .i64 (l : Int) := hA.val 45 206 (by kernel_rfl) (by kernel_rfl)
              refine opStep none 0 rfl (wanted_yes (j := 33) (d := 194) (b := true) rfl (by kernel_rfl) eg194) (fun c hc => by cases hc) ?_
              go_simp
              exact hK _ _ (by first | rfl | exact congrArg (fun q => Value.pointer (some q)) (add_blk _ _)) (Below.refl _ _) trivial
            · -- 47
              intro li a1 W2 hA K hK
              have eg194 : a1.tmps.getD 194 undef = .bool true := hA.val 33 194 (by kernel_rfl) (by kernel_rfl)
              have e207 : a1.tmps.getD 207 undef = .pointer (some (a7.add (l * 2))) := hA.val 46 207 (by kernel_rfl) (by kernel_rfl)
              refine opStep none 0 rfl (wanted_yes (j := 33) (d := 194) (b := true) rfl (by kernel_rfl) eg194) (fun c hc => by cases hc) ?_
              go_simp
              exact hK _ _ rfl (Below.refl _ _) trivial
            · -- 48
              intro li a1 W2 hA K hK
              have eg194 : a1.tmps.getD 194 undef = .bool true := hA.val 33 194 (by kernel_rfl) (by kernel_rfl)
              have e208 : a1.tmps.getD 208 undef = .pointer (some ⟨(a7.add (l * 2)).block, (a7.add (l * 2)).off + 1, none⟩) := hA.val 47 208 (by kernel_rfl) (by kernel_rfl)
              have q1 := (hA.st.cell (World.block_lt_of_cell? _ _ HF.out.2.2.1.2.2)).trans HF.out.2.2.1.2.2
              refine opStep none 0 rfl (wanted_yes (j := 33) (d := 194) (b := true) rfl (by kernel_rfl) eg194) (fun c hc => by cases hc) ?_
              go_simp
              exact hK _ _ rfl (Below.refl _ _) trivial
            · -- 49
              intro li a1 W2 hA K hK
              have eg194 : a1.tmps.getD 194 undef = .bool true := hA.val 33 194 (by kernel_rfl) (by kernel_rfl)
              have e204 : a1.tmps.getD 204 undef = .int .i64 (bndOne m k).2 := hA.val 43 204 (by kernel_rfl) (by kernel_rfl)
              have e209 : a1.tmps.getD 209 undef = .int .i64 (bndOne m l).2 := hA.val 48 209 (by kernel_rfl) (by kernel_rfl)
              refine opStep none 0 rfl (wanted_yes (j := 33) (d := 194) (b := true) rfl (by kernel_rfl) eg194) (fun c hc => by cases hc) ?_
              go_simp
              exact hK _ _ (by first | rfl | exact congrArg (Value.int .i64) hw3 | (simp [hw3])) (Below.refl _ _) trivial
            · -- 50
              intro li a1 W2 hA K hK
              have eg194 : a1.tmps.getD 194 undef = .bool true := hA.val 33 194 (by kernel_rfl) (by kernel_rfl)
              have e199 : a1.tmps.getD 199 undef = .int .i64 (bndOne x k).2 := hA.val 38 199 (by kernel_rfl) (by kernel_rfl)
              have e210 : a1.tmps.getD 210 undef = .int .i64 ((bndOne m k).2 + (bndOne m l).2) := hA.val 49 210 (by kernel_rfl) (by kernel_rfl)
              refine opStep none 0 rfl (wanted_yes (j := 33) (d := 194) (b := true) rfl (by kernel_rfl) eg194) (fun c hc => by cases hc) ?_
              go_simp
              exact hK _ _ (by first | rfl | exact congrArg Value.bool hle | simp [hle]) (Below.refl _ _) trivial
            · -- 51
              intro li a1 W2 hA K hK
              have e194 : a1.tmps.getD 194 undef = .bool true := hA.val 33 194 (by kernel_rfl) (by kernel_rfl)
              have e211 : a1.tmps.getD 211 undef = .bool true := hA.val 50 211 (by kernel_rfl) (by kernel_rfl)
              refine opStep none 0 rfl rfl (fun c hc => by cases hc) ?_
              go_simp
              exact hK _ _ rfl (Below.refl _ _) trivial
            · -- 52
              intro li a1 W2 hA K hK
              have e212 : a1.tmps.getD 212 undef = .bool true := hA.val 51 212 (by kernel_rfl) (by kernel_rfl)
              refine opStep none 0 rfl rfl (fun c hc => by cases hc) ?_
              go_simp
              exact hK _ _ rfl (Below.refl _ _) trivial
            · -- 53
              intro li a1 W2 hA K hK
              have eg213 : a1.tmps.getD 213 undef = .bool true := hA.val 52 213 (by kernel_rfl) (by kernel_rfl)
              refine opStep none 0 rfl (wanted_yes (j := 52) (d := 213) (b := true) rfl (by kernel_rfl) eg213) (fun c hc => by cases hc) ?_
              go_simp
              refine (awake_any W2).mono ?_
              rintro e W3 ⟨rfl, hb3⟩
              exact hK _ _ rfl hb3 trivial
            · -- 54
              intro li a1 W2 hA K hK
              have e213 : a1.tmps.getD 213 undef = .bool true := hA.val 52 213 (by kernel_rfl) (by kernel_rfl)
              have e214 : a1.tmps.getD 214 undef = .bool true := hA.val 53 214 (by kernel_rfl) (by kernel_rfl)
              refine opStep none 0 rfl rfl (fun c hc => by cases hc) ?_
              go_simp
              exact hK _ _ rfl (Below.refl _ _) trivial
          · intro li a1 W2 hD
            have e215 : a1.tmps.getD 215 undef = .bool true := hD.val 54 215 (by kernel_rfl) (by kernel_rfl)
            have hsz : a1.tmps.size = 216 := hD.size
            have hdd : a1.defers = [] := hD.defers
            have hst := hD.st
            refine tail_val (i := 55) (v := .bool true) (W' := W2) none 0 rfl rfl rfl (fun c hc => by cases hc) (by go_simp) (by rw [hsz]; decide) ?_
            intro a2 s2 d2 f2 o2
            refine wpListIn_nil ?_
            have e := act_eq (s2.trans hsz) (d2.trans hdd)
            have g0 : (fun i => a2.tmps.getD i undef) 4 = .bool true := f2
            generalize (fun i => a2.tmps.getD i undef) = g at e g0
            rw [e]
            have HF := hid (HBR.out.trans (hst.mono HBR.out.size))
            clear e hD e215 hsz hdd hst s2 d2 f2 o2
            simp only [List.range, List.range.loop, List.map_cons, List.map_nil, g0]
            go_wp2
            go_ret
            exact ⟨rfl, HF.out⟩

theorem merged_any9 (m : MapD) (A : Option Addr) (c : Nat) (A2 : Option Addr) (c2 : Nat) (A3 : Option Addr) (c3 : Nat) (q : Int) (w : World) (h : MArg m A c A2 c2 A3 c3 w) (hq0 : 0 ≤ q) (hq1 : q ≤ 255) :
    Calls Try.prog 5 #[.agg #[.slice A m.old.length c, .int .i64 m.nw, .slice A2 m.ss.length c2, .slice A3 m.js.length c3], .int .u8 q] w fun e w' => e = .returned (.bool true) ∧ Below w.heap.size w w' := by
  cases hr : readyM m
  · exact merged_not m A c A2 c2 A3 c3 q w h hr
  · by_cases h2 : 2 ≤ m.nw
    · exact merged_good m A c A2 c2 A3 c3 q w h hr h2 hq0 hq1
    · exact merged_one m A c A2 c2 A3 c3 q w h hr (by omega)

open Go.ChangeShapes Go.WideShapes Go.ChangeAt in
set_option maxRecDepth 100000 in
theorem merged_lifted (os : Os) (started : os.Started) (H : Type) (enc : TypeId × Value → H) :
    ReturnsInHanded {} Try.checked os 5 .any (Rows.borderMergedSpec.pre6 enc Try.prog Try.f5 Rows.borderMergedRow.domain false) (Rows.borderMergedSpec.post enc Try.prog Try.f5 false true false false) := by
  refine returnsInHanded_of_change (C := Try.checked) own started (by kernel_rfl) Try.func5
    (ChangeSpec.witness6 (enc := enc) (C := Try.checked) false ⟨#[], #[.agg #[.slice none 0 0, .int .i64 0, .slice none 0 0, .slice none 0 0], .int .u8 0], []⟩ 8 (by kernel_rfl) (by kernel_rfl) (by kernel_rfl) (by kernel_rfl)) ?_
  intro W base args ds gs before hval0 hW hcnd _
  have hval : ∀ (j : Nat) t v, Try.f5.params[j]? = some t → args[j]? = some v → Value.okWide Try.prog W .any base t v := hval0
  have hW' := hW
  obtain ⟨p, q, hA0, hV, rfl, hfz, hnd⟩ := hW
  have hA : DataW.TrodAll enc Try.prog W 0 (fun _ => true) true Try.f5.params.toList args.toList ds p := hA0
  rw [Try.params5] at hA hval
  obtain ⟨v0, vs0, d0, ds0, p0, q0, hargs, rfl, rfl, h0, r0⟩ := trodAll_cons hA
  obtain ⟨v1, vs1, d1, ds1, p1, q1, rfl, rfl, rfl, h1, r1⟩ := trodAll_cons r0
  obtain ⟨rfl, rfl, rfl⟩ := trodAll_nil r1
  obtain rfl : args = #[v0, v1] := by cases args; simp_all
  obtain ⟨rfl, rfl⟩ := trodVars_none hV
  obtain ⟨m, A, c, A2, c2, A3, c3, rfl, ht⟩ := open_map (hval 0 26 v0 rfl rfl) h0
  obtain ⟨q, rfl, rfl, rfl, w1⟩ := open_int Try.underlying5 (hval 1 5 v1 rfl rfl) h1
  have hq : 0 ≤ q ∧ q ≤ 255 := by
    have h : decide (IntKind.u8.min ≤ q) = true ∧ decide (q ≤ IntKind.u8.max) = true := by simpa [Lit.wf] using w1
    have h2 := of_decide_eq_true h.1
    have h3 := of_decide_eq_true h.2
    have e1 : IntKind.u8.min = 0 := by decide
    have e2 : IntKind.u8.max = 255 := by decide
    omega
  refine (merged_any9 m A c A2 c2 A3 c3 q W ht hq.1 hq.2).mono fun e W' ⟨he, hb⟩ => ⟨_, he, ?_⟩
  exact law_post laid_out rfl rfl (by kernel_rfl) hW' rfl hb

theorem merged_over : Rows.borderMergedRow.holds Try.pinned (OpenSpec.ofChange Rows.borderMergedSpec) :=
  OpenClaim.holds_of_wide 5 Try.f5 rfl rfl rfl rfl rfl rfl rfl ⟨rfl, rfl, rfl, rfl, rfl⟩ rfl rfl rfl rfl rfl (by kernel_rfl) Try.func5 (by kernel_rfl)
    (of_decide_eq_true (by kernel_rfl)) (by unfold Func.isWrapper; first | (rw [if_pos (by decide +kernel)]; kernel_rfl) | (rw [if_neg (by decide +kernel)]; exact ⟨rfl, rfl⟩))
    (fun os started H enc _ => merged_lifted os started H enc)
/-- the statement -/
theorem border_merged : Rows.BorderMergedSaid := merged_over
#print axioms border_merged
end Go.Proofs.Ytoeabajigfdkaaa
