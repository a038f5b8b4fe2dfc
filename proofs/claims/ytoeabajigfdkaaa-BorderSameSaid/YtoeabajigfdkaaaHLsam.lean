/- For every map that is ready, if each new district has just the streets of the old district with its index, all carried counts and all sizes are the old counts: the statement BorderSame. No condition. -/
import Derived.Deep.Cut
import Derived.StillTailTactics
import Derived.Test.YtoeabajigfdkaaaG1
import Derived.Test.YtoeabajigfdkaaaG3
import Derived.Test.YtoeabajigfdkaaaG13
import Derived.Test.YtoeabajigfdkaaaG15
namespace Go.Proofs.Ytoeabajigfdkaaa
open Go.RowKit Go.Shelf

set_option maxRecDepth 100000 in
set_option maxHeartbeats 4000000 in
theorem same_not (m : MapD) (A : Option Addr) (c : Nat) (A2 : Option Addr) (c2 : Nat) (A3 : Option Addr) (c3 : Nat) (w : World) (h : MArg m A c A2 c2 A3 c3 w) (hr : readyM m = false) :
    Calls Try.prog 4 #[.agg #[.slice A m.old.length c, .int .i64 m.nw, .slice A2 m.ss.length c2, .slice A3 m.js.length c3]] w fun e w' => e = .returned (.bool true) ∧ Below w.heap.size w w' := by
  have hB := below_box (w := w) #[.slice A m.old.length c, .int .i64 m.nw, .slice A2 m.ss.length c2, .slice A3 m.js.length c3] 26
  have hT := Blk.new w 26 #[.slice A m.old.length c, .int .i64 m.nw, .slice A2 m.ss.length c2, .slice A3 m.js.length c3]
  have HB0 := hid hB
  have HT0 := hid hT
  have HH := hid h
  obtain ⟨t0, t1, t2, t3⟩ := hT.c4
  clear h hB hT
  have HRD := hid hr
  clear hr
  go_enter Try.func4, Try.ntmps4
  have K1 := hid (mready_any m A c A2 c2 A3 c3 (w.alloc (.cells #[.slice A m.old.length c, .int .i64 m.nw, .slice A2 m.ss.length c2, .slice A3 m.js.length c3] 26)) (HH.out.at_ HB0.out).toMIn)
  rw [HRD.out] at K1
  go_wp2_with fail
  refine K1.out.mono ?_
  rintro e w1 ⟨rfl, hb⟩
  have HB1 := hid (HB0.out.trans (hb.mono HB0.out.size))
  have HT1 := hid (HT0.out.keep hb)
  clear hb K1 t0 t1 t2 t3
  obtain ⟨t0, t1, t2, t3⟩ := HT1.out.c4
  have K2 := hid (awake_any w1)
  go_wp2_with fail
  refine K2.out.mono ?_
  rintro e w2 ⟨rfl, hb⟩
  have HB2 := hid (HB1.out.trans (hb.mono HB1.out.size))
  have HT2 := hid (HT1.out.keep hb)
  clear hb K2 t0 t1 t2 t3
  obtain ⟨t0, t1, t2, t3⟩ := HT2.out.c4
  clear t0 t1 t2 t3
  go_wp2
  go_ret
  exact ⟨rfl, HB2.out⟩

set_option maxRecDepth 100000 in
set_option maxHeartbeats 4000000 in
theorem same_good (m : MapD) (A : Option Addr) (c : Nat) (A2 : Option Addr) (c2 : Nat) (A3 : Option Addr) (c3 : Nat) (w : World) (h : MArg m A c A2 c2 A3 c3 w) (hr : readyM m = true) :
    Calls Try.prog 4 #[.agg #[.slice A m.old.length c, .int .i64 m.nw, .slice A2 m.ss.length c2, .slice A3 m.js.length c3]] w fun e w' => e = .returned (.bool true) ∧ Below w.heap.size w w' := by
  have hB := below_box (w := w) #[.slice A m.old.length c, .int .i64 m.nw, .slice A2 m.ss.length c2, .slice A3 m.js.length c3] 26
  have hT := Blk.new w 26 #[.slice A m.old.length c, .int .i64 m.nw, .slice A2 m.ss.length c2, .slice A3 m.js.length c3]
  have HB0 := hid hB
  have HT0 := hid hT
  have HH := hid h
  obtain ⟨t0, t1, t2, t3⟩ := hT.c4
  clear h hB hT
  have HRD := hid hr
  have HCM := hid (ready_iff.1 hr).2
  have HTH := hid (ready_iff.1 hr).1
  have OK := hid (chk_okm (cst_ok (ready_iff.1 hr).2).1)
  have hs8 := OK.out.s8
  have hs1 := OK.out.s1
  have hd4 := OK.out.d4
  clear hr
  go_enter Try.func4, Try.ntmps4
  have K1 := hid (mready_any m A c A2 c2 A3 c3 (w.alloc (.cells #[.slice A m.old.length c, .int .i64 m.nw, .slice A2 m.ss.length c2, .slice A3 m.js.length c3] 26)) (HH.out.at_ HB0.out).toMIn)
  rw [HRD.out] at K1
  go_wp2_with fail
  refine K1.out.mono ?_
  rintro e w1 ⟨rfl, hb⟩
  have HB1 := hid (HB0.out.trans (hb.mono HB0.out.size))
  have HT1 := hid (HT0.out.keep hb)
  clear hb K1 t0 t1 t2 t3
  obtain ⟨t0, t1, t2, t3⟩ := HT1.out.c4
  have HNE := hid (show w.heap.size ≠ w1.heap.size by have := HT1.out.lt; omega)
  go_upto_region 4 with (fail)
  refine gen (p := Code.wp _ _ _ _) (fun W => Below w1.heap.size w1 W ∧ Blk W w1.heap.size 26 #[.slice A m.old.length c, .int .i64 m.nw, .slice A2 m.ss.length c2, .slice A3 m.js.length c3]) ⟨below_box _ _, Blk.new _ _ _⟩ ?_
  rintro w2 ⟨hb, hx⟩
  have HB2 := hid (HB1.out.trans (hb.mono HB1.out.size))
  have HT2 := hid (HT1.out.keep hb)
  have hXW := HB1.out.size
  have HXX := hid hx
  clear hb hx t0 t1 t2 t3
  generalize w1.heap.size = XN at *
  obtain ⟨t0, t1, t2, t3⟩ := HT2.out.c4
  obtain ⟨x0, x1, x2, x3⟩ := HXX.out.c4
  have xf := HXX.out.frozen 1
  have xl := HXX.out.lt
  go_upto_region 5 with (fail)
  skip
  refine gen (p := Code.wp _ _ _ _) (fun W => Below w.heap.size w W ∧ Blk W XN 26 #[.slice A m.old.length c, .int .i64 (m.old.length : Int), .slice A2 m.ss.length c2, .slice A3 m.js.length c3] ∧ Blk W w.heap.size 26 #[.slice A m.old.length c, .int .i64 m.nw, .slice A2 m.ss.length c2, .slice A3 m.js.length c3]) ⟨HB2.out.setCell (p := ⟨XN, 1, none⟩) hXW _, HXX.out.set_ 1 _, blk_off HT2.out HNE.out⟩ ?_
  rintro w3 ⟨hb, hx, ht⟩
  have HB3 := hid hb
  have HT3 := hid ht
  have HXY := hid hx
  clear hb hx ht t0 t1 t2 t3 x0 x1 x2 x3 xf xl
  obtain ⟨t0, t1, t2, t3⟩ := (HT3.out.alloc (.cells #[] 45)).c4
  go_wp2_with (at_builtin; refine wpList_run_append rfl _ _ 23 rfl rfl rfl (copy_stts (base := w3.heap.size) (HH.out.at_ (HB3.out.trans ((below_box _ _).mono HB3.out.size))).toMIn.is (Blk.new _ _ _) (Nat.le_refl _) hs1 (by omega)) ?_; rintro v' w7 ⟨ho7, hb7⟩; obtain ⟨g, cap, cur, rfl, hS7, hg7, hc7, hm7⟩ := SttB.of_row ho7 hs1; have hst7 := then_below (below_box _ _) hb7; have HX7 := hid (HXY.out.keep hst7); have HT7 := hid (HT3.out.keep hst7); have HB7 := hid (HB3.out.trans (hst7.mono HB3.out.size)); obtain ⟨x0, x1, x2, x3⟩ := HX7.out.c4; have xf := HX7.out.frozen 2; have xl := HX7.out.lt; have HS7 := hid hS7; have hgx : g ≠ XN := (by have := HXY.out.lt; omega); have hgw : w.heap.size ≤ g := (by have := HB3.out.size; omega); have HGW := hid (show w.heap.size ≠ g by have := HT3.out.lt; omega); clear hst7 ho7 hb7 hS7 t0 t1 t2 t3)
  clear xf xl x0 x1 x2 x3
  refine gen (p := Code.wp _ _ _ _) (fun W => Below w.heap.size w W ∧ Blk W XN 26 #[.slice A m.old.length c, .int .i64 (m.old.length : Int), .slice (some ⟨g, 0, none⟩) m.ss.length cap, .slice A3 m.js.length c3] ∧ Blk W w.heap.size 26 #[.slice A m.old.length c, .int .i64 m.nw, .slice A2 m.ss.length c2, .slice A3 m.js.length c3] ∧ ∃ cur, SttB W g cur m.ss) ⟨HB7.out.setCell (p := ⟨XN, 2, none⟩) hXW _, HX7.out.set_ 2 _, blk_off HT7.out HNE.out, ⟨cur, blk_off HS7.out.1 hgx, HS7.out.2⟩⟩ ?_
  rintro w4 ⟨hb, hx, ht, ⟨cur0, hs⟩⟩
  have HB8 := hid hb
  have HX8 := hid hx
  have HT8 := hid ht
  have HS8 := hid hs
  clear hb hx ht hs HX7 HT7 HB7 HS7 cur
  go_wp2
  go_loopw [4] (fun i W => ∃ k : Nat, k ≤ m.ss.length ∧ i = .int .i64 k ∧ ∃ cur, SttB W g cur (updTo sameF m.ss k) ∧ Blk W XN 26 #[.slice A m.old.length c, .int .i64 (m.old.length : Int), .slice (some ⟨g, 0, none⟩) m.ss.length cap, .slice A3 m.js.length c3] ∧ Blk W w.heap.size 26 #[.slice A m.old.length c, .int .i64 m.nw, .slice A2 m.ss.length c2, .slice A3 m.js.length c3] ∧ Below w.heap.size w W) (fun i _ => m.ss.length - (intOf i).toNat)
  case atStart => exact ⟨0, Nat.zero_le _, rfl, cur0, by rw [updTo_zero]; exact HS8.out, HX8.out, HT8.out, HB8.out⟩
  case round =>
    clear HB8 HX8 HT8 HS8 cur0
    obtain ⟨k, hk, rfl, cur, hSB, hxb, hbt, hbr⟩ := hrel
    obtain ⟨x0, x1, x2, x3⟩ := hxb.c4
    have HR := hid (And.intro hSB (And.intro hxb (And.intro hbt hbr)))
    clear hSB hxb hbt hbr
    by_cases hlt : k < m.ss.length
    · have hkI : (k : Int) < (m.ss.length : Int) := by omega
      obtain ⟨s, hs⟩ : ∃ s, m.ss[k]? = some s := ⟨_, List.getElem?_eq_getElem hlt⟩
      have hsu : (updTo sameF m.ss k)[k]? = some s := by rw [updTo_get, if_neg (by omega)]; exact hs
      obtain ⟨hB1, hB2⟩ := HR.out.1
      have c0 := (hB1.cell (k * 5)).trans (hB2 k s hsu 0 (by omega))
      have c1 := (hB1.cell (k * 5 + 1)).trans (hB2 k s hsu 1 (by omega))
      have cf := hB1.frozen (k * 5 + 1)
      have cl := hB1.lt
      rw [show s.f 0 = s.o from rfl] at c0
      have HNX := hid (show ∃ cur, SttB (wr.setCell ⟨g, k * 5 + 1, none⟩ (.int .i64 s.o)).drew g cur (updTo sameF m.ss (k + 1)) ∧ Blk (wr.setCell ⟨g, k * 5 + 1, none⟩ (.int .i64 s.o)).drew XN 26 #[.slice A m.old.length c, .int .i64 (m.old.length : Int), .slice (some ⟨g, 0, none⟩) m.ss.length cap, .slice A3 m.js.length c3] ∧ Blk (wr.setCell ⟨g, k * 5 + 1, none⟩ (.int .i64 s.o)).drew w.heap.size 26 #[.slice A m.old.length c, .int .i64 m.nw, .slice A2 m.ss.length c2, .slice A3 m.js.length c3] ∧ Below w.heap.size w (wr.setCell ⟨g, k * 5 + 1, none⟩ (.int .i64 s.o)).drew from by
        have h1 := HR.out.1.upd hs (r := 1) (z := s.o) (by omega) rfl (by intro q hq hne; rcases q with _ | _ | _ | _ | _ | q <;> first | rfl | omega)
        exact ⟨_, ⟨h1.1.drew, h1.2⟩, (blk_off HR.out.2.1 hgx.symm).drew, (blk_off HR.out.2.2.1 HGW.out).drew, (HR.out.2.2.2.setCell (p := ⟨g, k * 5 + 1, none⟩) hgw _).drew⟩)
      clear hB1 hB2 hs hsu HR
      go_wp2
      go_still_tail 10, (by kernel_rfl)
      go_wp2
      go_roundw
      case rel => exact ⟨k + 1, by omega, by go_num, HNX.out⟩
      case measure => first | (simp [intOf]; done) | (simp [intOf]; omega)
    · have hkI : decide ((k : Int) < (m.ss.length : Int)) = false := by simp; omega
      obtain rfl : k = m.ss.length := by omega
      go_upto_region 10 with (fail)
      obtain ⟨x, hxe⟩ : ∃ x, sameM m = x := ⟨_, rfl⟩
      have HXE := hid hxe
      have hxl : (sameM m).ss.length = m.ss.length := updM_len _ _ _
      have hA : MArg x A c (some ⟨g, 0, none⟩) cap A3 c3 wr := by
        have h9 := HH.out.at_ HR.out.2.2.2
        have hI := HR.out.1.is
        rw [updTo_all] at hI
        rw [← hxe]
        exact ⟨⟨h9.io, hI, h9.ij, h9.l1, h9.m1, by rw [hxl]; exact hc7, hm7, h9.l3, h9.m3⟩, h9.z1, (fun e => by cases e), h9.z3⟩
      have HXA := hid hA
      have HXT := hid (show ThinP x by rw [← hxe]; exact ⟨HTH.out.1, by rw [hxl]; exact HTH.out.2.1, HTH.out.2.2⟩)
      have XB := hid (show Blk wr XN 26 #[.slice A x.old.length c, .int .i64 x.nw, .slice (some ⟨g, 0, none⟩) x.ss.length cap, .slice A3 x.js.length c3] by rw [← hxe, hxl]; exact HR.out.2.1)
      have HBX := hid HR.out.2.2.2
      have HTX := hid HR.out.2.2.1
      have BY0 := hid (Below.refl wr.heap.size wr)
      clear hxe hxl hA HR x0 x1 x2 x3
      obtain ⟨x0, x1, x2, x3⟩ := XB.out.c4
      obtain ⟨t0, t1, t2, t3⟩ := HTX.out.c4
      have HXC := hid (show cstM x = 0 by rw [← HXE.out]; exact same_cst HCM.out)
      have HXO := hid (okm_chk (chk_okm (cst_ok HXC.out).1))
      have HSD := hid (show smD x (ownL x) (car x) = m.old by rw [← HXE.out]; exact same_car OK.out)
      have HBD := hid (show ∀ d, d < m.old.length → bndOne x d = (m.at_ d, m.at_ d) from fun d hd => by rw [← HXE.out]; exact same_bnd HCM.out hd)
      have HOE := hid (show x.old = m.old by rw [← HXE.out]; rfl)
      have HNW := hid (show x.nw = (m.old.length : Int) by rw [← HXE.out]; rfl)
      have K5 := hid (map_thin (HXA.out.at_ BY0.out) HXT.out)
      go_wp2_with fail
      refine K5.out.mono ?_
      rintro e w5 ⟨P5, Q5, R5, rfl, hm, hb⟩
      have HB5 := hid (HBX.out.trans (hb.mono HBX.out.size))
      have HT5 := hid (HTX.out.keep hb)
      have BY5 := hid (BY0.out.trans (hb.mono BY0.out.size))
      have XB5 := hid (XB.out.keep hb)
      have M5 := hid hm
      clear hm
      clear hb K5 t0 t1 t2 t3 x0 x1 x2 x3
      obtain ⟨t0, t1, t2, t3⟩ := HT5.out.c4
      obtain ⟨x0, x1, x2, x3⟩ := XB5.out.c4
      have K6 := hid (carry_good M5.out HXO.out)
      unfold GivesCar at K6
      rw [HSD.out] at K6
      go_wp2_with fail
      refine K6.out.mono ?_
      rintro e w6 ⟨p, q, rfl, hp, hq, hb⟩
      have HB6 := hid (HB5.out.trans (hb.mono HB5.out.size))
      have HT6 := hid (HT5.out.keep hb)
      have BY6 := hid (BY5.out.trans (hb.mono BY5.out.size))
      have XB6 := hid (XB5.out.keep hb)
      have HQ := hid hq
      clear hp hq
      clear hb K6 t0 t1 t2 t3 x0 x1 x2 x3
      obtain ⟨t0, t1, t2, t3⟩ := HT6.out.c4
      obtain ⟨x0, x1, x2, x3⟩ := XB6.out.c4
      have BQ0 := hid (Below.refl w6.heap.size w6)
      have K7 := hid (map_thin (HXA.out.at_ BY6.out) HXT.out)
      go_wp2_with fail
      refine K7.out.mono ?_
      rintro e w7 ⟨P7, Q7, R7, rfl, hm, hb⟩
      have HB7 := hid (HB6.out.trans (hb.mono HB6.out.size))
      have HT7 := hid (HT6.out.keep hb)
      have BY7 := hid (BY6.out.trans (hb.mono BY6.out.size))
      have BQ7 := hid (BQ0.out.trans (hb.mono BQ0.out.size))
      have XB7 := hid (XB6.out.keep hb)
      have M7 := hid hm
      clear hm
      clear hb K7 t0 t1 t2 t3 x0 x1 x2 x3
      obtain ⟨t0, t1, t2, t3⟩ := HT7.out.c4
      obtain ⟨x0, x1, x2, x3⟩ := XB7.out.c4
      have K8 := hid (bounds_good M7.out HXC.out)
      go_wp2_with fail
      refine K8.out.mono ?_
      rintro e w8 ⟨⟨A9, c9⟩, rfl, hy, hb⟩
      have HB8 := hid (HB7.out.trans (hb.mono HB7.out.size))
      have HT8 := hid (HT7.out.keep hb)
      have BY8 := hid (BY7.out.trans (hb.mono BY7.out.size))
      have BQ8 := hid (BQ7.out.trans (hb.mono BQ7.out.size))
      have XB8 := hid (XB7.out.keep hb)
      have HY := hid hy
      clear hy
      clear hb K8 t0 t1 t2 t3 x0 x1 x2 x3
      obtain ⟨t0, t1, t2, t3⟩ := HT8.out.c4
      obtain ⟨x0, x1, x2, x3⟩ := XB8.out.c4
      have BB0 := hid (Below.refl w8.heap.size w8)
      have K9 := hid (ints_same (HQ.out.at_ BQ8.out) (show IntsAt (A, c) m.old w8 from have h := HH.out.at_ HB8.out; ⟨h.io, h.l1, h.m1⟩))
      go_wp2_with fail
      refine K9.out.mono ?_
      rintro e w9 ⟨rfl, hb⟩
      have HB9 := hid (HB8.out.trans (hb.mono HB8.out.size))
      have HT9 := hid (HT8.out.keep hb)
      have BY9 := hid (BY8.out.trans (hb.mono BY8.out.size))
      have BQ9 := hid (BQ8.out.trans (hb.mono BQ8.out.size))
      have BB9 := hid (BB0.out.trans (hb.mono BB0.out.size))
      have XB9 := hid (XB8.out.keep hb)
      clear hb K9 t0 t1 t2 t3 x0 x1 x2 x3
      obtain ⟨t0, t1, t2, t3⟩ := HT9.out.c4
      obtain ⟨x0, x1, x2, x3⟩ := XB9.out.c4
      have hbl : (bndL x).length = m.old.length := by unfold bndL; rw [HNW.out]; simp
      rw [hbl]
      have HT9 := HT9
      have HB9 := HB9
      have HYW := hid (HY.out.at_ BB9.out)
      have HLB := hid hbl
      clear x0 x1 x2 x3 hbl
      go_wp2
      clear t0 t1 t2 t3
      go_loopw [10] (fun i W => ∃ d : Nat, d ≤ m.old.length ∧ i = .int .i64 d ∧ Below w9.heap.size w9 W) (fun i _ => m.old.length - (intOf i).toNat)
      case atStart => exact ⟨0, Nat.zero_le _, rfl, Below.refl _ _⟩
      case round =>
        obtain ⟨d, hd, rfl, hbr⟩ := hrel
        have HR := hid hbr
        have HTR := hid (HT9.out.keep hbr)
        have HBR := hid (HB9.out.trans (hbr.mono HB9.out.size))
        clear hbr
        by_cases hlt : d < m.old.length
        · have hdI : (d : Int) < (m.old.length : Int) := by omega
          have hp : (bndL x)[d]? = some (m.at_ d, m.at_ d) := by
            unfold bndL
            rw [HNW.out, List.getElem?_map, List.getElem?_range (by omega)]
            exact congrArg some (HBD.out d hlt)
          obtain ⟨ab, eb, g1, f0, f1⟩ := (HYW.out.at_ HR.out).1 d _ hp
          obtain ⟨z, hz⟩ : ∃ z, m.old[d]? = some z := ⟨_, List.getElem?_eq_getElem hlt⟩
          obtain ⟨ao, eO, g2, f2⟩ := (HH.out.at_ HBR.out).io d z hz
          rw [MapD.at_eq hz] at f0 f1
          have HF := hid (And.intro f0 (And.intro f1 f2))
          have eb' : A9 = some ab := eb
          subst eb' eO
          clear f0 f1 f2 g1 g2 hp eb hz
          go_wp2
          refine (wpIn_wide (n := 0)).1 ?_
          refine wpIn_region_each 15 (fun i v W' => match i with | 0 => v = .slice (some ab) m.old.length c9 | 1 => v = .int .i64 (d : Int) | 2 => v = .pointer (some (ab.add (d * 2))) | 3 => v = .agg #[.int .i64 z, .int .i64 z] | 4 => v = .pointer (some ⟨w.heap.size, 0, none⟩) | 5 => v = .slice (some ao) m.old.length c | 6 => v = .int .i64 (d : Int) | 7 => v = .pointer (some (ao.add d)) | 8 => v = .int .i64 z | 9 => v = .pointer (some ⟨w.heap.size, 0, none⟩) | 10 => v = .slice (some ao) m.old.length c | 11 => v = .int .i64 (d : Int) | 12 => v = .pointer (some (ao.add d)) | 13 => v = .int .i64 z | 14 => v = .agg #[.int .i64 z, .int .i64 z] | _ => True) (fun A B => Below A.heap.size A B) (fun _ _ => True) (by kernel_rfl) (by kernel_rfl) ?_ (fun h k => h.trans (k.mono h.size)) ⟨rfl, rfl, rfl, Nat.le_refl _, fun _ _ => rfl⟩ trivial (by kernel_rfl) ?_ ?_
          · intro i v W1 W2 hb h
            match i, h with
            | 0, h => exact h
            | 1, h => exact h
            | 2, h => exact h
            | 3, h => exact h
            | 4, h => exact h
            | 5, h => exact h
            | 6, h => exact h
            | 7, h => exact h
            | 8, h => exact h
            | 9, h => exact h
            | 10, h => exact h
            | 11, h => exact h
            | 12, h => exact h
            | 13, h => exact h
            | 14, h => exact h
            | i + 15, h => trivial
          · refine ⟨?_, ?_, ?_, ?_, ?_, ?_, ?_, ?_, ?_, ?_, ?_, ?_, ?_, ?_, ?_, trivial⟩
            · -- 0
              intro li a1 W2 hA K hK
              have e8 := hA.par 8 (by kernel_rfl)
              refine opStep none 0 rfl rfl (fun c hc => by cases hc) ?_
              go_simp
              exact hK _ _ rfl (Below.refl _ _) trivial
            · -- 1
              intro li a1 W2 hA K hK
              have e10 := hA.par 10 (by kernel_rfl)
              refine opStep none 0 rfl rfl (fun c hc => by cases hc) ?_
              go_simp
              exact hK _ _ rfl (Below.refl _ _) trivial
            · -- 2
              intro li a1 W2 hA K hK
              have e83 : a1.tmps.getD 83 undef = .slice (some ab) m.old.length c9 := hA.val 0 83 (by kernel_rfl) (by kernel_rfl)
              have e84 : a1.tmps.getD 84 undef = .int .i64 (d : Int) := hA.val 1 84 (by kernel_rfl) (by kernel_rfl)
              refine opStep none 0 rfl rfl (fun c hc => by cases hc) ?_
              go_simp
              exact hK _ _ (by first | rfl | exact congrArg (fun q => Value.pointer (some q)) (add_blk _ _)) (Below.refl _ _) trivial
            · -- 3
              intro li a1 W2 hA K hK
              have e85 : a1.tmps.getD 85 undef = .pointer (some (ab.add (d * 2))) := hA.val 2 85 (by kernel_rfl) (by kernel_rfl)
              have q1 := (hA.st.cell (World.block_lt_of_cell? _ _ HF.out.1)).trans HF.out.1
              have q2 := (hA.st.cell (World.block_lt_of_cell? _ _ HF.out.2.1)).trans HF.out.2.1
              refine opStep none 0 rfl rfl (fun c hc => by cases hc) ?_
              go_simp
              exact hK _ _ rfl (Below.refl _ _) trivial
            · -- 4
              intro li a1 W2 hA K hK
              have e1 := hA.par 1 (by kernel_rfl)
              refine opStep none 0 rfl rfl (fun c hc => by cases hc) ?_
              go_simp
              exact hK _ _ rfl (Below.refl _ _) trivial
            · -- 5
              intro li a1 W2 hA K hK
              have e87 : a1.tmps.getD 87 undef = .pointer (some ⟨w.heap.size, 0, none⟩) := hA.val 4 87 (by kernel_rfl) (by kernel_rfl)
              obtain ⟨q1, q2, q3, q4⟩ := (HTR.out.keep hA.st).c4
              refine opStep none 0 rfl rfl (fun c hc => by cases hc) ?_
              go_simp
              exact hK _ _ rfl (Below.refl _ _) trivial
            · -- 6
              intro li a1 W2 hA K hK
              have e10 := hA.par 10 (by kernel_rfl)
              refine opStep none 0 rfl rfl (fun c hc => by cases hc) ?_
              go_simp
              exact hK _ _ rfl (Below.refl _ _) trivial
            · -- 7
              intro li a1 W2 hA K hK
              have e88 : a1.tmps.getD 88 undef = .slice (some ao) m.old.length c := hA.val 5 88 (by kernel_rfl) (by kernel_rfl)
              have e89 : a1.tmps.getD 89 undef = .int .i64 (d : Int) := hA.val 6 89 (by kernel_rfl) (by kernel_rfl)
              refine opStep none 0 rfl rfl (fun c hc => by cases hc) ?_
              go_simp
              exact hK _ _ (by first | rfl | exact congrArg (fun q => Value.pointer (some q)) (add_blk _ _)) (Below.refl _ _) trivial
            · -- 8
              intro li a1 W2 hA K hK
              have e90 : a1.tmps.getD 90 undef = .pointer (some (ao.add d)) := hA.val 7 90 (by kernel_rfl) (by kernel_rfl)
              have q1 := (hA.st.cell (World.block_lt_of_cell? _ _ HF.out.2.2)).trans HF.out.2.2
              refine opStep none 0 rfl rfl (fun c hc => by cases hc) ?_
              go_simp
              exact hK _ _ rfl (Below.refl _ _) trivial
            · -- 9
              intro li a1 W2 hA K hK
              have e1 := hA.par 1 (by kernel_rfl)
              refine opStep none 0 rfl rfl (fun c hc => by cases hc) ?_
              go_simp
              exact hK _ _ rfl (Below.refl _ _) trivial
            · -- 10
              intro li a1 W2 hA K hK
              have e92 : a1.tmps.getD 92 undef = .pointer (some ⟨w.heap.size, 0, none⟩) := hA.val 9 92 (by kernel_rfl) (by kernel_rfl)
              obtain ⟨q1, q2, q3, q4⟩ := (HTR.out.keep hA.st).c4
              refine opStep none 0 rfl rfl (fun c hc => by cases hc) ?_
              go_simp
              exact hK _ _ rfl (Below.refl _ _) trivial
            · -- 11
              intro li a1 W2 hA K hK
              have e10 := hA.par 10 (by kernel_rfl)
              refine opStep none 0 rfl rfl (fun c hc => by cases hc) ?_
              go_simp
              exact hK _ _ rfl (Below.refl _ _) trivial
            · -- 12
              intro li a1 W2 hA K hK
              have e93 : a1.tmps.getD 93 undef = .slice (some ao) m.old.length c := hA.val 10 93 (by kernel_rfl) (by kernel_rfl)
              have e94 : a1.tmps.getD 94 undef = .int .i64 (d : Int) := hA.val 11 94 (by kernel_rfl) (by kernel_rfl)
              refine opStep none 0 rfl rfl (fun c hc => by cases hc) ?_
              go_simp
              exact hK _ _ (by first | rfl | exact congrArg (fun q => Value.pointer (some q)) (add_blk _ _)) (Below.refl _ _) trivial
            · -- 13
              intro li a1 W2 hA K hK
              have e95 : a1.tmps.getD 95 undef = .pointer (some (ao.add d)) := hA.val 12 95 (by kernel_rfl) (by kernel_rfl)
              have q1 := (hA.st.cell (World.block_lt_of_cell? _ _ HF.out.2.2)).trans HF.out.2.2
              refine opStep none 0 rfl rfl (fun c hc => by cases hc) ?_
              go_simp
              exact hK _ _ rfl (Below.refl _ _) trivial
            · -- 14
              intro li a1 W2 hA K hK
              have e91 : a1.tmps.getD 91 undef = .int .i64 z := hA.val 8 91 (by kernel_rfl) (by kernel_rfl)
              have e96 : a1.tmps.getD 96 undef = .int .i64 z := hA.val 13 96 (by kernel_rfl) (by kernel_rfl)
              refine opStep none 0 rfl rfl (fun c hc => by cases hc) ?_
              go_simp
              refine (between_any z z W2).mono ?_
              rintro e W3 ⟨rfl, hb3⟩
              exact hK _ _ rfl hb3 trivial
          · intro li a1 W2 hD
            have e86 : a1.tmps.getD 86 undef = .agg #[.int .i64 z, .int .i64 z] := hD.val 3 86 (by kernel_rfl) (by kernel_rfl)
            have e97 : a1.tmps.getD 97 undef = .agg #[.int .i64 z, .int .i64 z] := hD.val 14 97 (by kernel_rfl) (by kernel_rfl)
            have hkp2 := hD.keeps (ds := [83, 84, 85, 86, 87, 88, 89, 90, 91, 92, 93, 94, 95, 96, 97, 98]) (by kernel_rfl)
            have hds := hD.size
            have hsz9 : a1.tmps.size = 100 := hD.size
            have hdd := hD.defers
            have hst := hD.st
            refine tail_val (i := 15) (v := .bool false) (W' := W2) none 0 rfl rfl rfl (fun c hc => by cases hc) (by go_simp) (by rw [hsz9]; decide) ?_
            intro a3 s3 d3 f3 o3
            have hkp3 := keeps_then hkp2 o3 (by decide)
            have e := act_mix [83, 84, 85, 86, 87, 88, 89, 90, 91, 92, 93, 94, 95, 96, 97, 98] (s3.trans hds) (d3.trans hdd) (fun i _ hc => hkp3 i hc)
            have hg9 : (fun i => a3.tmps.getD i undef) 98 = .bool false := f3
            generalize (fun i => a3.tmps.getD i undef) = g' at e hg9
            refine wpListIn_nil ?_
            rw [e]
            clear e hD hkp2 hkp3 s3 d3 f3 o3 hds hdd hsz9 e86 e97
            simp only [mix, List.contains_cons, List.contains_nil, Nat.reduceAdd, Nat.reduceBEq, Bool.or_false, Bool.or_true, cond_true, cond_false, hg9]
            clear hg9
            have hn := HR.out.trans (hst.mono HR.out.size)
            have HNX := hid hn
            clear hst hn HF HTR HBR HR
            go_wp2
            go_roundw
            case rel => exact ⟨d + 1, by omega, by go_num, HNX.out⟩
            case measure => first | (simp [intOf]; done) | (simp [intOf]; omega)
        · have hdI : decide ((d : Int) < (m.old.length : Int)) = false := by simp; omega
          obtain ⟨t0, t1, t2, t3⟩ := HTR.out.c4
          have K41 := hid (awake_any wr)
          go_wp2_with fail
          refine K41.out.mono ?_
          rintro e w41 ⟨rfl, hb⟩
          have HB41 := hid (HBR.out.trans (hb.mono HBR.out.size))
          have HT41 := hid (HTR.out.keep hb)
          clear hb K41 t0 t1 t2 t3
          obtain ⟨t0, t1, t2, t3⟩ := HT41.out.c4
          clear t0 t1 t2 t3
          go_wp2
          go_ret
          exact ⟨rfl, HB41.out⟩

theorem same_any9 (m : MapD) (A : Option Addr) (c : Nat) (A2 : Option Addr) (c2 : Nat) (A3 : Option Addr) (c3 : Nat) (w : World) (h : MArg m A c A2 c2 A3 c3 w) :
    Calls Try.prog 4 #[.agg #[.slice A m.old.length c, .int .i64 m.nw, .slice A2 m.ss.length c2, .slice A3 m.js.length c3]] w fun e w' => e = .returned (.bool true) ∧ Below w.heap.size w w' := by
  cases hr : readyM m
  · exact same_not m A c A2 c2 A3 c3 w h hr
  · exact same_good m A c A2 c2 A3 c3 w h hr

open Go.ChangeShapes Go.WideShapes Go.ChangeAt in
set_option maxRecDepth 100000 in
theorem sames_lifted (os : Os) (started : os.Started) (H : Type) (enc : TypeId × Value → H) :
    ReturnsInHanded {} Try.checked os 4 .any (Rows.borderSameSpec.pre6 enc Try.prog Try.f4 Rows.borderSameRow.domain false) (Rows.borderSameSpec.post enc Try.prog Try.f4 false true false false) := by
  refine returnsInHanded_of_change (C := Try.checked) own started (by kernel_rfl) Try.func4
    (ChangeSpec.witness6 (enc := enc) (C := Try.checked) false ⟨#[], #[.agg #[.slice none 0 0, .int .i64 0, .slice none 0 0, .slice none 0 0]], []⟩ 8 (by kernel_rfl) (by kernel_rfl) (by kernel_rfl) (by kernel_rfl)) ?_
  intro W base args ds gs before hval0 hW hcnd _
  have hval : ∀ (j : Nat) t v, Try.f4.params[j]? = some t → args[j]? = some v → Value.okWide Try.prog W .any base t v := hval0
  have hW' := hW
  obtain ⟨p, q, hA0, hV, rfl, hfz, hnd⟩ := hW
  have hA : DataW.TrodAll enc Try.prog W 0 (fun _ => true) true Try.f4.params.toList args.toList ds p := hA0
  rw [Try.params4] at hA hval
  obtain ⟨v0, vs0, d0, ds0, p0, q0, hargs, rfl, rfl, h0, r0⟩ := trodAll_cons hA
  obtain ⟨rfl, rfl, rfl⟩ := trodAll_nil r0
  obtain rfl : args = #[v0] := by cases args; simp_all
  obtain ⟨rfl, rfl⟩ := trodVars_none hV
  obtain ⟨m, A, c, A2, c2, A3, c3, rfl, ht⟩ := open_map (hval 0 26 v0 rfl rfl) h0
  refine (same_any9 m A c A2 c2 A3 c3 W ht).mono fun e W' ⟨he, hb⟩ => ⟨_, he, ?_⟩
  exact law_post laid_out rfl rfl (by kernel_rfl) hW' rfl hb

theorem sames_over : Rows.borderSameRow.holds Try.pinned (OpenSpec.ofChange Rows.borderSameSpec) :=
  OpenClaim.holds_of_wide 4 Try.f4 rfl rfl rfl rfl rfl rfl rfl ⟨rfl, rfl, rfl, rfl, rfl⟩ rfl rfl rfl rfl rfl (by kernel_rfl) Try.func4 (by kernel_rfl)
    (of_decide_eq_true (by kernel_rfl)) (by unfold Func.isWrapper; first | (rw [if_pos (by decide +kernel)]; kernel_rfl) | (rw [if_neg (by decide +kernel)]; exact ⟨rfl, rfl⟩))
    (fun os started H enc _ => sames_lifted os started H enc)
/-- the statement -/
theorem border_same : Rows.BorderSameSaid := sames_over
#print axioms border_same
end Go.Proofs.Ytoeabajigfdkaaa
