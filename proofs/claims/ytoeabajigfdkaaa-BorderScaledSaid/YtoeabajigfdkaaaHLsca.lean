/- For every map without fault, the carried counts of an old district are what the package round returns for its count and weights; if all weights are multiplied by the same number, all carried counts are the same: the statement BorderScaled. No condition. -/
import Derived.Deep.Cut
import Derived.Test.YtoeabajigfdkaaaG1
import Derived.Test.YtoeabajigfdkaaaG3
import Derived.Test.YtoeabajigfdkaaaG7
import Derived.Test.YtoeabajigfdkaaaG13
import Derived.Test.YtoeabajigfdkaaaG15
import Derived.Test.YtoeabajigfdkaaaG17
import Derived.Test.YtoeabajigfdkaaaG24
namespace Go.Proofs.Ytoeabajigfdkaaa
open Go.RowKit Go.Shelf

def scaF (n : Int) (s : Stt) : Stt := ⟨s.o, s.n, s.wt * n, s.lo, s.hi⟩
theorem sca_car {m : MapD} {n : Int} (hn : 1 ≤ n) : car (updM m m.nw (scaF n)) = car m :=
  (car_times (m := m) (x := updM m m.nw (scaF n)) hn rfl (updM_len _ _ _).symm fun i hi => by rw [updM_S hi]; exact ⟨rfl, Int.mul_comm _ _⟩).symm
theorem sca_smD {m : MapD} {n : Int} (hn : 1 ≤ n) : smD (updM m m.nw (scaF n)) (ownL (updM m m.nw (scaF n))) (car (updM m m.nw (scaF n))) = smD m (ownL m) (car m) := by
  rw [sca_car hn]
  show smTo m.nw.toNat _ _ _ = smTo m.nw.toNat _ _ _
  refine smTo_congr _ fun i hi => ?_
  rw [car_len] at hi
  unfold ownL
  rw [updM_S hi]; rfl
theorem one_cell {W : World} {g t : Nat} {u : Value} (h : Blk W g t #[u]) : ∀ (j : Nat) (x : Value), [u][j]? = some x → W.cell? ((⟨g, 0, none⟩ : Addr).add j) = some x := by
  intro q x hq
  match q, hq with
  | 0, hq => injection hq with hq; subst hq; exact h.c1
  | q + 1, hq => simp at hq
theorem ws_len (m : MapD) (d : Nat) : (wsTo m d m.ss.length).length = (parts m d).length := by
  rw [parts_len]; exact (atTo_len m d _).1.symm
theorem div_parts {m : MapD} (ok : OkM m) {d : Nat} (hd : d < m.old.length) {y : Option Addr × Nat} {w : World} (hy : IntsAt y (wsTo m d m.ss.length) w) :
    Calls Try.prog 30 #[.slice y.1 (parts m d).length y.2, .int .i64 (m.at_ d)] w fun e w' => ∃ z : Option Addr × Nat, e = .returned (.tuple #[.slice z.1 (parts m d).length z.2, .int .i64 0]) ∧ IntsAt z (parts m d) w' ∧ Below w.heap.size w w' := by
  have K := divide_any y.1 y.2 (wsTo m d m.ss.length) (m.at_ d) w hy.1 hy.2.1 hy.2.2
  simp only [ok.divE hd, ne_eq, not_true_eq_false, if_false] at K
  rw [ws_len] at K
  refine K.mono fun e w' h => ?_
  obtain ⟨A, c, h1, h2, h3, h4, _, _, h5⟩ := h
  rw [ws_len] at h1 h3
  exact ⟨(A, c), h1, ⟨h2, h3, h4⟩, h5⟩
theorem int_at9 {w : World} {n : Nat} {a : Addr} {xs : List Int} {k : Nat} {x : Int} (h : IsInts w n (some a) xs) (hk : xs[k]? = some x) : w.cell? (a.add k) = some (.int .i64 x) := by
  obtain ⟨a', e, _, h0⟩ := h k x hk
  cases e
  exact h0
theorem map_snoc {α β : Type} (f : α → β) (l : List α) (x : α) : l.map f ++ [f x] = (l ++ [x]).map f := by rw [List.map_append]; rfl

set_option maxRecDepth 100000 in
set_option maxHeartbeats 4000000 in
theorem sca_not (m : MapD) (A : Option Addr) (c : Nat) (A2 : Option Addr) (c2 : Nat) (A3 : Option Addr) (c3 : Nat) (q : Int) (w : World) (h : MArg m A c A2 c2 A3 c3 w) (hq0 : 0 ≤ q) (hq1 : q ≤ 255) (ht : thinM m = false) :
    Calls Try.prog 7 #[.agg #[.slice A m.old.length c, .int .i64 m.nw, .slice A2 m.ss.length c2, .slice A3 m.js.length c3], .int .u8 q] w fun e w' => e = .returned (.bool true) ∧ Below w.heap.size w w' := by
  have hB := below_box (w := w) #[.slice A m.old.length c, .int .i64 m.nw, .slice A2 m.ss.length c2, .slice A3 m.js.length c3] 26
  have hT := Blk.new w 26 #[.slice A m.old.length c, .int .i64 m.nw, .slice A2 m.ss.length c2, .slice A3 m.js.length c3]
  have HB0 := hid hB
  have HT0 := hid hT
  have HH := hid h
  obtain ⟨t0, t1, t2, t3⟩ := hT.c4
  clear h hB hT
  have HTN := hid ht
  clear ht
  go_enter Try.func7, Try.ntmps7
  have K1 := hid (thin_any m A c A2 c2 A3 c3 (w.alloc (.cells #[.slice A m.old.length c, .int .i64 m.nw, .slice A2 m.ss.length c2, .slice A3 m.js.length c3] 26)))
  rw [HTN.out] at K1
  go_wp2_with fail
  refine K1.out.mono ?_
  rintro e w1 ⟨rfl, hb⟩
  have HB1 := hid (HB0.out.trans (hb.mono HB0.out.size))
  have HT1 := hid (HT0.out.keep hb)
  clear hb K1 t0 t1 t2 t3
  obtain ⟨t0, t1, t2, t3⟩ := HT1.out.c4
  have K2 := hid (awake_any w1)
  go_wp2_with fail
  refine K2.out.mono ?_
  rintro e w2 ⟨rfl, hb⟩
  have HB2 := hid (HB1.out.trans (hb.mono HB1.out.size))
  have HT2 := hid (HT1.out.keep hb)
  clear hb K2 t0 t1 t2 t3
  obtain ⟨t0, t1, t2, t3⟩ := HT2.out.c4
  clear t0 t1 t2 t3
  go_wp2
  go_ret
  exact ⟨rfl, HB2.out⟩

set_option maxRecDepth 100000 in
set_option maxHeartbeats 4000000 in
theorem sca_bad (m : MapD) (A : Option Addr) (c : Nat) (A2 : Option Addr) (c2 : Nat) (A3 : Option Addr) (c3 : Nat) (q : Int) (w : World) (h : MArg m A c A2 c2 A3 c3 w) (hq0 : 0 ≤ q) (hq1 : q ≤ 255) (ht : thinM m = true) (z : Int) (hz : z ≠ 0) (hc : chkM m = z) :
    Calls Try.prog 7 #[.agg #[.slice A m.old.length c, .int .i64 m.nw, .slice A2 m.ss.length c2, .slice A3 m.js.length c3], .int .u8 q] w fun e w' => e = .returned (.bool true) ∧ Below w.heap.size w w' := by
  have hB := below_box (w := w) #[.slice A m.old.length c, .int .i64 m.nw, .slice A2 m.ss.length c2, .slice A3 m.js.length c3] 26
  have hT := Blk.new w 26 #[.slice A m.old.length c, .int .i64 m.nw, .slice A2 m.ss.length c2, .slice A3 m.js.length c3]
  have HB0 := hid hB
  have HT0 := hid hT
  have HH := hid h
  obtain ⟨t0, t1, t2, t3⟩ := hT.c4
  clear h hB hT
  have HTN := hid ht
  have HC := hid hc
  have hzn : (z != 0) = true := by simpa using hz
  clear ht hc
  go_enter Try.func7, Try.ntmps7
  have K1 := hid (thin_any m A c A2 c2 A3 c3 (w.alloc (.cells #[.slice A m.old.length c, .int .i64 m.nw, .slice A2 m.ss.length c2, .slice A3 m.js.length c3] 26)))
  rw [HTN.out] at K1
  go_wp2_with fail
  refine K1.out.mono ?_
  rintro e w1 ⟨rfl, hb⟩
  have HB1 := hid (HB0.out.trans (hb.mono HB0.out.size))
  have HT1 := hid (HT0.out.keep hb)
  clear hb K1 t0 t1 t2 t3
  obtain ⟨t0, t1, t2, t3⟩ := HT1.out.c4
  have K2 := hid (mfault_any m A c A2 c2 A3 c3 w1 (HH.out.at_ HB1.out).toMIn)
  rw [HC.out] at K2
  go_wp2_with fail
  refine K2.out.mono ?_
  rintro e w2 ⟨rfl, hb⟩
  have HB2 := hid (HB1.out.trans (hb.mono HB1.out.size))
  have HT2 := hid (HT1.out.keep hb)
  clear hb K2 t0 t1 t2 t3
  obtain ⟨t0, t1, t2, t3⟩ := HT2.out.c4
  have K3 := hid (awake_any w2)
  go_wp2_with fail
  refine K3.out.mono ?_
  rintro e w3 ⟨rfl, hb⟩
  have HB3 := hid (HB2.out.trans (hb.mono HB2.out.size))
  have HT3 := hid (HT2.out.keep hb)
  clear hb K3 t0 t1 t2 t3
  obtain ⟨t0, t1, t2, t3⟩ := HT3.out.c4
  clear t0 t1 t2 t3
  go_wp2
  go_ret
  exact ⟨rfl, HB3.out⟩

set_option maxRecDepth 100000 in
set_option maxHeartbeats 8000000 in
theorem sca_good (m : MapD) (A : Option Addr) (c : Nat) (A2 : Option Addr) (c2 : Nat) (A3 : Option Addr) (c3 : Nat) (q : Int) (w : World) (h : MArg m A c A2 c2 A3 c3 w) (hq0 : 0 ≤ q) (hq1 : q ≤ 255) (ht : thinM m = true) (hc : chkM m = 0) :
    Calls Try.prog 7 #[.agg #[.slice A m.old.length c, .int .i64 m.nw, .slice A2 m.ss.length c2, .slice A3 m.js.length c3], .int .u8 q] w fun e w' => e = .returned (.bool true) ∧ Below w.heap.size w w' := by
  have hB := below_box (w := w) #[.slice A m.old.length c, .int .i64 m.nw, .slice A2 m.ss.length c2, .slice A3 m.js.length c3] 26
  have hT := Blk.new w 26 #[.slice A m.old.length c, .int .i64 m.nw, .slice A2 m.ss.length c2, .slice A3 m.js.length c3]
  have HB0 := hid hB
  have HT0 := hid hT
  have HH := hid h
  obtain ⟨t0, t1, t2, t3⟩ := hT.c4
  clear h hB hT
  have HTN := hid ht
  have HTH := hid (thinM_iff.1 ht)
  have HC := hid hc
  have OK := hid (chk_okm hc)
  have hs8 := OK.out.s8
  have hs1 := OK.out.s1
  have hd4 := OK.out.d4
  obtain ⟨r, hr⟩ : ∃ r, q % 4 = r := ⟨_, rfl⟩
  have hr0 : 0 ≤ r ∧ r < 4 := by rw [← hr]; exact ⟨Int.emod_nonneg _ (by omega), Int.emod_lt_of_pos _ (by omega)⟩
  have htm : q.tmod 4 = r := by rw [Int.tmod_eq_emod_of_nonneg hq0]; exact hr
  have hwq : IntKind.i64.wrap q = q := IntWalk.i64_in _ (by omega)
  have hwr : IntKind.i64.wrap r = r := IntWalk.i64_in _ (by omega)
  obtain ⟨n, hn⟩ : ∃ n, 2 + r = n := ⟨_, rfl⟩
  have hwn : IntKind.i64.wrap (2 + r) = n := by rw [← hn]; exact IntWalk.i64_in _ (by omega)
  have hn25 : 2 ≤ n ∧ n ≤ 5 := by omega
  clear ht hc hr hn
  go_enter Try.func7, Try.ntmps7
  have K1 := hid (thin_any m A c A2 c2 A3 c3 (w.alloc (.cells #[.slice A m.old.length c, .int .i64 m.nw, .slice A2 m.ss.length c2, .slice A3 m.js.length c3] 26)))
  rw [HTN.out] at K1
  go_wp2_with fail
  refine K1.out.mono ?_
  rintro e w1 ⟨rfl, hb⟩
  have HB1 := hid (HB0.out.trans (hb.mono HB0.out.size))
  have HT1 := hid (HT0.out.keep hb)
  clear hb K1 t0 t1 t2 t3
  obtain ⟨t0, t1, t2, t3⟩ := HT1.out.c4
  have K2 := hid (mfault_any m A c A2 c2 A3 c3 w1 (HH.out.at_ HB1.out).toMIn)
  rw [HC.out] at K2
  go_wp2_with fail
  refine K2.out.mono ?_
  rintro e w2 ⟨rfl, hb⟩
  have HB2 := hid (HB1.out.trans (hb.mono HB1.out.size))
  have HT2 := hid (HT1.out.keep hb)
  clear hb K2 t0 t1 t2 t3
  obtain ⟨t0, t1, t2, t3⟩ := HT2.out.c4
  have HNE := hid (show w.heap.size ≠ w2.heap.size by have := HT2.out.lt; omega)
  go_upto_region 5 with (fail)
  refine gen (p := Code.wp _ _ _ _) (fun W => Below w2.heap.size w2 W ∧ Blk W w2.heap.size 26 #[.slice A m.old.length c, .int .i64 m.nw, .slice A2 m.ss.length c2, .slice A3 m.js.length c3]) ⟨below_box _ _, Blk.new _ _ _⟩ ?_
  rintro w3 ⟨hb, hx⟩
  have HB3 := hid (HB2.out.trans (hb.mono HB2.out.size))
  have HT3 := hid (HT2.out.keep hb)
  have hXW := HB2.out.size
  have HXX := hid hx
  clear hb hx t0 t1 t2 t3
  generalize w2.heap.size = XN at *
  obtain ⟨t0, t1, t2, t3⟩ := (HT3.out.alloc (.cells #[] 45)).c4
  go_wp2_with (at_builtin; refine wpList_run_append rfl _ _ 23 rfl rfl rfl (copy_stts (base := w3.heap.size) (HH.out.at_ (HB3.out.trans ((below_box _ _).mono HB3.out.size))).toMIn.is (Blk.new _ _ _) (Nat.le_refl _) hs1 (by omega)) ?_; rintro v' w7 ⟨ho7, hb7⟩; obtain ⟨g, cap, cur, rfl, hS7, hg7, hc7, hm7⟩ := SttB.of_row ho7 hs1; have hst7 := then_below (below_box _ _) hb7; have HX7 := hid (HXX.out.keep hst7); have HT7 := hid (HT3.out.keep hst7); have HB7 := hid (HB3.out.trans (hst7.mono HB3.out.size)); obtain ⟨x0, x1, x2, x3⟩ := HX7.out.c4; have xf := HX7.out.frozen 2; have xl := HX7.out.lt; have HS7 := hid hS7; have hgx : g ≠ XN := (by have := HXX.out.lt; omega); have hgw : w.heap.size ≤ g := (by have := HB3.out.size; omega); have HGW := hid (show w.heap.size ≠ g by have := HT3.out.lt; omega); clear hst7 ho7 hb7 hS7 t0 t1 t2 t3)
  clear xf xl x0 x1 x2 x3
  refine gen (p := Code.wp _ _ _ _) (fun W => Below w.heap.size w W ∧ Blk W XN 26 #[.slice A m.old.length c, .int .i64 m.nw, .slice (some ⟨g, 0, none⟩) m.ss.length cap, .slice A3 m.js.length c3] ∧ Blk W w.heap.size 26 #[.slice A m.old.length c, .int .i64 m.nw, .slice A2 m.ss.length c2, .slice A3 m.js.length c3] ∧ ∃ cur, SttB W g cur m.ss) ⟨HB7.out.setCell (p := ⟨XN, 2, none⟩) hXW _, HX7.out.set_ 2 _, blk_off HT7.out HNE.out, ⟨cur, blk_off HS7.out.1 hgx, HS7.out.2⟩⟩ ?_
  rintro w4 ⟨hb, hx, ht, ⟨cur0, hs⟩⟩
  have HB8 := hid hb
  have HX8 := hid hx
  have HT8 := hid ht
  have HS8 := hid hs
  clear hb hx ht hs HX7 HT7 HB7 HS7 cur
  go_wp2
  go_loopw [7] (fun i W => ∃ k : Nat, k ≤ m.ss.length ∧ i = .int .i64 k ∧ ∃ cur, SttB W g cur (updTo (scaF n) m.ss k) ∧ Blk W XN 26 #[.slice A m.old.length c, .int .i64 m.nw, .slice (some ⟨g, 0, none⟩) m.ss.length cap, .slice A3 m.js.length c3] ∧ Blk W w.heap.size 26 #[.slice A m.old.length c, .int .i64 m.nw, .slice A2 m.ss.length c2, .slice A3 m.js.length c3] ∧ Below w.heap.size w W) (fun i _ => m.ss.length - (intOf i).toNat)
  case atStart => exact ⟨0, Nat.zero_le _, rfl, cur0, by rw [updTo_zero]; exact HS8.out, HX8.out, HT8.out, HB8.out⟩
  case round =>
    clear HB8 HX8 HT8 HS8 cur0
    obtain ⟨k, hk, rfl, cur, hSB, hxb, hbt, hbr⟩ := hrel
    obtain ⟨x0, x1, x2, x3⟩ := hxb.c4
    have HR := hid (And.intro hSB (And.intro hxb (And.intro hbt hbr)))
    clear hSB hxb hbt hbr
    by_cases hlt : k < m.ss.length
    · have hkI : (k : Int) < (m.ss.length : Int) := by omega
      obtain ⟨s, hs⟩ : ∃ s, m.ss[k]? = some s := ⟨_, List.getElem?_eq_getElem hlt⟩
      have hsu : (updTo (scaF n) m.ss k)[k]? = some s := by rw [updTo_get, if_neg (by omega)]; exact hs
      obtain ⟨hB1, hB2⟩ := HR.out.1
      have q2 := (hB1.cell (k * 5 + 2)).trans (hB2 k s hsu 2 (by omega))
      have cf := hB1.frozen (k * 5 + 2)
      have cl := hB1.lt
      rw [show s.f 2 = s.wt from rfl] at q2
      have hsb := OK.out.stt s (List.mem_of_getElem? hs)
      have hm1 : s.wt * n ≤ 1000 * 5 := Int.mul_le_mul (by omega) (by omega) (by omega) (by omega)
      have hm0 : 0 ≤ s.wt * n := Int.mul_nonneg (by omega) (by omega)
      obtain ⟨wn, hwn9⟩ : ∃ z, s.wt * n = z := ⟨_, rfl⟩
      have hwm : IntKind.i64.wrap (s.wt * n) = wn := by rw [hwn9]; exact IntWalk.i64_in _ (by omega)
      have HNX := hid (show ∃ cur, SttB (wr.setCell ⟨g, k * 5 + 2, none⟩ (.int .i64 wn)) g cur (updTo (scaF n) m.ss (k + 1)) ∧ Blk (wr.setCell ⟨g, k * 5 + 2, none⟩ (.int .i64 wn)) XN 26 #[.slice A m.old.length c, .int .i64 m.nw, .slice (some ⟨g, 0, none⟩) m.ss.length cap, .slice A3 m.js.length c3] ∧ Blk (wr.setCell ⟨g, k * 5 + 2, none⟩ (.int .i64 wn)) w.heap.size 26 #[.slice A m.old.length c, .int .i64 m.nw, .slice A2 m.ss.length c2, .slice A3 m.js.length c3] ∧ Below w.heap.size w (wr.setCell ⟨g, k * 5 + 2, none⟩ (.int .i64 wn)) from by
        have h1 := HR.out.1.upd (f := scaF n) hs (r := 2) (z := wn) (by omega) hwn9 (by intro q hq hne; rcases q with _ | _ | _ | _ | _ | q <;> first | rfl | omega)
        exact ⟨_, ⟨h1.1, h1.2⟩, (blk_off HR.out.2.1 hgx.symm), (blk_off HR.out.2.2.1 HGW.out), (HR.out.2.2.2.setCell (p := ⟨g, k * 5 + 2, none⟩) hgw _)⟩)
      clear hB1 hB2 hs hsu HR hsb hm1 hm0 hwn9
      go_wp2
      clear hwm
      go_roundw
      case rel => exact ⟨k + 1, by omega, by go_num, HNX.out⟩
      case measure => first | (simp [intOf]; done) | (simp [intOf]; omega)
    · have hkI : decide ((k : Int) < (m.ss.length : Int)) = false := by simp; omega
      obtain rfl : k = m.ss.length := by omega
      go_upto_region 10 with (fail)
      obtain ⟨x, hxe⟩ : ∃ x, (updM m m.nw (scaF n)) = x := ⟨_, rfl⟩
      have HXE := hid hxe
      have hxl : ((updM m m.nw (scaF n))).ss.length = m.ss.length := updM_len _ _ _
      have hA : MArg x A c (some ⟨g, 0, none⟩) cap A3 c3 wr := by
        have h9 := HH.out.at_ HR.out.2.2.2
        have hI := HR.out.1.is
        rw [updTo_all] at hI
        rw [← hxe]
        exact ⟨⟨h9.io, hI, h9.ij, h9.l1, h9.m1, by rw [hxl]; exact hc7, hm7, h9.l3, h9.m3⟩, h9.z1, (fun e => by cases e), h9.z3⟩
      have HXA := hid hA
      have HXT := hid (show ThinP x by rw [← hxe]; exact ⟨HTH.out.1, by rw [hxl]; exact HTH.out.2.1, HTH.out.2.2⟩)
      have XB := hid (show Blk wr XN 26 #[.slice A x.old.length c, .int .i64 x.nw, .slice (some ⟨g, 0, none⟩) x.ss.length cap, .slice A3 x.js.length c3] by rw [← hxe, hxl]; exact HR.out.2.1)
      have HBX := hid HR.out.2.2.2
      have HTX := hid HR.out.2.2.1
      have BY0 := hid (Below.refl wr.heap.size wr)
      clear hxe hxl hA HR x0 x1 x2 x3
      obtain ⟨x0, x1, x2, x3⟩ := XB.out.c4
      obtain ⟨t0, t1, t2, t3⟩ := HTX.out.c4
      have HCX := hid (show car x = car m by rw [← HXE.out]; exact sca_car (by omega))
      have HSX := hid (show smD x (ownL x) (car x) = smD m (ownL m) (car m) by rw [← HXE.out]; exact sca_smD (by omega))
      have HCL := hid (car_len m)
      clear hn25 hwn htm hwq hwr hr0
      have K5 := hid (map_thin (HH.out.at_ HBX.out) HTH.out)
      go_wp2_with fail
      refine K5.out.mono ?_
      rintro e w5 ⟨P5, Q5, R5, rfl, hm, hb⟩
      have HB5 := hid (HBX.out.trans (hb.mono HBX.out.size))
      have HT5 := hid (HTX.out.keep hb)
      have BY5 := hid (BY0.out.trans (hb.mono BY0.out.size))
      have XB5 := hid (XB.out.keep hb)
      have M5 := hid hm
      clear hm
      clear hb K5 t0 t1 t2 t3 x0 x1 x2 x3
      obtain ⟨t0, t1, t2, t3⟩ := HT5.out.c4
      obtain ⟨x0, x1, x2, x3⟩ := XB5.out.c4
      have K6 := hid (carry_good M5.out HC.out)
      unfold GivesCar at K6
      rw [HCL.out] at K6
      go_wp2_with fail
      refine K6.out.mono ?_
      rintro e w6 ⟨⟨A5, c5⟩, ⟨A6, c6⟩, rfl, hp, hq, hb⟩
      have HB6 := hid (HB5.out.trans (hb.mono HB5.out.size))
      have HT6 := hid (HT5.out.keep hb)
      have BY6 := hid (BY5.out.trans (hb.mono BY5.out.size))
      have XB6 := hid (XB5.out.keep hb)
      have HP := hid hp
      have HQ := hid hq
      clear hp hq
      clear hb K6 t0 t1 t2 t3 x0 x1 x2 x3
      obtain ⟨t0, t1, t2, t3⟩ := HT6.out.c4
      obtain ⟨x0, x1, x2, x3⟩ := XB6.out.c4
      have P_0 := hid (HP.out)
      have Q_0 := hid (HQ.out)
      go_wp2
      clear t0 t1 t2 t3 x0 x1 x2 x3
      obtain ⟨ao, eao⟩ : ∃ a, A = some a := by
        obtain ⟨a, e, _⟩ := HH.out.io 0 _ (List.getElem?_eq_getElem (by have := OK.out.d1; omega))
        exact ⟨a, e⟩
      obtain ⟨aa, eaa⟩ : ∃ a, A2 = some a := by
        obtain ⟨a, e, _⟩ := HH.out.is 0 _ (List.getElem?_eq_getElem (by omega))
        exact ⟨a, e⟩
      obtain ⟨a5, ea5⟩ : ∃ a, A5 = some a := by
        obtain ⟨a, e, _⟩ := P_0.out.1 0 _ (List.getElem?_eq_getElem (by rw [car_len]; omega))
        exact ⟨a, e⟩
      subst eao eaa ea5
      go_loopw [11] (fun i W => ∃ d : Nat, d ≤ m.old.length ∧ i = .int .i64 d ∧ Below w6.heap.size w6 W) (fun i _ => m.old.length - (intOf i).toNat)
      case atStart => exact ⟨0, Nat.zero_le _, rfl, Below.refl _ _⟩
      case round =>
        obtain ⟨d, hd, rfl, hbr⟩ := hrel
        have HR := hid hbr
        have HTR := hid (HT6.out.keep hbr)
        have HBR := hid (HB6.out.trans (hbr.mono HB6.out.size))
        obtain ⟨t0, t1, t2, t3⟩ := HTR.out.c4
        clear hbr
        by_cases hlt : d < m.old.length
        · have hdI : (d : Int) < (m.old.length : Int) := by omega
          have HPR := hid (P_0.out.at_ HR.out)
          have HAR := hid (HH.out.at_ HBR.out)
          have HLD := hid hlt
          go_wp2
          clear t0 t1 t2 t3
          generalize wr = wd at *
          obtain ⟨B, hBd⟩ : ∃ B, wd.heap.size = B := ⟨_, rfl⟩
          have HBD := hid hBd
          clear hBd
          go_loopw [12, 13, 14] (fun a b i W => ∃ j : Nat, j ≤ m.ss.length ∧ i = .int .i64 j ∧ W.ownsRow B 3 1 a (wsTo m d j).length ((wsTo m d j).map (Value.int .i64)) ∧ W.ownsRow B 3 1 b (atTo m d j).length ((atTo m d j).map fun i => Value.int .i64 ((car m).getD i 0)) ∧ (a.ownBlock = none ∨ a.ownBlock ≠ b.ownBlock) ∧ Below B wd W) (fun _ _ i _ => m.ss.length - (intOf i).toNat)
          case atStart => exact ⟨0, Nat.zero_le _, rfl, ⟨rfl, .inl ⟨rfl, rfl⟩⟩, ⟨rfl, .inl ⟨rfl, rfl⟩⟩, .inl rfl, Below.refl _ _⟩
          case round =>
            obtain ⟨j, hj, rfl, hr6, hr7, hne, hbj⟩ := hrel
            have hbj2 : Below wd.heap.size wd wr := by rw [HBD.out]; exact hbj
            have HTJ := hid (HTR.out.keep hbj2)
            have HAJ := hid (HAR.out.at_ hbj2)
            obtain ⟨t0, t1, t2, t3⟩ := HTJ.out.c4
            have HROW := hid (And.intro hr6 (And.intro hr7 (And.intro hne hbj)))
            clear hbj2
            by_cases hlj : j < m.ss.length
            · have hjI : (j : Int) < (m.ss.length : Int) := by omega
              obtain ⟨s, hs⟩ : ∃ s, m.ss[j]? = some s := ⟨_, List.getElem?_eq_getElem hlj⟩
              obtain ⟨a9, e9, gl9, f0, f1, f2, f3, f4⟩ := HAR.out.is j s hs
              cases e9
              have f0 := (hbj.cell (show (aa.add (j * 5)).block < B by rw [block_of_add, ← HBD.out]; exact gl9)).trans f0
              have f2 := (hbj.cell (p := ⟨(aa.add (j * 5)).block, (aa.add (j * 5)).off + 2, none⟩) (show (aa.add (j * 5)).block < B by rw [block_of_add, ← HBD.out]; exact gl9)).trans f2
              have HAL := hid (show (aa.add (j * 5)).block < B by rw [block_of_add, ← HBD.out]; exact gl9)
              clear f1 f3 f4 gl9
              by_cases hod : s.o = (d : Int)
              · have hoB : (s.o == (d : Int)) = true := by simp [hod]
                have HTK := hid (atTo_take hs hod)
                obtain ⟨y, hy⟩ : ∃ y, (car m)[j]? = some y := ⟨_, List.getElem?_eq_getElem (by rw [car_len]; exact hlj)⟩
                have HYV := hid (show (car m).getD j 0 = y by rw [List.getD, hy]; rfl)
                obtain ⟨a8, e8, gl8, f5⟩ := HPR.out.1 j y hy
                cases e8
                have f5 := (hbj.cell (show (a5.add j).block < B by rw [block_of_add, ← HBD.out]; exact gl8)).trans f5
                have HAL5 := hid (show (a5.add j).block < B by rw [block_of_add, ← HBD.out]; exact gl8)
                have HF2 := hid f2
                have HF5 := hid f5
                obtain ⟨hl1, hl2⟩ := atTo_len m d j
                have hn6 : (wsTo m d j).length ≤ 8 := by omega
                have hn7 : (atTo m d j).length ≤ 8 := by omega
                obtain ⟨i0, hi0, hz0, hz1, hz2⟩ := info_parts int_info
                have HIN := hid (And.intro hi0 (And.intro hz0 (And.intro hz1 hz2)))
                have HZG := hid (fun (g : Nat) (e : some g = u12.ownBlock ∨ some g = u13.ownBlock) => show B ≤ g by
                  rcases e with e | e
                  · exact (hr6.lt _ e.symm).1
                  · exact (hr7.lt _ e.symm).1)
                have HNW := hid (fun (g : Nat) (hg : wr.heap.size ≤ g) => show ¬ (some g = u12.ownBlock ∨ some g = u13.ownBlock) by
                  rintro (e | e)
                  · have := (hr6.lt _ e.symm).2; omega
                  · have := (hr7.lt _ e.symm).2; omega)
                have hBs : B ≤ wr.heap.size := by rw [← HBD.out]; exact hbj.size
                have HBL := hid (fun (W2 : World) (hc : Chg (fun q => some q = u12.ownBlock ∨ some q = u13.ownBlock) wr W2) => show Below B wr W2 from hc.below HZG.out hBs)
                have HBS := hid hBs
                have HLT := hid (show w.heap.size < B by rw [← HBD.out]; exact HTR.out.lt)
                have HG0 := hid (show PhD B (wsTo m d j).length (atTo m d j).length ((wsTo m d j).map (Value.int .i64)) ((atTo m d j).map fun i => Value.int .i64 ((car m).getD i 0)) (.int .i64 s.wt) (.int .i64 y) u12 u13 (Array.replicate 18 false) { tmps := #[], defers := [] } wr from ⟨by simpa using hr6, by simpa using hr7, by simpa using hne⟩)
                clear hs hod hy hl1 hl2 hi0 hz0 hz1 hz2 hr6 hr7 hne hbj f2 f5
                go_wp2
                clear t0 t1 t2 t3 f0 hBs
                refine (wpIn_wide (n := 0)).1 ?_
                refine wpIn_region_each2 16 (fun i v W' => match i with | 0 => v = u12 | 1 => v = .pointer (some ⟨w.heap.size, 2, none⟩) | 2 => v = .slice (some aa) m.ss.length c2 | 3 => v = .int .i64 (j : Int) | 4 => v = .pointer (some (aa.add (j * 5))) | 5 => v = .pointer (some ⟨(aa.add (j * 5)).block, (aa.add (j * 5)).off + 2, none⟩) | 6 => v = .int .i64 s.wt | 7 => ∃ gl, v = .slice (some ⟨gl, 0, none⟩) 1 1 ∧ wr.heap.size ≤ gl ∧ Blk W' gl 3 #[.int .i64 s.wt] | 8 => ∃ v4, v = v4 ∧ True | 9 => v = u13 | 10 => v = .slice (some a5) m.ss.length c5 | 11 => v = .int .i64 (j : Int) | 12 => v = .pointer (some (a5.add j)) | 13 => v = .int .i64 y | 14 => ∃ gm, v = .slice (some ⟨gm, 0, none⟩) 1 1 ∧ wr.heap.size ≤ gm ∧ Blk W' gm 3 #[.int .i64 y] | 15 => ∃ v4, v = v4 ∧ True | _ => True) (Chg (fun q => some q = u12.ownBlock ∨ some q = u13.ownBlock)) (PhD B (wsTo m d j).length (atTo m d j).length ((wsTo m d j).map (Value.int .i64)) ((atTo m d j).map fun i => Value.int .i64 ((car m).getD i 0)) (.int .i64 s.wt) (.int .i64 y) u12 u13) (by kernel_rfl) (by kernel_rfl) ?_ (fun h k => h.trans k) ⟨rfl, rfl, rfl, Nat.le_refl _, fun _ _ _ => rfl⟩ ⟨by have q := HG0.out.r6.drew; simpa using q, by have q := HG0.out.r7.drew; simpa using q, by have q := HG0.out.ne; simpa using q⟩ (by kernel_rfl) ?_ ?_
                · intro i v W1 W2 hb h
                  match i, h with
                  | 0, h => exact h
                  | 1, h => exact h
                  | 2, h => exact h
                  | 3, h => exact h
                  | 4, h => exact h
                  | 5, h => exact h
                  | 6, h => exact h
                  | 7, h =>
                    obtain ⟨gl, rfl, h1⟩ := h
                    exact ⟨_, rfl, h1.1, hb.blk h1.2 (HNW.out _ h1.1)⟩
                  | 8, h =>
                    obtain ⟨v4, rfl, h1⟩ := h
                    exact ⟨_, rfl, trivial⟩
                  | 9, h => exact h
                  | 10, h => exact h
                  | 11, h => exact h
                  | 12, h => exact h
                  | 13, h => exact h
                  | 14, h =>
                    obtain ⟨gm, rfl, h1⟩ := h
                    exact ⟨_, rfl, h1.1, hb.blk h1.2 (HNW.out _ h1.1)⟩
                  | 15, h =>
                    obtain ⟨v4, rfl, h1⟩ := h
                    exact ⟨_, rfl, trivial⟩
                  | i + 16, h => trivial
                · refine ⟨?_, ?_, ?_, ?_, ?_, ?_, ?_, ?_, ?_, ?_, ?_, ?_, ?_, ?_, ?_, ?_, trivial⟩
                  · -- 0
                    intro li a1 W2 hA K hK
                    have e12 := hA.par 12 (by kernel_rfl)
                    refine opStep none 0 rfl rfl (fun c hc => by cases hc) ?_
                    go_simp
                    exact hK _ _ rfl Chg.refl (hA.ph.other (by decide) (by decide) (by decide) (by decide) (Below.refl _ _))
                  · -- 1
                    intro li a1 W2 hA K hK
                    have e2 := hA.par 2 (by kernel_rfl)
                    refine opStep none 0 rfl rfl (fun c hc => by cases hc) ?_
                    go_simp
                    exact hK _ _ rfl Chg.refl (hA.ph.other (by decide) (by decide) (by decide) (by decide) (Below.refl _ _))
                  · -- 2
                    intro li a1 W2 hA K hK
                    have e96 : a1.tmps.getD 96 undef = .pointer (some ⟨w.heap.size, 2, none⟩) := hA.val 1 96 (by kernel_rfl) (by kernel_rfl)
                    have hbl := HBL.out _ hA.st
                    obtain ⟨q1, q2, q3, q4⟩ := (show Blk W2 w.heap.size 26 #[.slice (some ao) m.old.length c, .int .i64 m.nw, .slice (some aa) m.ss.length c2, .slice A3 m.js.length c3] from (hbl.block _ HLT.out).trans HTJ.out).c4
                    refine opStep none 0 rfl rfl (fun c hc => by cases hc) ?_
                    go_simp
                    exact hK _ _ rfl Chg.refl (hA.ph.other (by decide) (by decide) (by decide) (by decide) (Below.refl _ _))
                  · -- 3
                    intro li a1 W2 hA K hK
                    have e14 := hA.par 14 (by kernel_rfl)
                    refine opStep none 0 rfl rfl (fun c hc => by cases hc) ?_
                    go_simp
                    exact hK _ _ rfl Chg.refl (hA.ph.other (by decide) (by decide) (by decide) (by decide) (Below.refl _ _))
                  · -- 4
                    intro li a1 W2 hA K hK
                    have e97 : a1.tmps.getD 97 undef = .slice (some aa) m.ss.length c2 := hA.val 2 97 (by kernel_rfl) (by kernel_rfl)
                    have e98 : a1.tmps.getD 98 undef = .int .i64 (j : Int) := hA.val 3 98 (by kernel_rfl) (by kernel_rfl)
                    refine opStep none 0 rfl rfl (fun c hc => by cases hc) ?_
                    go_simp
                    exact hK _ _ (by first | rfl | exact congrArg (fun q => Value.pointer (some q)) (add_blk _ _)) Chg.refl (hA.ph.other (by decide) (by decide) (by decide) (by decide) (Below.refl _ _))
                  · -- 5
                    intro li a1 W2 hA K hK
                    have e99 : a1.tmps.getD 99 undef = .pointer (some (aa.add (j * 5))) := hA.val 4 99 (by kernel_rfl) (by kernel_rfl)
                    refine opStep none 0 rfl rfl (fun c hc => by cases hc) ?_
                    go_simp
                    exact hK _ _ rfl Chg.refl (hA.ph.other (by decide) (by decide) (by decide) (by decide) (Below.refl _ _))
                  · -- 6
                    intro li a1 W2 hA K hK
                    have e100 : a1.tmps.getD 100 undef = .pointer (some ⟨(aa.add (j * 5)).block, (aa.add (j * 5)).off + 2, none⟩) := hA.val 5 100 (by kernel_rfl) (by kernel_rfl)
                    have hbl := HBL.out _ hA.st
                    have q1 := (hbl.cell (p := ⟨(aa.add (j * 5)).block, (aa.add (j * 5)).off + 2, none⟩) HAL.out).trans HF2.out
                    refine opStep none 0 rfl rfl (fun c hc => by cases hc) ?_
                    go_simp
                    exact hK _ _ rfl Chg.refl (hA.ph.other (by decide) (by decide) (by decide) (by decide) (Below.refl _ _))
                  · -- 7
                    intro li a1 W2 hA K hK
                    have e101 : a1.tmps.getD 101 undef = .int .i64 s.wt := hA.val 6 101 (by kernel_rfl) (by kernel_rfl)
                    have e101' := e101
                    rw [Array.getD_eq_getD_getElem?] at e101'
                    refine opStep none 0 rfl rfl (fun c hc => by cases hc) ?_
                    go_simp
                    exact hK _ _ ⟨_, rfl, hA.st.size, Blk.new _ _ _⟩ (Chg.of_below (below_box _ _)) (hA.ph.other (by decide) (by decide) (by decide) (by decide) (below_box _ _))
                  · -- 8
                    intro li a1 W2 hA K hK
                    have e95 : a1.tmps.getD 95 undef = u12 := hA.val 0 95 (by kernel_rfl) (by kernel_rfl)
                    obtain ⟨gl102, e102, h102⟩ := hA.val 7 102 (by kernel_rfl) (by kernel_rfl)
                    have hr := hA.ph.r6
                    rw [show li.getD 8 false = false from hA.new] at hr
                    simp only [Bool.false_eq_true, if_false] at hr
                    obtain ⟨v', w', hrun, ho', hg', _, hf'⟩ := run_append_own_at (P := Try.prog) W2 B 22 22 3 i0 (.int .i64 0) 1 8 Try.underlying22 HIN.out.1 HIN.out.2.1 HIN.out.2.2.1 HIN.out.2.2.2 rfl (by decide) u12 _ _ hr ⟨gl102, 0, none⟩ 1 1 [.int .i64 s.wt] rfl (one_cell h102.2) (by intro u hu; simp at hu; subst hu; rfl) (by simp only [maxLen]; omega) (by omega) (by have := hA.st.size; have := HBS.out; omega)
                    refine opValue none 0 rfl rfl (fun c hc => by cases hc) (v := v') (W' := w') (by simp [execOp, resolve, invoke, builtin, Act.eval, e95, e102, hrun, Result.andThen]) ?_
                    exact hK v' w' ⟨v', rfl, trivial⟩ (Chg.of_grown hg' (fun q e => .inl e.symm)) (hA.ph.step6 hA.new (by rw [hA.lsize]; decide) (by rw [hA.size]; show 103 < 155; decide) ho' hg' hf')
                  · -- 9
                    intro li a1 W2 hA K hK
                    have e13 := hA.par 13 (by kernel_rfl)
                    refine opStep none 0 rfl rfl (fun c hc => by cases hc) ?_
                    go_simp
                    exact hK _ _ rfl Chg.refl (hA.ph.other (by decide) (by decide) (by decide) (by decide) (Below.refl _ _))
                  · -- 10
                    intro li a1 W2 hA K hK
                    have e8 := hA.par 8 (by kernel_rfl)
                    refine opStep none 0 rfl rfl (fun c hc => by cases hc) ?_
                    go_simp
                    exact hK _ _ rfl Chg.refl (hA.ph.other (by decide) (by decide) (by decide) (by decide) (Below.refl _ _))
                  · -- 11
                    intro li a1 W2 hA K hK
                    have e14 := hA.par 14 (by kernel_rfl)
                    refine opStep none 0 rfl rfl (fun c hc => by cases hc) ?_
                    go_simp
                    exact hK _ _ rfl Chg.refl (hA.ph.other (by decide) (by decide) (by decide) (by decide) (Below.refl _ _))
                  · -- 12
                    intro li a1 W2 hA K hK
                    have e105 : a1.tmps.getD 105 undef = .slice (some a5) m.ss.length c5 := hA.val 10 105 (by kernel_rfl) (by kernel_rfl)
                    have e106 : a1.tmps.getD 106 undef = .int .i64 (j : Int) := hA.val 11 106 (by kernel_rfl) (by kernel_rfl)
                    refine opStep none 0 rfl rfl (fun c hc => by cases hc) ?_
                    go_simp
                    exact hK _ _ (by first | rfl | exact congrArg (fun q => Value.pointer (some q)) (add_blk _ _)) Chg.refl (hA.ph.other (by decide) (by decide) (by decide) (by decide) (Below.refl _ _))
                  · -- 13
                    intro li a1 W2 hA K hK
                    have e107 : a1.tmps.getD 107 undef = .pointer (some (a5.add j)) := hA.val 12 107 (by kernel_rfl) (by kernel_rfl)
                    have hbl := HBL.out _ hA.st
                    have q1 := (hbl.cell HAL5.out).trans HF5.out
                    refine opStep none 0 rfl rfl (fun c hc => by cases hc) ?_
                    go_simp
                    exact hK _ _ rfl Chg.refl (hA.ph.other (by decide) (by decide) (by decide) (by decide) (Below.refl _ _))
                  · -- 14
                    intro li a1 W2 hA K hK
                    have e108 : a1.tmps.getD 108 undef = .int .i64 y := hA.val 13 108 (by kernel_rfl) (by kernel_rfl)
                    have e108' := e108
                    rw [Array.getD_eq_getD_getElem?] at e108'
                    refine opStep none 0 rfl rfl (fun c hc => by cases hc) ?_
                    go_simp
                    exact hK _ _ ⟨_, rfl, hA.st.size, Blk.new _ _ _⟩ (Chg.of_below (below_box _ _)) (hA.ph.other (by decide) (by decide) (by decide) (by decide) (below_box _ _))
                  · -- 15
                    intro li a1 W2 hA K hK
                    have e104 : a1.tmps.getD 104 undef = u13 := hA.val 9 104 (by kernel_rfl) (by kernel_rfl)
                    obtain ⟨gm109, e109, h109⟩ := hA.val 14 109 (by kernel_rfl) (by kernel_rfl)
                    have hr := hA.ph.r7
                    rw [show li.getD 15 false = false from hA.new] at hr
                    simp only [Bool.false_eq_true, if_false] at hr
                    obtain ⟨v', w', hrun, ho', hg', _, hf'⟩ := run_append_own_at (P := Try.prog) W2 B 22 22 3 i0 (.int .i64 0) 1 8 Try.underlying22 HIN.out.1 HIN.out.2.1 HIN.out.2.2.1 HIN.out.2.2.2 rfl (by decide) u13 _ _ hr ⟨gm109, 0, none⟩ 1 1 [.int .i64 y] rfl (one_cell h109.2) (by intro u hu; simp at hu; subst hu; rfl) (by simp only [maxLen]; omega) (by omega) (by have := hA.st.size; have := HBS.out; omega)
                    refine opValue none 0 rfl rfl (fun c hc => by cases hc) (v := v') (W' := w') (by simp [execOp, resolve, invoke, builtin, Act.eval, e104, e109, hrun, Result.andThen]) ?_
                    exact hK v' w' ⟨v', rfl, trivial⟩ (Chg.of_grown hg' (fun q e => .inr e.symm)) (hA.ph.step7 hA.new (by rw [hA.lsize]; decide) (by rw [hA.size]; show 110 < 155; decide) ho' hg' hf')
                · intro li a1 W2 hD
                  have r6 := hD.ph.r6
                  have r7 := hD.ph.r7
                  have rne := hD.ph.ne
                  rw [hD.all 8 (by decide)] at r6 rne
                  rw [hD.all 15 (by decide)] at r7 rne
                  simp only [if_true] at r6 r7 rne
                  obtain ⟨y6, hy6⟩ : ∃ u, a1.tmps.getD 103 undef = u := ⟨_, rfl⟩
                  obtain ⟨y7, hy7⟩ : ∃ u, a1.tmps.getD 110 undef = u := ⟨_, rfl⟩
                  rw [hy6] at r6 rne
                  rw [hy7] at r7 rne
                  have hbl := HBL.out _ hD.st
                  have HNX := hid (show W2.ownsRow B 3 1 y6 (wsTo m d (j + 1)).length ((wsTo m d (j + 1)).map (Value.int .i64)) ∧ W2.ownsRow B 3 1 y7 (atTo m d (j + 1)).length ((atTo m d (j + 1)).map fun i => Value.int .i64 ((car m).getD i 0)) ∧ (y6.ownBlock = none ∨ y6.ownBlock ≠ y7.ownBlock) ∧ Below B wd W2 from ⟨by rw [HTK.out.2, List.length_append, List.map_append]; exact r6, by rw [HTK.out.1, List.length_append, List.map_append]; rw [← HYV.out] at r7; exact r7, rne, HROW.out.2.2.2.trans hbl⟩)
                  have hkp2 := hD.keeps (ds := [95, 96, 97, 98, 99, 100, 101, 102, 103, 104, 105, 106, 107, 108, 109, 110, 12, 13]) (by kernel_rfl)
                  have hds := hD.size
                  have hsz9 : a1.tmps.size = 155 := hD.size
                  have hdd := hD.defers
                  clear r6 r7 rne hbl
                  refine tail_val (i := 16) (v := y6) (W' := W2) none 0 rfl rfl rfl (fun c hc => by cases hc) (by go_simp) (by rw [hsz9]; decide) ?_
                  intro a3 s3 d3 f3 o3
                  have hkp3 := keeps_then hkp2 o3 (by decide)
                  have hy7' : a3.tmps.getD 110 undef = y7 := (o3 110 (by decide)).trans hy7
                  refine tail_val (i := 17) (v := y7) (W' := W2) none 0 rfl rfl rfl (fun c hc => by cases hc) (by go_simp) (by rw [s3, hsz9]; decide) ?_
                  intro a4 s4 d4 f4 o4
                  have hkp4 := keeps_then hkp3 o4 (by decide)
                  have e := act_mix [95, 96, 97, 98, 99, 100, 101, 102, 103, 104, 105, 106, 107, 108, 109, 110, 12, 13] (s4.trans (s3.trans hds)) (d4.trans (d3.trans hdd)) (fun i _ hc => hkp4 i hc)
                  have hg0 : (fun i => a4.tmps.getD i undef) 12 = y6 := (o4 12 (by decide)).trans f3
                  have hg1 : (fun i => a4.tmps.getD i undef) 13 = y7 := f4
                  generalize (fun i => a4.tmps.getD i undef) = g' at e hg0 hg1
                  refine wpListIn_nil ?_
                  rw [e]
                  clear e hD hkp2 hkp3 hkp4 s3 d3 f3 o3 s4 d4 f4 o4 hds hdd hsz9 hy6 hy7 hy7'
                  simp only [mix, List.contains_cons, List.contains_nil, Nat.reduceAdd, Nat.reduceBEq, Bool.or_false, Bool.or_true, cond_true, cond_false, hg0, hg1]
                  clear hg0 hg1
                  go_wp2
                  go_roundw
                  case rel => exact ⟨j + 1, by omega, by go_num, HNX.out⟩
                  case measure => first | (simp [intOf]; done) | (simp [intOf]; omega)
              · have hoB : (s.o == (d : Int)) = false := by simpa using hod
                have HTK := hid (atTo_skip hs hod)
                clear hs hod hr6 hr7 hne hbj f2
                go_wp2
                clear t0 t1 t2 t3 f0
                go_roundw
                case rel => exact ⟨j + 1, by omega, by go_num, by rw [HTK.out.2]; exact HROW.out.1, by rw [HTK.out.1]; exact HROW.out.2.1, HROW.out.2.2⟩
                case measure => first | (simp [intOf]; done) | (simp [intOf]; omega)
            · have hjI : decide ((j : Int) < (m.ss.length : Int)) = false := by simp; omega
              obtain rfl : j = m.ss.length := by omega
              clear hr6 hr7 hne hbj
              obtain ⟨Aw, cw, ew, w1, w2, w3, _, _⟩ := own_ints rfl HROW.out.1
              have hpm : (atTo m d m.ss.length).map (fun i => Value.int .i64 ((car m).getD i 0)) = (parts m d).map (Value.int .i64) := by rw [← car_parts HLD.out, List.map_map]; rfl
              have hr7 := HROW.out.2.1
              rw [hpm] at hr7
              obtain ⟨Ap, cp, ep, p1, p2, p3, _, _⟩ := own_ints (parts_len m d).symm hr7
              have HWS := hid (show IntsAt (Aw, cw) (wsTo m d m.ss.length) wr from ⟨w3, w1, w2⟩)
              have HPT := hid (show IntsAt (Ap, cp) (parts m d) wr from ⟨p3, p1, p2⟩)
              obtain ⟨z, hz⟩ : ∃ z, m.old[d]? = some z := ⟨_, List.getElem?_eq_getElem hlt⟩
              have fz := int_at9 HAJ.out.io hz
              have HMZ := hid (MapD.at_eq hz)
              subst ew ep
              rw [ws_len]
              have hbw : Below w6.heap.size w6 wr := HR.out.trans ((show Below wd.heap.size wd wr by rw [HBD.out]; exact HROW.out.2.2.2).mono HR.out.size)
              have HBZ := hid hbw
              clear hpm hr7 w1 w2 w3 p1 p2 p3 hz hbw
              have K1 := hid (div_parts OK.out HLD.out HWS.out)
              rw [HMZ.out] at K1
              go_wp2_with fail
              refine K1.out.mono ?_
              rintro e v1 ⟨y, rfl, hy, hb⟩
              have HY := hid hy
              have HP2 := hid (HPT.out.at_ hb)
              have HB1 := hid (HBZ.out.trans (hb.mono HBZ.out.size))
              clear hy hb K1 t0 t1 t2 t3 fz
              have K2 := hid (ints_same HY.out HP2.out)
              go_wp2_with fail
              refine K2.out.mono ?_
              rintro e v2 ⟨rfl, hb⟩
              have HB2 := hid (HB1.out.trans (hb.mono HB1.out.size))
              clear hb K2
              go_wp2
              go_roundw
              case rel => exact ⟨d + 1, by omega, by go_num, HB2.out⟩
              case measure => first | (simp [intOf]; done) | (simp [intOf]; omega)
        · have hdI : decide ((d : Int) < (m.old.length : Int)) = false := by simp; omega
          have BYR := hid (BY6.out.trans (HR.out.mono BY6.out.size))
          have XBR := hid (XB6.out.keep HR.out)
          obtain ⟨x0, x1, x2, x3⟩ := XBR.out.c4
          have P_0 := hid (P_0.out.at_ HR.out)
          have Q_0 := hid (Q_0.out.at_ HR.out)
          by_cases hcx : chkM x = 0
          · have HXC := hid hcx
            clear hcx
            have K81 := hid (mfault_any x (some ao) c (some ⟨g, 0, none⟩) cap A3 c3 wr (HXA.out.at_ BYR.out).toMIn)
            rw [HXC.out] at K81
            go_wp2_with fail
            refine K81.out.mono ?_
            rintro e w81 ⟨rfl, hb⟩
            have HB81 := hid (HBR.out.trans (hb.mono HBR.out.size))
            have HT81 := hid (HTR.out.keep hb)
            have BY81 := hid (BYR.out.trans (hb.mono BYR.out.size))
            have XB81 := hid (XBR.out.keep hb)
            have Q_81 := hid (Q_0.out.at_ hb)
            have P_81 := hid (P_0.out.at_ hb)
            clear hb K81 t0 t1 t2 t3 x0 x1 x2 x3
            obtain ⟨t0, t1, t2, t3⟩ := HT81.out.c4
            obtain ⟨x0, x1, x2, x3⟩ := XB81.out.c4
            have K82 := hid (map_thin (HXA.out.at_ BY81.out) HXT.out)
            go_wp2_with fail
            refine K82.out.mono ?_
            rintro e w82 ⟨P82, Q82, R82, rfl, hm, hb⟩
            have HB82 := hid (HB81.out.trans (hb.mono HB81.out.size))
            have HT82 := hid (HT81.out.keep hb)
            have BY82 := hid (BY81.out.trans (hb.mono BY81.out.size))
            have XB82 := hid (XB81.out.keep hb)
            have Q_82 := hid (Q_81.out.at_ hb)
            have P_82 := hid (P_81.out.at_ hb)
            have M82 := hid hm
            clear hm
            clear hb K82 t0 t1 t2 t3 x0 x1 x2 x3
            obtain ⟨t0, t1, t2, t3⟩ := HT82.out.c4
            obtain ⟨x0, x1, x2, x3⟩ := XB82.out.c4
            have K83 := hid (carry_good M82.out HXC.out)
            unfold GivesCar at K83
            rw [HSX.out, HCX.out, HCL.out] at K83
            go_wp2_with fail
            refine K83.out.mono ?_
            rintro e w83 ⟨⟨A7, c7⟩, ⟨A8, c8⟩, rfl, hp, hq, hb⟩
            have HB83 := hid (HB82.out.trans (hb.mono HB82.out.size))
            have HT83 := hid (HT82.out.keep hb)
            have BY83 := hid (BY82.out.trans (hb.mono BY82.out.size))
            have XB83 := hid (XB82.out.keep hb)
            have Q_83 := hid (Q_82.out.at_ hb)
            have P_83 := hid (P_82.out.at_ hb)
            have HP7 := hid hp
            have HQ8 := hid hq
            clear hp hq
            clear hb K83 t0 t1 t2 t3 x0 x1 x2 x3
            obtain ⟨t0, t1, t2, t3⟩ := HT83.out.c4
            obtain ⟨x0, x1, x2, x3⟩ := XB83.out.c4
            have P7_0 := hid (HP7.out)
            have Q8_0 := hid (HQ8.out)
            have K84 := hid (ints_same P_83.out P7_0.out)
            rw [HCL.out] at K84
            go_wp2_with fail
            refine K84.out.mono ?_
            rintro e w84 ⟨rfl, hb⟩
            have HB84 := hid (HB83.out.trans (hb.mono HB83.out.size))
            have HT84 := hid (HT83.out.keep hb)
            have BY84 := hid (BY83.out.trans (hb.mono BY83.out.size))
            have XB84 := hid (XB83.out.keep hb)
            have Q8_84 := hid (Q8_0.out.at_ hb)
            have P7_84 := hid (P7_0.out.at_ hb)
            have Q_84 := hid (Q_83.out.at_ hb)
            have P_84 := hid (P_83.out.at_ hb)
            clear hb K84 t0 t1 t2 t3 x0 x1 x2 x3
            obtain ⟨t0, t1, t2, t3⟩ := HT84.out.c4
            obtain ⟨x0, x1, x2, x3⟩ := XB84.out.c4
            have K85 := hid (ints_same Q_84.out Q8_84.out)
            go_wp2_with fail
            refine K85.out.mono ?_
            rintro e w85 ⟨rfl, hb⟩
            have HB85 := hid (HB84.out.trans (hb.mono HB84.out.size))
            have HT85 := hid (HT84.out.keep hb)
            have BY85 := hid (BY84.out.trans (hb.mono BY84.out.size))
            have XB85 := hid (XB84.out.keep hb)
            have Q8_85 := hid (Q8_84.out.at_ hb)
            have P7_85 := hid (P7_84.out.at_ hb)
            have Q_85 := hid (Q_84.out.at_ hb)
            have P_85 := hid (P_84.out.at_ hb)
            clear hb K85 t0 t1 t2 t3 x0 x1 x2 x3
            obtain ⟨t0, t1, t2, t3⟩ := HT85.out.c4
            obtain ⟨x0, x1, x2, x3⟩ := XB85.out.c4
            have K86 := hid (awake_any w85)
            go_wp2_with fail
            refine K86.out.mono ?_
            rintro e w86 ⟨rfl, hb⟩
            have HB86 := hid (HB85.out.trans (hb.mono HB85.out.size))
            have HT86 := hid (HT85.out.keep hb)
            have BY86 := hid (BY85.out.trans (hb.mono BY85.out.size))
            have XB86 := hid (XB85.out.keep hb)
            have Q8_86 := hid (Q8_85.out.at_ hb)
            have P7_86 := hid (P7_85.out.at_ hb)
            have Q_86 := hid (Q_85.out.at_ hb)
            have P_86 := hid (P_85.out.at_ hb)
            clear hb K86 t0 t1 t2 t3 x0 x1 x2 x3
            obtain ⟨t0, t1, t2, t3⟩ := HT86.out.c4
            obtain ⟨x0, x1, x2, x3⟩ := XB86.out.c4
            clear t0 t1 t2 t3 x0 x1 x2 x3
            go_wp2
            go_ret
            exact ⟨rfl, HB86.out⟩
          · obtain ⟨zx, hzx⟩ : ∃ z, chkM x = z := ⟨_, rfl⟩
            have hzn : (zx != 0) = true := by rw [← hzx]; simpa using hcx
            have HZX := hid hzx
            clear hcx hzx
            have K81 := hid (mfault_any x (some ao) c (some ⟨g, 0, none⟩) cap A3 c3 wr (HXA.out.at_ BYR.out).toMIn)
            rw [HZX.out] at K81
            go_wp2_with fail
            refine K81.out.mono ?_
            rintro e w81 ⟨rfl, hb⟩
            have HB81 := hid (HBR.out.trans (hb.mono HBR.out.size))
            have HT81 := hid (HTR.out.keep hb)
            have BY81 := hid (BYR.out.trans (hb.mono BYR.out.size))
            have XB81 := hid (XBR.out.keep hb)
            have Q_81 := hid (Q_0.out.at_ hb)
            have P_81 := hid (P_0.out.at_ hb)
            clear hb K81 t0 t1 t2 t3 x0 x1 x2 x3
            obtain ⟨t0, t1, t2, t3⟩ := HT81.out.c4
            obtain ⟨x0, x1, x2, x3⟩ := XB81.out.c4
            have K82 := hid (awake_any w81)
            go_wp2_with fail
            refine K82.out.mono ?_
            rintro e w82 ⟨rfl, hb⟩
            have HB82 := hid (HB81.out.trans (hb.mono HB81.out.size))
            have HT82 := hid (HT81.out.keep hb)
            have BY82 := hid (BY81.out.trans (hb.mono BY81.out.size))
            have XB82 := hid (XB81.out.keep hb)
            have Q_82 := hid (Q_81.out.at_ hb)
            have P_82 := hid (P_81.out.at_ hb)
            clear hb K82 t0 t1 t2 t3 x0 x1 x2 x3
            obtain ⟨t0, t1, t2, t3⟩ := HT82.out.c4
            obtain ⟨x0, x1, x2, x3⟩ := XB82.out.c4
            clear t0 t1 t2 t3 x0 x1 x2 x3
            go_wp2
            go_ret
            exact ⟨rfl, HB82.out⟩

theorem scaled_any9 (m : MapD) (A : Option Addr) (c : Nat) (A2 : Option Addr) (c2 : Nat) (A3 : Option Addr) (c3 : Nat) (q : Int) (w : World) (h : MArg m A c A2 c2 A3 c3 w) (hq0 : 0 ≤ q) (hq1 : q ≤ 255) :
    Calls Try.prog 7 #[.agg #[.slice A m.old.length c, .int .i64 m.nw, .slice A2 m.ss.length c2, .slice A3 m.js.length c3], .int .u8 q] w fun e w' => e = .returned (.bool true) ∧ Below w.heap.size w w' := by
  cases ht : thinM m
  · exact sca_not m A c A2 c2 A3 c3 q w h hq0 hq1 ht
  · by_cases hc : chkM m = 0
    · exact sca_good m A c A2 c2 A3 c3 q w h hq0 hq1 ht hc
    · exact sca_bad m A c A2 c2 A3 c3 q w h hq0 hq1 ht _ hc rfl

open Go.ChangeShapes Go.WideShapes Go.ChangeAt in
set_option maxRecDepth 100000 in
theorem scaleds_lifted (os : Os) (started : os.Started) (H : Type) (enc : TypeId × Value → H) :
    ReturnsInHanded {} Try.checked os 7 .any (Rows.borderScaledSpec.pre6 enc Try.prog Try.f7 Rows.borderScaledRow.domain false) (Rows.borderScaledSpec.post enc Try.prog Try.f7 false true false false) := by
  refine returnsInHanded_of_change (C := Try.checked) own started (by kernel_rfl) Try.func7
    (ChangeSpec.witness6 (enc := enc) (C := Try.checked) false ⟨#[], #[.agg #[.slice none 0 0, .int .i64 0, .slice none 0 0, .slice none 0 0], .int .u8 0], []⟩ 8 (by kernel_rfl) (by kernel_rfl) (by kernel_rfl) (by kernel_rfl)) ?_
  intro W base args ds gs before hval0 hW hcnd _
  have hval : ∀ (j : Nat) t v, Try.f7.params[j]? = some t → args[j]? = some v → Value.okWide Try.prog W .any base t v := hval0
  have hW' := hW
  obtain ⟨p, q, hA0, hV, rfl, hfz, hnd⟩ := hW
  have hA : DataW.TrodAll enc Try.prog W 0 (fun _ => true) true Try.f7.params.toList args.toList ds p := hA0
  rw [Try.params7] at hA hval
  obtain ⟨v0, vs0, d0, ds0, p0, q0, hargs, rfl, rfl, h0, r0⟩ := trodAll_cons hA
  obtain ⟨v1, vs1, d1, ds1, p1, q1, rfl, rfl, rfl, h1, r1⟩ := trodAll_cons r0
  obtain ⟨rfl, rfl, rfl⟩ := trodAll_nil r1
  obtain rfl : args = #[v0, v1] := by cases args; simp_all
  obtain ⟨rfl, rfl⟩ := trodVars_none hV
  obtain ⟨m, A, c, A2, c2, A3, c3, rfl, ht⟩ := open_map (hval 0 26 v0 rfl rfl) h0
  obtain ⟨q9, rfl, rfl, rfl, wk1⟩ := open_int Try.underlying5 (hval 1 5 v1 rfl rfl) h1
  have hbq9 : 0 ≤ q9 ∧ q9 ≤ 255 := by
    have h : decide (IntKind.u8.min ≤ q9) = true ∧ decide (q9 ≤ IntKind.u8.max) = true := by simpa [Lit.wf] using wk1
    have h2 := of_decide_eq_true h.1
    have h3 := of_decide_eq_true h.2
    have e1 : IntKind.u8.min = 0 := by decide
    have e2 : IntKind.u8.max = 255 := by decide
    omega
  refine (scaled_any9 m A c A2 c2 A3 c3 q9 W ht hbq9.1 hbq9.2).mono fun e W' ⟨he, hb⟩ => ⟨_, he, ?_⟩
  exact law_post laid_out rfl rfl (by kernel_rfl) hW' rfl hb

theorem scaleds_over : Rows.borderScaledRow.holds Try.pinned (OpenSpec.ofChange Rows.borderScaledSpec) :=
  OpenClaim.holds_of_wide 7 Try.f7 rfl rfl rfl rfl rfl rfl rfl ⟨rfl, rfl, rfl, rfl, rfl⟩ rfl rfl rfl rfl rfl (by kernel_rfl) Try.func7 (by kernel_rfl)
    (of_decide_eq_true (by kernel_rfl)) (by unfold Func.isWrapper; first | (rw [if_pos (by decide +kernel)]; kernel_rfl) | (rw [if_neg (by decide +kernel)]; exact ⟨rfl, rfl⟩))
    (fun os started H enc _ => scaleds_lifted os started H enc)
/-- the statement -/
theorem border_scaled : Rows.BorderScaledSaid := scaleds_over
#print axioms border_scaled
end Go.Proofs.Ytoeabajigfdkaaa
