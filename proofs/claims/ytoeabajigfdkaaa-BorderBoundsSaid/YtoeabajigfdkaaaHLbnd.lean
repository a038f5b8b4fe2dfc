/- For every map, the bounds of its streets and new districts, and whether numbers are a truth of it, are as the reference says: the statement BorderBounds. No condition. -/
import Derived.Test.YtoeabajigfdkaaaG3
import Derived.Test.YtoeabajigfdkaaaG15
namespace Go.Proofs.Ytoeabajigfdkaaa
open Go.RowKit Go.Shelf

set_option maxRecDepth 100000 in
set_option maxHeartbeats 4000000 in
theorem bndw_not (m : MapD) (A : Option Addr) (c : Nat) (A2 : Option Addr) (c2 : Nat) (A3 : Option Addr) (c3 : Nat) (Ax : Option Addr) (cx : Nat) (xs : List Int) (w : World) (h : MArg m A c A2 c2 A3 c3 w) (hx : IntsAt (Ax, cx) xs w) (hx0 : Ax = none → cx = 0) (ht : thinM m = false) :
    Calls Try.prog 12 #[.agg #[.slice A m.old.length c, .int .i64 m.nw, .slice A2 m.ss.length c2, .slice A3 m.js.length c3], .slice Ax xs.length cx] w fun e w' => e = .returned (.bool true) ∧ Below w.heap.size w w' := by
  have hB := below_box (w := w) #[.slice A m.old.length c, .int .i64 m.nw, .slice A2 m.ss.length c2, .slice A3 m.js.length c3] 26
  have hT := Blk.new w 26 #[.slice A m.old.length c, .int .i64 m.nw, .slice A2 m.ss.length c2, .slice A3 m.js.length c3]
  have HB0 := hid hB
  have HT0 := hid hT
  have HH := hid h
  obtain ⟨t0, t1, t2, t3⟩ := hT.c4
  clear h hB hT
  have HX := hid hx
  have HX0 := hid hx0
  clear hx hx0
  have HTN := hid ht
  clear ht
  go_enter Try.func12, Try.ntmps12
  have K1 := hid (thin_any m A c A2 c2 A3 c3 (w.alloc (.cells #[.slice A m.old.length c, .int .i64 m.nw, .slice A2 m.ss.length c2, .slice A3 m.js.length c3] 26)))
  rw [HTN.out] at K1
  go_wp2_with fail
  refine K1.out.mono ?_
  rintro e w1 ⟨rfl, hb⟩
  have HB1 := hid (HB0.out.trans (hb.mono HB0.out.size))
  have HT1 := hid (HT0.out.keep hb)
  clear hb K1 t0 t1 t2 t3
  obtain ⟨t0, t1, t2, t3⟩ := HT1.out.c4
  have K2 := hid (awake_any w1)
  go_wp2_with fail
  refine K2.out.mono ?_
  rintro e w2 ⟨rfl, hb⟩
  have HB2 := hid (HB1.out.trans (hb.mono HB1.out.size))
  have HT2 := hid (HT1.out.keep hb)
  clear hb K2 t0 t1 t2 t3
  obtain ⟨t0, t1, t2, t3⟩ := HT2.out.c4
  clear t0 t1 t2 t3
  go_wp2
  go_ret
  exact ⟨rfl, HB2.out⟩

set_option maxRecDepth 100000 in
set_option maxHeartbeats 4000000 in
theorem bndw_long (m : MapD) (A : Option Addr) (c : Nat) (A2 : Option Addr) (c2 : Nat) (A3 : Option Addr) (c3 : Nat) (Ax : Option Addr) (cx : Nat) (xs : List Int) (w : World) (h : MArg m A c A2 c2 A3 c3 w) (hx : IntsAt (Ax, cx) xs w) (hx0 : Ax = none → cx = 0) (ht : thinM m = true) (hl : 12 < xs.length) :
    Calls Try.prog 12 #[.agg #[.slice A m.old.length c, .int .i64 m.nw, .slice A2 m.ss.length c2, .slice A3 m.js.length c3], .slice Ax xs.length cx] w fun e w' => e = .returned (.bool true) ∧ Below w.heap.size w w' := by
  have hB := below_box (w := w) #[.slice A m.old.length c, .int .i64 m.nw, .slice A2 m.ss.length c2, .slice A3 m.js.length c3] 26
  have hT := Blk.new w 26 #[.slice A m.old.length c, .int .i64 m.nw, .slice A2 m.ss.length c2, .slice A3 m.js.length c3]
  have HB0 := hid hB
  have HT0 := hid hT
  have HH := hid h
  obtain ⟨t0, t1, t2, t3⟩ := hT.c4
  clear h hB hT
  have HX := hid hx
  have HX0 := hid hx0
  clear hx hx0
  have HTN := hid ht
  have hlB : decide ((12 : Int) < (xs.length : Int)) = true := by simp; omega
  clear ht
  go_enter Try.func12, Try.ntmps12
  have K1 := hid (thin_any m A c A2 c2 A3 c3 (w.alloc (.cells #[.slice A m.old.length c, .int .i64 m.nw, .slice A2 m.ss.length c2, .slice A3 m.js.length c3] 26)))
  rw [HTN.out] at K1
  go_wp2_with fail
  refine K1.out.mono ?_
  rintro e w1 ⟨rfl, hb⟩
  have HB1 := hid (HB0.out.trans (hb.mono HB0.out.size))
  have HT1 := hid (HT0.out.keep hb)
  clear hb K1 t0 t1 t2 t3
  obtain ⟨t0, t1, t2, t3⟩ := HT1.out.c4
  have K2 := hid (awake_any w1)
  go_wp2_with fail
  refine K2.out.mono ?_
  rintro e w2 ⟨rfl, hb⟩
  have HB2 := hid (HB1.out.trans (hb.mono HB1.out.size))
  have HT2 := hid (HT1.out.keep hb)
  clear hb K2 t0 t1 t2 t3
  obtain ⟨t0, t1, t2, t3⟩ := HT2.out.c4
  clear t0 t1 t2 t3
  go_wp2
  go_ret
  exact ⟨rfl, HB2.out⟩

set_option maxRecDepth 100000 in
set_option maxHeartbeats 4000000 in
theorem bndw_bad (m : MapD) (A : Option Addr) (c : Nat) (A2 : Option Addr) (c2 : Nat) (A3 : Option Addr) (c3 : Nat) (Ax : Option Addr) (cx : Nat) (xs : List Int) (w : World) (h : MArg m A c A2 c2 A3 c3 w) (hx : IntsAt (Ax, cx) xs w) (hx0 : Ax = none → cx = 0) (ht : thinM m = true) (hl : ¬ 12 < xs.length) (hc : chkM m ≠ 0) :
    Calls Try.prog 12 #[.agg #[.slice A m.old.length c, .int .i64 m.nw, .slice A2 m.ss.length c2, .slice A3 m.js.length c3], .slice Ax xs.length cx] w fun e w' => e = .returned (.bool true) ∧ Below w.heap.size w w' := by
  have hB := below_box (w := w) #[.slice A m.old.length c, .int .i64 m.nw, .slice A2 m.ss.length c2, .slice A3 m.js.length c3] 26
  have hT := Blk.new w 26 #[.slice A m.old.length c, .int .i64 m.nw, .slice A2 m.ss.length c2, .slice A3 m.js.length c3]
  have HB0 := hid hB
  have HT0 := hid hT
  have HH := hid h
  obtain ⟨t0, t1, t2, t3⟩ := hT.c4
  clear h hB hT
  have HX := hid hx
  have HX0 := hid hx0
  clear hx hx0
  have HTN := hid ht
  have HTH := hid (thinM_iff.1 ht)
  have HLX := hid hl
  have hlB : decide ((12 : Int) < (xs.length : Int)) = false := by simp; omega
  have HCC := hid (cst_bad hc)
  have HCN := hid (show cstM m ≠ 0 by rw [cst_bad hc]; exact hc)
  have HTB := hid (show truB m xs = false from truB_false fun h => hc h.1)
  have hne : (chkM m != 0) = true := by simpa using hc
  have hnf : (chkM m == 0) = false := by simpa using hc
  clear ht hc
  go_enter Try.func12, Try.ntmps12
  have K1 := hid (thin_any m A c A2 c2 A3 c3 (w.alloc (.cells #[.slice A m.old.length c, .int .i64 m.nw, .slice A2 m.ss.length c2, .slice A3 m.js.length c3] 26)))
  rw [HTN.out] at K1
  go_wp2_with fail
  refine K1.out.mono ?_
  rintro e w1 ⟨rfl, hb⟩
  have HB1 := hid (HB0.out.trans (hb.mono HB0.out.size))
  have HT1 := hid (HT0.out.keep hb)
  clear hb K1 t0 t1 t2 t3
  obtain ⟨t0, t1, t2, t3⟩ := HT1.out.c4
  have K2 := hid (map_thin (HH.out.at_ HB1.out) HTH.out)
  go_wp2_with fail
  refine K2.out.mono ?_
  rintro e w2 ⟨P2, Q2, R2, rfl, hm, hb⟩
  have HB2 := hid (HB1.out.trans (hb.mono HB1.out.size))
  have HT2 := hid (HT1.out.keep hb)
  have M2 := hid hm
  clear hm
  clear hb K2 t0 t1 t2 t3
  obtain ⟨t0, t1, t2, t3⟩ := HT2.out.c4
  have K3 := hid (streets_bad M2.out HCN.out)
  rw [HCC.out] at K3
  go_wp2_with fail
  refine K3.out.mono ?_
  rintro e w3 ⟨rfl, hb⟩
  have HB3 := hid (HB2.out.trans (hb.mono HB2.out.size))
  have HT3 := hid (HT2.out.keep hb)
  clear hb K3 t0 t1 t2 t3
  obtain ⟨t0, t1, t2, t3⟩ := HT3.out.c4
  have K4 := hid (map_thin (HH.out.at_ HB3.out) HTH.out)
  go_wp2_with fail
  refine K4.out.mono ?_
  rintro e w4 ⟨P4, Q4, R4, rfl, hm, hb⟩
  have HB4 := hid (HB3.out.trans (hb.mono HB3.out.size))
  have HT4 := hid (HT3.out.keep hb)
  have M4 := hid hm
  clear hm
  clear hb K4 t0 t1 t2 t3
  obtain ⟨t0, t1, t2, t3⟩ := HT4.out.c4
  have K5 := hid (bounds_bad M4.out HCN.out)
  rw [HCC.out] at K5
  go_wp2_with fail
  refine K5.out.mono ?_
  rintro e w5 ⟨rfl, hb⟩
  have HB5 := hid (HB4.out.trans (hb.mono HB4.out.size))
  have HT5 := hid (HT4.out.keep hb)
  clear hb K5 t0 t1 t2 t3
  obtain ⟨t0, t1, t2, t3⟩ := HT5.out.c4
  have K6 := hid (map_thin (HH.out.at_ HB5.out) HTH.out)
  go_wp2_with fail
  refine K6.out.mono ?_
  rintro e w6 ⟨P6, Q6, R6, rfl, hm, hb⟩
  have HB6 := hid (HB5.out.trans (hb.mono HB5.out.size))
  have HT6 := hid (HT5.out.keep hb)
  have M6 := hid hm
  clear hm
  clear hb K6 t0 t1 t2 t3
  obtain ⟨t0, t1, t2, t3⟩ := HT6.out.c4
  have K7 := hid (lst_i (HX.out.at_ HB6.out) HX0.out (by have := HLX.out; omega))
  go_wp2_with fail
  refine K7.out.mono ?_
  rintro e w7 ⟨z, rfl, hz, hb⟩
  have HB7 := hid (HB6.out.trans (hb.mono HB6.out.size))
  have HT7 := hid (HT6.out.keep hb)
  have HZL := hid hz
  have MM := hid (M6.out.at_ hb)
  clear hz
  clear hb K7 t0 t1 t2 t3
  obtain ⟨t0, t1, t2, t3⟩ := HT7.out.c4
  have K8 := hid (prove_truth_any m P6.1 P6.2 Q6.1 Q6.2 R6.1 R6.2 z.1 z.2 xs w7 MM.out HZL.out.1 HZL.out.2.1 HZL.out.2.2)
  rw [HTB.out] at K8
  go_wp2_with fail
  refine K8.out.mono ?_
  rintro e w8 ⟨rfl, hb⟩
  have HB8 := hid (HB7.out.trans (hb.mono HB7.out.size))
  have HT8 := hid (HT7.out.keep hb)
  clear hb K8 t0 t1 t2 t3
  obtain ⟨t0, t1, t2, t3⟩ := HT8.out.c4
  have K9 := hid (mfault_any m A c A2 c2 A3 c3 w8 (HH.out.at_ HB8.out).toMIn)
  go_wp2_with fail
  refine K9.out.mono ?_
  rintro e w9 ⟨rfl, hb⟩
  have HB9 := hid (HB8.out.trans (hb.mono HB8.out.size))
  have HT9 := hid (HT8.out.keep hb)
  clear hb K9 t0 t1 t2 t3
  obtain ⟨t0, t1, t2, t3⟩ := HT9.out.c4
  have K10 := hid (mconsist_any m A c A2 c2 A3 c3 w9 (HH.out.at_ HB9.out).toMIn)
  rw [HCC.out] at K10
  go_wp2_with fail
  refine K10.out.mono ?_
  rintro e w10 ⟨rfl, hb⟩
  have HB10 := hid (HB9.out.trans (hb.mono HB9.out.size))
  have HT10 := hid (HT9.out.keep hb)
  clear hb K10 t0 t1 t2 t3
  obtain ⟨t0, t1, t2, t3⟩ := HT10.out.c4
  generalize chkM m = z9 at *
  have K11 := hid (awake_any w10)
  go_wp2_with fail
  refine K11.out.mono ?_
  rintro e w11 ⟨rfl, hb⟩
  have HB11 := hid (HB10.out.trans (hb.mono HB10.out.size))
  have HT11 := hid (HT10.out.keep hb)
  clear hb K11 t0 t1 t2 t3
  obtain ⟨t0, t1, t2, t3⟩ := HT11.out.c4
  clear t0 t1 t2 t3
  go_wp2
  go_ret
  exact ⟨rfl, HB11.out⟩

set_option maxRecDepth 100000 in
set_option maxHeartbeats 4000000 in
theorem bndw_unc (m : MapD) (A : Option Addr) (c : Nat) (A2 : Option Addr) (c2 : Nat) (A3 : Option Addr) (c3 : Nat) (Ax : Option Addr) (cx : Nat) (xs : List Int) (w : World) (h : MArg m A c A2 c2 A3 c3 w) (hx : IntsAt (Ax, cx) xs w) (hx0 : Ax = none → cx = 0) (ht : thinM m = true) (hl : ¬ 12 < xs.length) (hc : chkM m = 0) (hz : cstM m ≠ 0) :
    Calls Try.prog 12 #[.agg #[.slice A m.old.length c, .int .i64 m.nw, .slice A2 m.ss.length c2, .slice A3 m.js.length c3], .slice Ax xs.length cx] w fun e w' => e = .returned (.bool true) ∧ Below w.heap.size w w' := by
  have hB := below_box (w := w) #[.slice A m.old.length c, .int .i64 m.nw, .slice A2 m.ss.length c2, .slice A3 m.js.length c3] 26
  have hT := Blk.new w 26 #[.slice A m.old.length c, .int .i64 m.nw, .slice A2 m.ss.length c2, .slice A3 m.js.length c3]
  have HB0 := hid hB
  have HT0 := hid hT
  have HH := hid h
  obtain ⟨t0, t1, t2, t3⟩ := hT.c4
  clear h hB hT
  have HX := hid hx
  have HX0 := hid hx0
  clear hx hx0
  have HTN := hid ht
  have HTH := hid (thinM_iff.1 ht)
  have HLX := hid hl
  have hlB : decide ((12 : Int) < (xs.length : Int)) = false := by simp; omega
  have hz9 : cstM m = 9 := by
    rw [cst_of, if_pos hc] at hz ⊢
    split
    · rename_i h; rw [if_pos h] at hz; exact absurd rfl hz
    · rfl
  have HC := hid hc
  have HZ := hid hz9
  have HCC := hid hz9
  have HCN := hid hz
  have OK := hid (chk_okm hc)
  obtain ⟨b, hb⟩ : ∃ b, trB m xs = b := ⟨_, rfl⟩
  have HTR0 := hid hb
  have HTB := hid (show truB m xs = b by unfold truB; rw [hc, hb]; rfl)
  have hbb : (b != b) = false := by cases b <;> rfl
  clear hb
  clear ht hc hz hz9
  go_enter Try.func12, Try.ntmps12
  have K1 := hid (thin_any m A c A2 c2 A3 c3 (w.alloc (.cells #[.slice A m.old.length c, .int .i64 m.nw, .slice A2 m.ss.length c2, .slice A3 m.js.length c3] 26)))
  rw [HTN.out] at K1
  go_wp2_with fail
  refine K1.out.mono ?_
  rintro e w1 ⟨rfl, hb⟩
  have HB1 := hid (HB0.out.trans (hb.mono HB0.out.size))
  have HT1 := hid (HT0.out.keep hb)
  clear hb K1 t0 t1 t2 t3
  obtain ⟨t0, t1, t2, t3⟩ := HT1.out.c4
  have K2 := hid (map_thin (HH.out.at_ HB1.out) HTH.out)
  go_wp2_with fail
  refine K2.out.mono ?_
  rintro e w2 ⟨P2, Q2, R2, rfl, hm, hb⟩
  have HB2 := hid (HB1.out.trans (hb.mono HB1.out.size))
  have HT2 := hid (HT1.out.keep hb)
  have M2 := hid hm
  clear hm
  clear hb K2 t0 t1 t2 t3
  obtain ⟨t0, t1, t2, t3⟩ := HT2.out.c4
  have K3 := hid (streets_bad M2.out HCN.out)
  rw [HCC.out] at K3
  go_wp2_with fail
  refine K3.out.mono ?_
  rintro e w3 ⟨rfl, hb⟩
  have HB3 := hid (HB2.out.trans (hb.mono HB2.out.size))
  have HT3 := hid (HT2.out.keep hb)
  clear hb K3 t0 t1 t2 t3
  obtain ⟨t0, t1, t2, t3⟩ := HT3.out.c4
  have K4 := hid (map_thin (HH.out.at_ HB3.out) HTH.out)
  go_wp2_with fail
  refine K4.out.mono ?_
  rintro e w4 ⟨P4, Q4, R4, rfl, hm, hb⟩
  have HB4 := hid (HB3.out.trans (hb.mono HB3.out.size))
  have HT4 := hid (HT3.out.keep hb)
  have M4 := hid hm
  clear hm
  clear hb K4 t0 t1 t2 t3
  obtain ⟨t0, t1, t2, t3⟩ := HT4.out.c4
  have K5 := hid (bounds_bad M4.out HCN.out)
  rw [HCC.out] at K5
  go_wp2_with fail
  refine K5.out.mono ?_
  rintro e w5 ⟨rfl, hb⟩
  have HB5 := hid (HB4.out.trans (hb.mono HB4.out.size))
  have HT5 := hid (HT4.out.keep hb)
  clear hb K5 t0 t1 t2 t3
  obtain ⟨t0, t1, t2, t3⟩ := HT5.out.c4
  have K6 := hid (map_thin (HH.out.at_ HB5.out) HTH.out)
  go_wp2_with fail
  refine K6.out.mono ?_
  rintro e w6 ⟨P6, Q6, R6, rfl, hm, hb⟩
  have HB6 := hid (HB5.out.trans (hb.mono HB5.out.size))
  have HT6 := hid (HT5.out.keep hb)
  have M6 := hid hm
  clear hm
  clear hb K6 t0 t1 t2 t3
  obtain ⟨t0, t1, t2, t3⟩ := HT6.out.c4
  have K7 := hid (lst_i (HX.out.at_ HB6.out) HX0.out (by have := HLX.out; omega))
  go_wp2_with fail
  refine K7.out.mono ?_
  rintro e w7 ⟨z, rfl, hz, hb⟩
  have HB7 := hid (HB6.out.trans (hb.mono HB6.out.size))
  have HT7 := hid (HT6.out.keep hb)
  have HZL := hid hz
  have MM := hid (M6.out.at_ hb)
  clear hz
  clear hb K7 t0 t1 t2 t3
  obtain ⟨t0, t1, t2, t3⟩ := HT7.out.c4
  have K8 := hid (prove_truth_any m P6.1 P6.2 Q6.1 Q6.2 R6.1 R6.2 z.1 z.2 xs w7 MM.out HZL.out.1 HZL.out.2.1 HZL.out.2.2)
  rw [HTB.out] at K8
  go_wp2_with fail
  refine K8.out.mono ?_
  rintro e w8 ⟨rfl, hb⟩
  have HB8 := hid (HB7.out.trans (hb.mono HB7.out.size))
  have HT8 := hid (HT7.out.keep hb)
  clear hb K8 t0 t1 t2 t3
  obtain ⟨t0, t1, t2, t3⟩ := HT8.out.c4
  have K9 := hid (mfault_any m A c A2 c2 A3 c3 w8 (HH.out.at_ HB8.out).toMIn)
  rw [HC.out] at K9
  go_wp2_with fail
  refine K9.out.mono ?_
  rintro e w9 ⟨rfl, hb⟩
  have HB9 := hid (HB8.out.trans (hb.mono HB8.out.size))
  have HT9 := hid (HT8.out.keep hb)
  clear hb K9 t0 t1 t2 t3
  obtain ⟨t0, t1, t2, t3⟩ := HT9.out.c4
  have K10 := hid (qistruth_any m A c A2 c2 A3 c3 Ax cx xs w9 (HH.out.at_ HB9.out).toMIn (HX.out.at_ HB9.out).1 (by have := HLX.out; omega) OK.out)
  rw [HTR0.out] at K10
  go_wp2_with fail
  refine K10.out.mono ?_
  rintro e w10 ⟨rfl, hb⟩
  have HB10 := hid (HB9.out.trans (hb.mono HB9.out.size))
  have HT10 := hid (HT9.out.keep hb)
  clear hb K10 t0 t1 t2 t3
  obtain ⟨t0, t1, t2, t3⟩ := HT10.out.c4
  have K11 := hid (mconsist_any m A c A2 c2 A3 c3 w10 (HH.out.at_ HB10.out).toMIn)
  rw [HZ.out] at K11
  go_wp2_with fail
  refine K11.out.mono ?_
  rintro e w11 ⟨rfl, hb⟩
  have HB11 := hid (HB10.out.trans (hb.mono HB10.out.size))
  have HT11 := hid (HT10.out.keep hb)
  clear hb K11 t0 t1 t2 t3
  obtain ⟨t0, t1, t2, t3⟩ := HT11.out.c4
  have K12 := hid (awake_any w11)
  go_wp2_with fail
  refine K12.out.mono ?_
  rintro e w12 ⟨rfl, hb⟩
  have HB12 := hid (HB11.out.trans (hb.mono HB11.out.size))
  have HT12 := hid (HT11.out.keep hb)
  clear hb K12 t0 t1 t2 t3
  obtain ⟨t0, t1, t2, t3⟩ := HT12.out.c4
  clear t0 t1 t2 t3
  go_wp2
  go_ret
  exact ⟨rfl, HB12.out⟩

set_option maxRecDepth 100000 in
set_option maxHeartbeats 4000000 in
theorem bndw_good (m : MapD) (A : Option Addr) (c : Nat) (A2 : Option Addr) (c2 : Nat) (A3 : Option Addr) (c3 : Nat) (Ax : Option Addr) (cx : Nat) (xs : List Int) (w : World) (h : MArg m A c A2 c2 A3 c3 w) (hx : IntsAt (Ax, cx) xs w) (hx0 : Ax = none → cx = 0) (ht : thinM m = true) (hl : ¬ 12 < xs.length) (hc : chkM m = 0) (hz : cstM m = 0) :
    Calls Try.prog 12 #[.agg #[.slice A m.old.length c, .int .i64 m.nw, .slice A2 m.ss.length c2, .slice A3 m.js.length c3], .slice Ax xs.length cx] w fun e w' => e = .returned (.bool true) ∧ Below w.heap.size w w' := by
  have hB := below_box (w := w) #[.slice A m.old.length c, .int .i64 m.nw, .slice A2 m.ss.length c2, .slice A3 m.js.length c3] 26
  have hT := Blk.new w 26 #[.slice A m.old.length c, .int .i64 m.nw, .slice A2 m.ss.length c2, .slice A3 m.js.length c3]
  have HB0 := hid hB
  have HT0 := hid hT
  have HH := hid h
  obtain ⟨t0, t1, t2, t3⟩ := hT.c4
  clear h hB hT
  have HX := hid hx
  have HX0 := hid hx0
  clear hx hx0
  have HTN := hid ht
  have HTH := hid (thinM_iff.1 ht)
  have HLX := hid hl
  have hlB : decide ((12 : Int) < (xs.length : Int)) = false := by simp; omega
  have HC := hid hc
  have HZ := hid hz
  have OK := hid (chk_okm hc)
  obtain ⟨b, hb⟩ : ∃ b, trB m xs = b := ⟨_, rfl⟩
  have HTR0 := hid hb
  have HTB := hid (show truB m xs = b by unfold truB; rw [hc, hb]; rfl)
  have hbb : (b != b) = false := by cases b <;> rfl
  clear hb
  have hn1 := OK.out.n1
  have hn4 := OK.out.n4
  have hs8 := OK.out.s8
  obtain ⟨N, hN⟩ : ∃ N, m.nw.toNat = N := ⟨_, rfl⟩
  have hNI : m.nw = (N : Int) := by omega
  have hN4 : N ≤ 4 := by omega
  have HN := hid (And.intro hN hNI)
  clear ht hc hz hN hNI hn1 hn4
  go_enter Try.func12, Try.ntmps12
  have K1 := hid (thin_any m A c A2 c2 A3 c3 (w.alloc (.cells #[.slice A m.old.length c, .int .i64 m.nw, .slice A2 m.ss.length c2, .slice A3 m.js.length c3] 26)))
  rw [HTN.out] at K1
  go_wp2_with fail
  refine K1.out.mono ?_
  rintro e w1 ⟨rfl, hb⟩
  have HB1 := hid (HB0.out.trans (hb.mono HB0.out.size))
  have HT1 := hid (HT0.out.keep hb)
  clear hb K1 t0 t1 t2 t3
  obtain ⟨t0, t1, t2, t3⟩ := HT1.out.c4
  have K2 := hid (map_thin (HH.out.at_ HB1.out) HTH.out)
  go_wp2_with fail
  refine K2.out.mono ?_
  rintro e w2 ⟨P2, Q2, R2, rfl, hm, hb⟩
  have HB2 := hid (HB1.out.trans (hb.mono HB1.out.size))
  have HT2 := hid (HT1.out.keep hb)
  have M2 := hid hm
  clear hm
  clear hb K2 t0 t1 t2 t3
  obtain ⟨t0, t1, t2, t3⟩ := HT2.out.c4
  have K3 := hid (streets_good M2.out HZ.out)
  go_wp2_with fail
  refine K3.out.mono ?_
  rintro e w3 ⟨yA, rfl, hy, hb⟩
  have HB3 := hid (HB2.out.trans (hb.mono HB2.out.size))
  have HT3 := hid (HT2.out.keep hb)
  have HYA := hid hy
  clear hy
  clear hb K3 t0 t1 t2 t3
  obtain ⟨t0, t1, t2, t3⟩ := HT3.out.c4
  have BA0 := hid (Below.refl w3.heap.size w3)
  have K4 := hid (map_thin (HH.out.at_ HB3.out) HTH.out)
  go_wp2_with fail
  refine K4.out.mono ?_
  rintro e w4 ⟨P4, Q4, R4, rfl, hm, hb⟩
  have HB4 := hid (HB3.out.trans (hb.mono HB3.out.size))
  have HT4 := hid (HT3.out.keep hb)
  have BA4 := hid (BA0.out.trans (hb.mono BA0.out.size))
  have M4 := hid hm
  clear hm
  clear hb K4 t0 t1 t2 t3
  obtain ⟨t0, t1, t2, t3⟩ := HT4.out.c4
  have K5 := hid (bounds_good M4.out HZ.out)
  go_wp2_with fail
  refine K5.out.mono ?_
  rintro e w5 ⟨yB, rfl, hy, hb⟩
  have HB5 := hid (HB4.out.trans (hb.mono HB4.out.size))
  have HT5 := hid (HT4.out.keep hb)
  have BA5 := hid (BA4.out.trans (hb.mono BA4.out.size))
  have HYB := hid hy
  clear hy
  clear hb K5 t0 t1 t2 t3
  obtain ⟨t0, t1, t2, t3⟩ := HT5.out.c4
  have BB0 := hid (Below.refl w5.heap.size w5)
  have K6 := hid (map_thin (HH.out.at_ HB5.out) HTH.out)
  go_wp2_with fail
  refine K6.out.mono ?_
  rintro e w6 ⟨P6, Q6, R6, rfl, hm, hb⟩
  have HB6 := hid (HB5.out.trans (hb.mono HB5.out.size))
  have HT6 := hid (HT5.out.keep hb)
  have BA6 := hid (BA5.out.trans (hb.mono BA5.out.size))
  have BB6 := hid (BB0.out.trans (hb.mono BB0.out.size))
  have M6 := hid hm
  clear hm
  clear hb K6 t0 t1 t2 t3
  obtain ⟨t0, t1, t2, t3⟩ := HT6.out.c4
  have K7 := hid (lst_i (HX.out.at_ HB6.out) HX0.out (by have := HLX.out; omega))
  go_wp2_with fail
  refine K7.out.mono ?_
  rintro e w7 ⟨z, rfl, hz, hb⟩
  have HB7 := hid (HB6.out.trans (hb.mono HB6.out.size))
  have HT7 := hid (HT6.out.keep hb)
  have BA7 := hid (BA6.out.trans (hb.mono BA6.out.size))
  have BB7 := hid (BB6.out.trans (hb.mono BB6.out.size))
  have HZL := hid hz
  have MM := hid (M6.out.at_ hb)
  clear hz
  clear hb K7 t0 t1 t2 t3
  obtain ⟨t0, t1, t2, t3⟩ := HT7.out.c4
  have K8 := hid (prove_truth_any m P6.1 P6.2 Q6.1 Q6.2 R6.1 R6.2 z.1 z.2 xs w7 MM.out HZL.out.1 HZL.out.2.1 HZL.out.2.2)
  rw [HTB.out] at K8
  go_wp2_with fail
  refine K8.out.mono ?_
  rintro e w8 ⟨rfl, hb⟩
  have HB8 := hid (HB7.out.trans (hb.mono HB7.out.size))
  have HT8 := hid (HT7.out.keep hb)
  have BA8 := hid (BA7.out.trans (hb.mono BA7.out.size))
  have BB8 := hid (BB7.out.trans (hb.mono BB7.out.size))
  clear hb K8 t0 t1 t2 t3
  obtain ⟨t0, t1, t2, t3⟩ := HT8.out.c4
  have K9 := hid (mfault_any m A c A2 c2 A3 c3 w8 (HH.out.at_ HB8.out).toMIn)
  rw [HC.out] at K9
  go_wp2_with fail
  refine K9.out.mono ?_
  rintro e w9 ⟨rfl, hb⟩
  have HB9 := hid (HB8.out.trans (hb.mono HB8.out.size))
  have HT9 := hid (HT8.out.keep hb)
  have BA9 := hid (BA8.out.trans (hb.mono BA8.out.size))
  have BB9 := hid (BB8.out.trans (hb.mono BB8.out.size))
  clear hb K9 t0 t1 t2 t3
  obtain ⟨t0, t1, t2, t3⟩ := HT9.out.c4
  have K10 := hid (qistruth_any m A c A2 c2 A3 c3 Ax cx xs w9 (HH.out.at_ HB9.out).toMIn (HX.out.at_ HB9.out).1 (by have := HLX.out; omega) OK.out)
  rw [HTR0.out] at K10
  go_wp2_with fail
  refine K10.out.mono ?_
  rintro e w10 ⟨rfl, hb⟩
  have HB10 := hid (HB9.out.trans (hb.mono HB9.out.size))
  have HT10 := hid (HT9.out.keep hb)
  have BA10 := hid (BA9.out.trans (hb.mono BA9.out.size))
  have BB10 := hid (BB9.out.trans (hb.mono BB9.out.size))
  clear hb K10 t0 t1 t2 t3
  obtain ⟨t0, t1, t2, t3⟩ := HT10.out.c4
  have K11 := hid (mconsist_any m A c A2 c2 A3 c3 w10 (HH.out.at_ HB10.out).toMIn)
  rw [HZ.out] at K11
  go_wp2_with fail
  refine K11.out.mono ?_
  rintro e w11 ⟨rfl, hb⟩
  have HB11 := hid (HB10.out.trans (hb.mono HB10.out.size))
  have HT11 := hid (HT10.out.keep hb)
  have BA11 := hid (BA10.out.trans (hb.mono BA10.out.size))
  have BB11 := hid (BB10.out.trans (hb.mono BB10.out.size))
  clear hb K11 t0 t1 t2 t3
  obtain ⟨t0, t1, t2, t3⟩ := HT11.out.c4
  have HTR := HT11
  have HBR := HB11
  clear t0 t1 t2 t3
  go_wp2
  go_loopw [11, 13] (fun v i W => ∃ k : Nat, k ≤ m.ss.length ∧ i = .int .i64 k ∧ W.ownsRow w11.heap.size 43 2 v k (rgC ((List.range k).map (strOne m))) ∧ Below w11.heap.size w11 W) (fun _ i _ => m.ss.length - (intOf i).toNat)
  case atStart => exact ⟨0, Nat.zero_le _, rfl, ⟨rfl, .inl ⟨rfl, rfl⟩⟩, Below.refl _ _⟩
  case round =>
    obtain ⟨k, hk, rfl, ho, hbr⟩ := hrel
    have HR := hid (And.intro ho hbr)
    have HTR := hid (HTR.out.keep hbr)
    have HBR := hid (HBR.out.trans (hbr.mono HBR.out.size))
    obtain ⟨t0, t1, t2, t3⟩ := HTR.out.c4
    skip
    clear ho hbr
    by_cases hlt : k < m.ss.length
    · have hkI : (k : Int) < (m.ss.length : Int) := by omega
      obtain ⟨s, hs⟩ : ∃ s, m.ss[k]? = some s := ⟨_, List.getElem?_eq_getElem hlt⟩
      obtain ⟨aa, eA, g1, f0, f1, f2, f3, f4⟩ := (HH.out.at_ HBR.out).is k s hs
      rw [← MapD.S_eq hs] at f0
      have F0 := hid f0
      subst eA
      clear f0 f1 f2 f3 f4 g1 hs
      go_wp2
      clear t0 t1 t2 t3
      refine (wpIn_wide (n := 0)).1 ?_
      refine wpIn_region_each 13 (fun i v W' => match i with | 0 => v = u11 | 1 => v = .agg #[.slice A m.old.length c, .int .i64 m.nw, .slice (some aa) m.ss.length c2, .slice A3 m.js.length c3] | 2 => v = .agg #[.slice A m.old.length c, .int .i64 m.nw, .slice (some aa) m.ss.length c2, .slice A3 m.js.length c3] | 3 => v = .int .i64 (k : Int) | 4 => ∃ (y : Option Addr × Nat), v = .slice y.1 (lst m (aloneL k)).length y.2 ∧ IntsAt y (lst m (aloneL k)) W' | 5 => v = .pointer (some ⟨w.heap.size, 2, none⟩) | 6 => v = .slice (some aa) m.ss.length c2 | 7 => v = .int .i64 (k : Int) | 8 => v = .pointer (some (aa.add (k * 5))) | 9 => v = .pointer (some (aa.add (k * 5))) | 10 => v = .int .i64 (m.S k).o | 11 => v = .agg #[.int .i64 (strOne m k).1, .int .i64 (strOne m k).2] | 12 => ∃ gm, v = .slice (some ⟨gm, 0, none⟩) 1 1 ∧ Blk W' gm 43 #[.int .i64 (strOne m k).1, .int .i64 (strOne m k).2] | _ => True) (fun A B => Below A.heap.size A B) (fun _ _ => True) (by kernel_rfl) (by kernel_rfl) ?_ (fun h k => h.trans (k.mono h.size)) ⟨rfl, rfl, rfl, Nat.le_refl _, fun _ _ => rfl⟩ trivial (by kernel_rfl) ?_ ?_
      · intro i v W1 W2 hb h
        match i, h with
        | 0, h => exact h
        | 1, h => exact h
        | 2, h => exact h
        | 3, h => exact h
        | 4, h =>
          obtain ⟨y, rfl, h1⟩ := h
          exact ⟨_, rfl, h1.at_ hb⟩
        | 5, h => exact h
        | 6, h => exact h
        | 7, h => exact h
        | 8, h => exact h
        | 9, h => exact h
        | 10, h => exact h
        | 11, h => exact h
        | 12, h =>
          obtain ⟨gm, rfl, h1⟩ := h
          exact ⟨_, rfl, h1.keep hb⟩
        | i + 13, h => trivial
      · refine ⟨?_, ?_, ?_, ?_, ?_, ?_, ?_, ?_, ?_, ?_, ?_, ?_, ?_, trivial⟩
        · -- 0
          intro li a1 W2 hA K hK
          have e11 := hA.par 11 (by kernel_rfl)
          refine opStep none 0 rfl rfl (fun c hc => by cases hc) ?_
          go_simp
          exact hK _ _ rfl (Below.refl _ _) trivial
        · -- 1
          intro li a1 W2 hA K hK
          have e2 := hA.par 2 (by kernel_rfl)
          obtain ⟨q1, q2, q3, q4⟩ := (HTR.out.keep hA.st).c4
          refine opStep none 0 rfl rfl (fun c hc => by cases hc) ?_
          go_simp
          exact hK _ _ rfl (Below.refl _ _) trivial
        · -- 2
          intro li a1 W2 hA K hK
          have e2 := hA.par 2 (by kernel_rfl)
          obtain ⟨q1, q2, q3, q4⟩ := (HTR.out.keep hA.st).c4
          refine opStep none 0 rfl rfl (fun c hc => by cases hc) ?_
          go_simp
          exact hK _ _ rfl (Below.refl _ _) trivial
        · -- 3
          intro li a1 W2 hA K hK
          have e13 := hA.par 13 (by kernel_rfl)
          refine opStep none 0 rfl rfl (fun c hc => by cases hc) ?_
          go_simp
          exact hK _ _ rfl (Below.refl _ _) trivial
        · -- 4
          intro li a1 W2 hA K hK
          have e83 : a1.tmps.getD 83 undef = .agg #[.slice A m.old.length c, .int .i64 m.nw, .slice (some aa) m.ss.length c2, .slice A3 m.js.length c3] := hA.val 2 83 (by kernel_rfl) (by kernel_rfl)
          have e84 : a1.tmps.getD 84 undef = .int .i64 (k : Int) := hA.val 3 84 (by kernel_rfl) (by kernel_rfl)
          refine opStep none 0 rfl rfl (fun c hc => by cases hc) ?_
          go_simp
          refine ((qalone_any m k A c (some aa) c2 A3 c3 W2 (HH.out.at_ (HBR.out.trans (hA.st.mono HBR.out.size))).toMIn (by omega) hlt).mono fun _ _ => GivesInts.i).mono ?_
          rintro e W3 ⟨y, rfl, hy, hb3⟩
          exact hK _ _ ⟨y, rfl, hy⟩ hb3 trivial
        · -- 5
          intro li a1 W2 hA K hK
          have e2 := hA.par 2 (by kernel_rfl)
          refine opStep none 0 rfl rfl (fun c hc => by cases hc) ?_
          go_simp
          exact hK _ _ rfl (Below.refl _ _) trivial
        · -- 6
          intro li a1 W2 hA K hK
          have e86 : a1.tmps.getD 86 undef = .pointer (some ⟨w.heap.size, 2, none⟩) := hA.val 5 86 (by kernel_rfl) (by kernel_rfl)
          obtain ⟨q1, q2, q3, q4⟩ := (HTR.out.keep hA.st).c4
          refine opStep none 0 rfl rfl (fun c hc => by cases hc) ?_
          go_simp
          exact hK _ _ rfl (Below.refl _ _) trivial
        · -- 7
          intro li a1 W2 hA K hK
          have e13 := hA.par 13 (by kernel_rfl)
          refine opStep none 0 rfl rfl (fun c hc => by cases hc) ?_
          go_simp
          exact hK _ _ rfl (Below.refl _ _) trivial
        · -- 8
          intro li a1 W2 hA K hK
          have e87 : a1.tmps.getD 87 undef = .slice (some aa) m.ss.length c2 := hA.val 6 87 (by kernel_rfl) (by kernel_rfl)
          have e88 : a1.tmps.getD 88 undef = .int .i64 (k : Int) := hA.val 7 88 (by kernel_rfl) (by kernel_rfl)
          refine opStep none 0 rfl rfl (fun c hc => by cases hc) ?_
          go_simp
          exact hK _ _ (by first | rfl | exact congrArg (fun q => Value.pointer (some q)) (add_blk _ _)) (Below.refl _ _) trivial
        · -- 9
          intro li a1 W2 hA K hK
          have e89 : a1.tmps.getD 89 undef = .pointer (some (aa.add (k * 5))) := hA.val 8 89 (by kernel_rfl) (by kernel_rfl)
          refine opStep none 0 rfl rfl (fun c hc => by cases hc) ?_
          go_simp
          exact hK _ _ rfl (Below.refl _ _) trivial
        · -- 10
          intro li a1 W2 hA K hK
          have e90 : a1.tmps.getD 90 undef = .pointer (some (aa.add (k * 5))) := hA.val 9 90 (by kernel_rfl) (by kernel_rfl)
          have q1 := (hA.st.cell (World.block_lt_of_cell? _ _ F0.out)).trans F0.out
          refine opStep none 0 rfl rfl (fun c hc => by cases hc) ?_
          go_simp
          exact hK _ _ rfl (Below.refl _ _) trivial
        · -- 11
          intro li a1 W2 hA K hK
          have e82 : a1.tmps.getD 82 undef = .agg #[.slice A m.old.length c, .int .i64 m.nw, .slice (some aa) m.ss.length c2, .slice A3 m.js.length c3] := hA.val 1 82 (by kernel_rfl) (by kernel_rfl)
          obtain ⟨y85, e85, h85⟩ := hA.val 4 85 (by kernel_rfl) (by kernel_rfl)
          have e91 : a1.tmps.getD 91 undef = .int .i64 (m.S k).o := hA.val 10 91 (by kernel_rfl) (by kernel_rfl)
          refine opStep none 0 rfl rfl (fun c hc => by cases hc) ?_
          go_simp
          refine (part_alone (HH.out.at_ (HBR.out.trans (hA.st.mono HBR.out.size))).toMIn OK.out hlt h85).mono ?_
          rintro e W3 ⟨rfl, hb3⟩
          exact hK _ _ rfl hb3 trivial
        · -- 12
          intro li a1 W2 hA K hK
          have e92 : a1.tmps.getD 92 undef = .agg #[.int .i64 (strOne m k).1, .int .i64 (strOne m k).2] := hA.val 11 92 (by kernel_rfl) (by kernel_rfl)
          have e92' := e92
          rw [Array.getD_eq_getD_getElem?] at e92'
          refine opStep none 0 rfl rfl (fun c hc => by cases hc) ?_
          go_simp
          exact hK _ _ ⟨_, rfl, Blk.new _ _ _⟩ ((Below.refl _ _).alloc (Nat.le_refl _) _) trivial
      · intro li a1 W2 hD
        obtain ⟨gm, e93, hgm⟩ := hD.val 12 93 (by kernel_rfl) (by kernel_rfl)
        have e81 : a1.tmps.getD 81 undef = u11 := hD.val 0 81 (by kernel_rfl) (by kernel_rfl)
        have hst := hD.st
        have ho2 := row_kept (vo := .slice none 0 0) HR.out.1 (grown_of_below hst _) (.inl rfl)
        have hbw2 := HR.out.2.trans (hst.mono HR.out.2.size)
        have hsz2 := hbw2.size
        obtain ⟨i0, hi0, hz0, hz1, hz2⟩ := info_parts qrng_info
        obtain ⟨v', w7, hrun, hr7, hg7, _, _⟩ := run_append_own_at (P := Try.prog) W2 w11.heap.size 77 77 43 i0 (.agg #[.int .i64 0, .int .i64 0]) 2 16 Try.underlying77 hi0 hz0 hz1 hz2 rfl (by decide) u11 k _ ho2 ⟨gm, 0, none⟩ 1 1 [.int .i64 (strOne m k).1, .int .i64 (strOne m k).2] rfl (two_blk hgm) (by intro u hu; simp at hu; rcases hu with rfl | rfl <;> rfl) (by simp only [maxLen]; omega) (by omega) (by omega)
        have b6 := below_row' hbw2 ho2 (Nat.le_refl _) hg7 hsz2
        have HNX := hid (show w7.ownsRow w11.heap.size 43 2 v' (k + 1) (rgC ((List.range (k + 1)).map (strOne m))) ∧ Below w11.heap.size w11 w7 from ⟨by rw [map_range_succ, rgC_snoc]; exact hr7, b6⟩)
        have hkp2 := hD.keeps (ds := [81, 82, 83, 84, 85, 86, 87, 88, 89, 90, 91, 92, 93, 94, 11]) (by kernel_rfl)
        have hds := hD.size
        have hsz9 : a1.tmps.size = 128 := hD.size
        have hdd := hD.defers
        clear hst hr7 hg7 hgm ho2 hbw2 hsz2 b6
        refine tail_val (i := 13) (v := v') (W' := w7) none 0 rfl rfl rfl (fun c hc => by cases hc) (by simp [execOp, resolve, invoke, builtin, Act.eval, e81, e93, hrun, Result.andThen]) (by rw [hsz9]; decide) ?_
        intro a3 s3 d3 f3 o3
        have hkp3 := keeps_then hkp2 o3 (by decide)
        refine tail_val (i := 14) (v := v') (W' := w7) none 0 rfl rfl rfl (fun c hc => by cases hc) (by go_simp) (by rw [s3, hsz9]; decide) ?_
        intro a4 s4 d4 f4 o4
        have hkp4 := keeps_then hkp3 o4 (by decide)
        have e := act_mix [81, 82, 83, 84, 85, 86, 87, 88, 89, 90, 91, 92, 93, 94, 11] (s4.trans (s3.trans hds)) (d4.trans (d3.trans hdd)) (fun i _ hc => hkp4 i hc)
        have hg11 : (fun i => a4.tmps.getD i undef) 11 = v' := f4
        generalize (fun i => a4.tmps.getD i undef) = g2 at e hg11
        refine wpListIn_nil ?_
        rw [e]
        clear e hD hkp2 hkp3 hkp4 s3 s4 d3 d4 f3 f4 o3 o4 e81 e93 hds hdd hsz9 hi0 hz0 hz1 hz2 hrun
        simp only [mix, List.contains_cons, List.contains_nil, Nat.reduceAdd, Nat.reduceBEq, Bool.or_false, Bool.or_true, cond_true, cond_false, hg11]
        clear hg11
        go_wp2
        go_roundw
        case rel => exact ⟨k + 1, by omega, by go_num, HNX.out⟩
        case measure => first | (simp [intOf]; done) | (simp [intOf]; omega)
    · have hkI : decide ((k : Int) < (m.ss.length : Int)) = false := by simp; omega
      obtain rfl : k = m.ss.length := by omega
      obtain ⟨y7, e7, hy7⟩ := own_rngs' HR.out.1 (by simp)
      have HD := hid (show RngsAt y7 (strL m) wr from hy7)
      subst e7
      have BAX := hid (BA11.out.trans (HR.out.2.mono BA11.out.size))
      have BBX := hid (BB11.out.trans (HR.out.2.mono BB11.out.size))
      have HB4 := hid HBR.out
      have HT4 := hid HTR.out
      have hst : ((List.range m.ss.length).map (strOne m)) = strL m := rfl
      rw [hst]
      clear hy7 hst HR HTR HBR
      rw [HN.out.2] at t1
      go_wp2
      clear t0 t1 t2 t3
      generalize wr = w4 at *
      go_loopw [12, 14] (fun v i W => ∃ k : Nat, k ≤ N ∧ i = .int .i64 k ∧ W.ownsRow w4.heap.size 43 2 v k (rgC ((List.range k).map (bndOne m))) ∧ Below w4.heap.size w4 W) (fun _ i _ => N - (intOf i).toNat)
      case atStart => exact ⟨0, Nat.zero_le _, rfl, ⟨rfl, .inl ⟨rfl, rfl⟩⟩, Below.refl _ _⟩
      case round =>
        obtain ⟨k, hk, rfl, ho, hbr⟩ := hrel
        have HR := hid (And.intro ho hbr)
        have HTR := hid (HT4.out.keep hbr)
        have HBR := hid (HB4.out.trans (hbr.mono HB4.out.size))
        obtain ⟨t0, t1, t2, t3⟩ := HTR.out.c4
        rw [HN.out.2] at t1
        clear ho hbr
        by_cases hlt : k < N
        · have hkI : (k : Int) < (N : Int) := by omega
          go_wp2
          clear t0 t1 t2 t3
          refine (wpIn_wide (n := 0)).1 ?_
          refine wpIn_region_each 7 (fun i v W' => match i with | 0 => v = u12 | 1 => v = .agg #[.slice A m.old.length c, .int .i64 m.nw, .slice A2 m.ss.length c2, .slice A3 m.js.length c3] | 2 => v = .agg #[.slice A m.old.length c, .int .i64 m.nw, .slice A2 m.ss.length c2, .slice A3 m.js.length c3] | 3 => ∃ (y : Option Addr × Nat), v = .slice y.1 (lst m (ownL m)).length y.2 ∧ IntsAt y (lst m (ownL m)) W' | 4 => v = .int .i64 (k : Int) | 5 => v = .agg #[.int .i64 (bndOne m k).1, .int .i64 (bndOne m k).2] | 6 => ∃ gm, v = .slice (some ⟨gm, 0, none⟩) 1 1 ∧ Blk W' gm 43 #[.int .i64 (bndOne m k).1, .int .i64 (bndOne m k).2] | _ => True) (fun A B => Below A.heap.size A B) (fun _ _ => True) (by kernel_rfl) (by kernel_rfl) ?_ (fun h k => h.trans (k.mono h.size)) ⟨rfl, rfl, rfl, Nat.le_refl _, fun _ _ => rfl⟩ trivial (by kernel_rfl) ?_ ?_
          · intro i v W1 W2 hb h
            match i, h with
            | 0, h => exact h
            | 1, h => exact h
            | 2, h => exact h
            | 3, h =>
              obtain ⟨y, rfl, h1⟩ := h
              exact ⟨_, rfl, h1.at_ hb⟩
            | 4, h => exact h
            | 5, h => exact h
            | 6, h =>
              obtain ⟨gm, rfl, h1⟩ := h
              exact ⟨_, rfl, h1.keep hb⟩
            | i + 7, h => trivial
          · refine ⟨?_, ?_, ?_, ?_, ?_, ?_, ?_, trivial⟩
            · -- 0
              intro li a1 W2 hA K hK
              have e12 := hA.par 12 (by kernel_rfl)
              refine opStep none 0 rfl rfl (fun c hc => by cases hc) ?_
              go_simp
              exact hK _ _ rfl (Below.refl _ _) trivial
            · -- 1
              intro li a1 W2 hA K hK
              have e2 := hA.par 2 (by kernel_rfl)
              obtain ⟨q1, q2, q3, q4⟩ := (HTR.out.keep hA.st).c4
              refine opStep none 0 rfl rfl (fun c hc => by cases hc) ?_
              go_simp
              exact hK _ _ rfl (Below.refl _ _) trivial
            · -- 2
              intro li a1 W2 hA K hK
              have e2 := hA.par 2 (by kernel_rfl)
              obtain ⟨q1, q2, q3, q4⟩ := (HTR.out.keep hA.st).c4
              refine opStep none 0 rfl rfl (fun c hc => by cases hc) ?_
              go_simp
              exact hK _ _ rfl (Below.refl _ _) trivial
            · -- 3
              intro li a1 W2 hA K hK
              have e103 : a1.tmps.getD 103 undef = .agg #[.slice A m.old.length c, .int .i64 m.nw, .slice A2 m.ss.length c2, .slice A3 m.js.length c3] := hA.val 2 103 (by kernel_rfl) (by kernel_rfl)
              refine opStep none 0 rfl rfl (fun c hc => by cases hc) ?_
              go_simp
              refine ((qown_any m A c A2 c2 A3 c3 W2 (HH.out.at_ (HBR.out.trans (hA.st.mono HBR.out.size))).toMIn (by omega)).mono fun _ _ => GivesInts.i).mono ?_
              rintro e W3 ⟨y, rfl, hy, hb3⟩
              exact hK _ _ ⟨y, rfl, hy⟩ hb3 trivial
            · -- 4
              intro li a1 W2 hA K hK
              have e14 := hA.par 14 (by kernel_rfl)
              refine opStep none 0 rfl rfl (fun c hc => by cases hc) ?_
              go_simp
              exact hK _ _ rfl (Below.refl _ _) trivial
            · -- 5
              intro li a1 W2 hA K hK
              have e102 : a1.tmps.getD 102 undef = .agg #[.slice A m.old.length c, .int .i64 m.nw, .slice A2 m.ss.length c2, .slice A3 m.js.length c3] := hA.val 1 102 (by kernel_rfl) (by kernel_rfl)
              obtain ⟨y104, e104, h104⟩ := hA.val 3 104 (by kernel_rfl) (by kernel_rfl)
              have e105 : a1.tmps.getD 105 undef = .int .i64 (k : Int) := hA.val 4 105 (by kernel_rfl) (by kernel_rfl)
              refine opStep none 0 rfl rfl (fun c hc => by cases hc) ?_
              go_simp
              refine (size_own (HH.out.at_ (HBR.out.trans (hA.st.mono HBR.out.size))).toMIn OK.out k h104).mono ?_
              rintro e W3 ⟨rfl, hb3⟩
              exact hK _ _ rfl hb3 trivial
            · -- 6
              intro li a1 W2 hA K hK
              have e106 : a1.tmps.getD 106 undef = .agg #[.int .i64 (bndOne m k).1, .int .i64 (bndOne m k).2] := hA.val 5 106 (by kernel_rfl) (by kernel_rfl)
              have e106' := e106
              rw [Array.getD_eq_getD_getElem?] at e106'
              refine opStep none 0 rfl rfl (fun c hc => by cases hc) ?_
              go_simp
              exact hK _ _ ⟨_, rfl, Blk.new _ _ _⟩ ((Below.refl _ _).alloc (Nat.le_refl _) _) trivial
          · intro li a1 W2 hD
            obtain ⟨gm, e107, hgm⟩ := hD.val 6 107 (by kernel_rfl) (by kernel_rfl)
            have e101 : a1.tmps.getD 101 undef = u12 := hD.val 0 101 (by kernel_rfl) (by kernel_rfl)
            have hst := hD.st
            have ho2 := row_kept (vo := .slice none 0 0) HR.out.1 (grown_of_below hst _) (.inl rfl)
            have hbw2 := HR.out.2.trans (hst.mono HR.out.2.size)
            have hsz2 := hbw2.size
            obtain ⟨i0, hi0, hz0, hz1, hz2⟩ := info_parts qrng_info
            obtain ⟨v', w7, hrun, hr7, hg7, _, _⟩ := run_append_own_at (P := Try.prog) W2 w4.heap.size 77 77 43 i0 (.agg #[.int .i64 0, .int .i64 0]) 2 16 Try.underlying77 hi0 hz0 hz1 hz2 rfl (by decide) u12 k _ ho2 ⟨gm, 0, none⟩ 1 1 [.int .i64 (bndOne m k).1, .int .i64 (bndOne m k).2] rfl (two_blk hgm) (by intro u hu; simp at hu; rcases hu with rfl | rfl <;> rfl) (by simp only [maxLen]; omega) (by omega) (by omega)
            have b6 := below_row' hbw2 ho2 (Nat.le_refl _) hg7 hsz2
            have HNX := hid (show w7.ownsRow w4.heap.size 43 2 v' (k + 1) (rgC ((List.range (k + 1)).map (bndOne m))) ∧ Below w4.heap.size w4 w7 from ⟨by rw [map_range_succ, rgC_snoc]; exact hr7, b6⟩)
            have hkp2 := hD.keeps (ds := [101, 102, 103, 104, 105, 106, 107, 108, 12]) (by kernel_rfl)
            have hds := hD.size
            have hsz9 : a1.tmps.size = 128 := hD.size
            have hdd := hD.defers
            clear hst hr7 hg7 hgm ho2 hbw2 hsz2 b6
            refine tail_val (i := 7) (v := v') (W' := w7) none 0 rfl rfl rfl (fun c hc => by cases hc) (by simp [execOp, resolve, invoke, builtin, Act.eval, e101, e107, hrun, Result.andThen]) (by rw [hsz9]; decide) ?_
            intro a3 s3 d3 f3 o3
            have hkp3 := keeps_then hkp2 o3 (by decide)
            refine tail_val (i := 8) (v := v') (W' := w7) none 0 rfl rfl rfl (fun c hc => by cases hc) (by go_simp) (by rw [s3, hsz9]; decide) ?_
            intro a4 s4 d4 f4 o4
            have hkp4 := keeps_then hkp3 o4 (by decide)
            have e := act_mix [101, 102, 103, 104, 105, 106, 107, 108, 12] (s4.trans (s3.trans hds)) (d4.trans (d3.trans hdd)) (fun i _ hc => hkp4 i hc)
            have hg11 : (fun i => a4.tmps.getD i undef) 12 = v' := f4
            generalize (fun i => a4.tmps.getD i undef) = g2 at e hg11
            refine wpListIn_nil ?_
            rw [e]
            clear e hD hkp2 hkp3 hkp4 s3 s4 d3 d4 f3 f4 o3 o4 e101 e107 hds hdd hsz9 hi0 hz0 hz1 hz2 hrun
            simp only [mix, List.contains_cons, List.contains_nil, Nat.reduceAdd, Nat.reduceBEq, Bool.or_false, Bool.or_true, cond_true, cond_false, hg11]
            clear hg11
            go_wp2
            go_roundw
            case rel => exact ⟨k + 1, by omega, by go_num, HNX.out⟩
            case measure => first | (simp [intOf]; done) | (simp [intOf]; omega)
        · have hkI : decide ((k : Int) < (N : Int)) = false := by simp; omega
          obtain rfl : k = N := by omega
          obtain ⟨y8, e8, hy8⟩ := own_rngs' HR.out.1 (by simp)
          have HD2 := hid (show RngsAt y8 (bndL m) wr by unfold bndL; rw [HN.out.1]; exact hy8)
          subst e8
          have hbl : (List.range k).map (bndOne m) = bndL m := by unfold bndL; rw [HN.out.1]
          rw [hbl]
          have HY1 := hid (HYA.out.at_ (BAX.out.trans (HR.out.2.mono BAX.out.size)))
          have HY2 := hid (HYB.out.at_ (BBX.out.trans (HR.out.2.mono BBX.out.size)))
          have HY3 := hid (HD.out.at_ HR.out.2)
          have HB5 := hid HBR.out
          have HT5 := hid HTR.out
          clear hy8 hbl HR HTR HBR
          have BY0 := hid (Below.refl wr.heap.size wr)
          have K51 := hid (rngs_same HY1.out HY3.out)
          go_wp2_with fail
          refine K51.out.mono ?_
          rintro e w51 ⟨rfl, hb⟩
          have HB51 := hid (HB5.out.trans (hb.mono HB5.out.size))
          have HT51 := hid (HT5.out.keep hb)
          have BY51 := hid (BY0.out.trans (hb.mono BY0.out.size))
          clear hb K51 t0 t1 t2 t3
          obtain ⟨t0, t1, t2, t3⟩ := HT51.out.c4
          have K52 := hid (rngs_same (HY2.out.at_ BY51.out) (HD2.out.at_ BY51.out))
          go_wp2_with fail
          refine K52.out.mono ?_
          rintro e w52 ⟨rfl, hb⟩
          have HB52 := hid (HB51.out.trans (hb.mono HB51.out.size))
          have HT52 := hid (HT51.out.keep hb)
          have BY52 := hid (BY51.out.trans (hb.mono BY51.out.size))
          clear hb K52 t0 t1 t2 t3
          obtain ⟨t0, t1, t2, t3⟩ := HT52.out.c4
          have K53 := hid (awake_any w52)
          go_wp2_with fail
          refine K53.out.mono ?_
          rintro e w53 ⟨rfl, hb⟩
          have HB53 := hid (HB52.out.trans (hb.mono HB52.out.size))
          have HT53 := hid (HT52.out.keep hb)
          have BY53 := hid (BY52.out.trans (hb.mono BY52.out.size))
          clear hb K53 t0 t1 t2 t3
          obtain ⟨t0, t1, t2, t3⟩ := HT53.out.c4
          clear t0 t1 t2 t3
          go_wp2
          go_ret
          exact ⟨rfl, HB53.out⟩

theorem bounds_any9 (m : MapD) (A : Option Addr) (c : Nat) (A2 : Option Addr) (c2 : Nat) (A3 : Option Addr) (c3 : Nat) (Ax : Option Addr) (cx : Nat) (xs : List Int) (w : World) (h : MArg m A c A2 c2 A3 c3 w) (hx : IntsAt (Ax, cx) xs w) (hx0 : Ax = none → cx = 0) :
    Calls Try.prog 12 #[.agg #[.slice A m.old.length c, .int .i64 m.nw, .slice A2 m.ss.length c2, .slice A3 m.js.length c3], .slice Ax xs.length cx] w fun e w' => e = .returned (.bool true) ∧ Below w.heap.size w w' := by
  cases ht : thinM m
  · exact bndw_not m A c A2 c2 A3 c3 Ax cx xs w h hx hx0 ht
  · by_cases hl : 12 < xs.length
    · exact bndw_long m A c A2 c2 A3 c3 Ax cx xs w h hx hx0 ht hl
    · by_cases hc : chkM m = 0
      · by_cases hz : cstM m = 0
        · exact bndw_good m A c A2 c2 A3 c3 Ax cx xs w h hx hx0 ht hl hc hz
        · exact bndw_unc m A c A2 c2 A3 c3 Ax cx xs w h hx hx0 ht hl hc hz
      · exact bndw_bad m A c A2 c2 A3 c3 Ax cx xs w h hx hx0 ht hl hc

open Go.ChangeShapes Go.WideShapes Go.ChangeAt in
set_option maxRecDepth 100000 in
theorem bnds_lifted (os : Os) (started : os.Started) (H : Type) (enc : TypeId × Value → H) :
    ReturnsInHanded {} Try.checked os 12 .any (Rows.borderBoundsSpec.pre6 enc Try.prog Try.f12 Rows.borderBoundsRow.domain false) (Rows.borderBoundsSpec.post enc Try.prog Try.f12 false true false false) := by
  refine returnsInHanded_of_change (C := Try.checked) own started (by kernel_rfl) Try.func12
    (ChangeSpec.witness6 (enc := enc) (C := Try.checked) false ⟨#[], #[.agg #[.slice none 0 0, .int .i64 0, .slice none 0 0, .slice none 0 0], .slice none 0 0], []⟩ 8 (by kernel_rfl) (by kernel_rfl) (by kernel_rfl) (by kernel_rfl)) ?_
  intro W base args ds gs before hval0 hW hcnd _
  have hval : ∀ (j : Nat) t v, Try.f12.params[j]? = some t → args[j]? = some v → Value.okWide Try.prog W .any base t v := hval0
  have hW' := hW
  obtain ⟨p, q, hA0, hV, rfl, hfz, hnd⟩ := hW
  have hA : DataW.TrodAll enc Try.prog W 0 (fun _ => true) true Try.f12.params.toList args.toList ds p := hA0
  rw [Try.params12] at hA hval
  obtain ⟨v0, vs0, d0, ds0, p0, q0, hargs, rfl, rfl, h0, r0⟩ := trodAll_cons hA
  obtain ⟨v1, vs1, d1, ds1, p1, q1, rfl, rfl, rfl, h1, r1⟩ := trodAll_cons r0
  obtain ⟨rfl, rfl, rfl⟩ := trodAll_nil r1
  obtain rfl : args = #[v0, v1] := by cases args; simp_all
  obtain ⟨rfl, rfl⟩ := trodVars_none hV
  obtain ⟨m, A, c, A2, c2, A3, c3, rfl, ht⟩ := open_map (hval 0 26 v0 rfl rfl) h0
  obtain ⟨Ax, cx, xs, rfl, u1, u2, u3, _, u5⟩ := open_nums Try.underlying22 Try.underlying3 (by kernel_rfl) (hval 1 22 v1 rfl rfl) h1
  refine (bounds_any9 m A c A2 c2 A3 c3 Ax cx xs W ht ⟨u5, u1, u2⟩ u3).mono fun e W' ⟨he, hb⟩ => ⟨_, he, ?_⟩
  exact law_post laid_out rfl rfl (by kernel_rfl) hW' rfl hb

theorem bnds_over : Rows.borderBoundsRow.holds Try.pinned (OpenSpec.ofChange Rows.borderBoundsSpec) :=
  OpenClaim.holds_of_wide 12 Try.f12 rfl rfl rfl rfl rfl rfl rfl ⟨rfl, rfl, rfl, rfl, rfl⟩ rfl rfl rfl rfl rfl (by kernel_rfl) Try.func12 (by kernel_rfl)
    (of_decide_eq_true (by kernel_rfl)) (by unfold Func.isWrapper; first | (rw [if_pos (by decide +kernel)]; kernel_rfl) | (rw [if_neg (by decide +kernel)]; exact ⟨rfl, rfl⟩))
    (fun os started H enc _ => bnds_lifted os started H enc)
/-- the statement -/
theorem border_bounds : Rows.BorderBoundsSaid := bnds_over
#print axioms border_bounds
end Go.Proofs.Ytoeabajigfdkaaa
