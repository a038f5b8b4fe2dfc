/- For every map, by how much the carried counts can be off, and the districts that are not connected, are as the reference says: the statement BorderOffs. No condition. -/
import Derived.Test.YtoeabajigfdkaaaG3
import Derived.Test.YtoeabajigfdkaaaG13
namespace Go.Proofs.Ytoeabajigfdkaaa
open Go.RowKit Go.Shelf

theorem smD_len0 (m : MapD) (l : Nat → Int) (xs : List Int) : (smD m l xs).length = m.nw.toNat := smTo_len _ _ _ _
set_option maxRecDepth 100000 in
set_option maxHeartbeats 4000000 in
theorem offs_not (m : MapD) (A : Option Addr) (c : Nat) (A2 : Option Addr) (c2 : Nat) (A3 : Option Addr) (c3 : Nat) (w : World) (h : MArg m A c A2 c2 A3 c3 w) (ht : thinM m = false) :
    Calls Try.prog 8 #[.agg #[.slice A m.old.length c, .int .i64 m.nw, .slice A2 m.ss.length c2, .slice A3 m.js.length c3]] w fun e w' => e = .returned (.bool true) ∧ Below w.heap.size w w' := by
  have hB := below_box (w := w) #[.slice A m.old.length c, .int .i64 m.nw, .slice A2 m.ss.length c2, .slice A3 m.js.length c3] 26
  have hT := Blk.new w 26 #[.slice A m.old.length c, .int .i64 m.nw, .slice A2 m.ss.length c2, .slice A3 m.js.length c3]
  have HB0 := hid hB
  have HT0 := hid hT
  have HH := hid h
  obtain ⟨t0, t1, t2, t3⟩ := hT.c4
  clear h hB hT
  have HTN := hid ht
  clear ht
  go_enter Try.func8, Try.ntmps8
  have K1 := hid (thin_any m A c A2 c2 A3 c3 (w.alloc (.cells #[.slice A m.old.length c, .int .i64 m.nw, .slice A2 m.ss.length c2, .slice A3 m.js.length c3] 26)))
  rw [HTN.out] at K1
  go_wp2_with fail
  refine K1.out.mono ?_
  rintro e w1 ⟨rfl, hb⟩
  have HB1 := hid (HB0.out.trans (hb.mono HB0.out.size))
  have HT1 := hid (HT0.out.keep hb)
  clear hb K1 t0 t1 t2 t3
  obtain ⟨t0, t1, t2, t3⟩ := HT1.out.c4
  have K2 := hid (awake_any w1)
  go_wp2_with fail
  refine K2.out.mono ?_
  rintro e w2 ⟨rfl, hb⟩
  have HB2 := hid (HB1.out.trans (hb.mono HB1.out.size))
  have HT2 := hid (HT1.out.keep hb)
  clear hb K2 t0 t1 t2 t3
  obtain ⟨t0, t1, t2, t3⟩ := HT2.out.c4
  clear t0 t1 t2 t3
  go_wp2
  go_ret
  exact ⟨rfl, HB2.out⟩

set_option maxRecDepth 100000 in
set_option maxHeartbeats 4000000 in
theorem offs_bad (m : MapD) (A : Option Addr) (c : Nat) (A2 : Option Addr) (c2 : Nat) (A3 : Option Addr) (c3 : Nat) (w : World) (h : MArg m A c A2 c2 A3 c3 w) (ht : thinM m = true) (hc : chkM m ≠ 0) :
    Calls Try.prog 8 #[.agg #[.slice A m.old.length c, .int .i64 m.nw, .slice A2 m.ss.length c2, .slice A3 m.js.length c3]] w fun e w' => e = .returned (.bool true) ∧ Below w.heap.size w w' := by
  have hB := below_box (w := w) #[.slice A m.old.length c, .int .i64 m.nw, .slice A2 m.ss.length c2, .slice A3 m.js.length c3] 26
  have hT := Blk.new w 26 #[.slice A m.old.length c, .int .i64 m.nw, .slice A2 m.ss.length c2, .slice A3 m.js.length c3]
  have HB0 := hid hB
  have HT0 := hid hT
  have HH := hid h
  obtain ⟨t0, t1, t2, t3⟩ := hT.c4
  clear h hB hT
  have HTN := hid ht
  have HTH := hid (thinM_iff.1 ht)
  have HC := hid hc
  have HCC := hid (cst_bad hc)
  have HCN := hid (show cstM m ≠ 0 by rw [cst_bad hc]; exact hc)
  have hne : (chkM m != 0) = true := by simpa using hc
  clear ht hc
  go_enter Try.func8, Try.ntmps8
  have K1 := hid (thin_any m A c A2 c2 A3 c3 (w.alloc (.cells #[.slice A m.old.length c, .int .i64 m.nw, .slice A2 m.ss.length c2, .slice A3 m.js.length c3] 26)))
  rw [HTN.out] at K1
  go_wp2_with fail
  refine K1.out.mono ?_
  rintro e w1 ⟨rfl, hb⟩
  have HB1 := hid (HB0.out.trans (hb.mono HB0.out.size))
  have HT1 := hid (HT0.out.keep hb)
  clear hb K1 t0 t1 t2 t3
  obtain ⟨t0, t1, t2, t3⟩ := HT1.out.c4
  have K2 := hid (map_thin (HH.out.at_ HB1.out) HTH.out)
  go_wp2_with fail
  refine K2.out.mono ?_
  rintro e w2 ⟨P2, Q2, R2, rfl, hm, hb⟩
  have HB2 := hid (HB1.out.trans (hb.mono HB1.out.size))
  have HT2 := hid (HT1.out.keep hb)
  have M2 := hid hm
  clear hm
  clear hb K2 t0 t1 t2 t3
  obtain ⟨t0, t1, t2, t3⟩ := HT2.out.c4
  have K3 := hid (off_bad M2.out HCN.out)
  rw [HCC.out] at K3
  go_wp2_with fail
  refine K3.out.mono ?_
  rintro e w3 ⟨rfl, hb⟩
  have HB3 := hid (HB2.out.trans (hb.mono HB2.out.size))
  have HT3 := hid (HT2.out.keep hb)
  clear hb K3 t0 t1 t2 t3
  obtain ⟨t0, t1, t2, t3⟩ := HT3.out.c4
  have K4 := hid (map_thin (HH.out.at_ HB3.out) HTH.out)
  go_wp2_with fail
  refine K4.out.mono ?_
  rintro e w4 ⟨P4, Q4, R4, rfl, hm, hb⟩
  have HB4 := hid (HB3.out.trans (hb.mono HB3.out.size))
  have HT4 := hid (HT3.out.keep hb)
  have M4 := hid hm
  clear hm
  clear hb K4 t0 t1 t2 t3
  obtain ⟨t0, t1, t2, t3⟩ := HT4.out.c4
  have K5 := hid (apart_bad M4.out HC.out)
  go_wp2_with fail
  refine K5.out.mono ?_
  rintro e w5 ⟨rfl, hb⟩
  have HB5 := hid (HB4.out.trans (hb.mono HB4.out.size))
  have HT5 := hid (HT4.out.keep hb)
  clear hb K5 t0 t1 t2 t3
  obtain ⟨t0, t1, t2, t3⟩ := HT5.out.c4
  have K6 := hid (mfault_any m A c A2 c2 A3 c3 w5 (HH.out.at_ HB5.out).toMIn)
  go_wp2_with fail
  refine K6.out.mono ?_
  rintro e w6 ⟨rfl, hb⟩
  have HB6 := hid (HB5.out.trans (hb.mono HB5.out.size))
  have HT6 := hid (HT5.out.keep hb)
  clear hb K6 t0 t1 t2 t3
  obtain ⟨t0, t1, t2, t3⟩ := HT6.out.c4
  generalize chkM m = z at *
  have K7 := hid (awake_any w6)
  go_wp2_with fail
  refine K7.out.mono ?_
  rintro e w7 ⟨rfl, hb⟩
  have HB7 := hid (HB6.out.trans (hb.mono HB6.out.size))
  have HT7 := hid (HT6.out.keep hb)
  clear hb K7 t0 t1 t2 t3
  obtain ⟨t0, t1, t2, t3⟩ := HT7.out.c4
  clear t0 t1 t2 t3
  go_wp2
  go_ret
  exact ⟨rfl, HB7.out⟩

set_option maxRecDepth 100000 in
set_option maxHeartbeats 8000000 in
theorem offs_unc (m : MapD) (A : Option Addr) (c : Nat) (A2 : Option Addr) (c2 : Nat) (A3 : Option Addr) (c3 : Nat) (w : World) (h : MArg m A c A2 c2 A3 c3 w) (ht : thinM m = true) (hc : chkM m = 0) (hz : cstM m ≠ 0) :
    Calls Try.prog 8 #[.agg #[.slice A m.old.length c, .int .i64 m.nw, .slice A2 m.ss.length c2, .slice A3 m.js.length c3]] w fun e w' => e = .returned (.bool true) ∧ Below w.heap.size w w' := by
  have hB := below_box (w := w) #[.slice A m.old.length c, .int .i64 m.nw, .slice A2 m.ss.length c2, .slice A3 m.js.length c3] 26
  have hT := Blk.new w 26 #[.slice A m.old.length c, .int .i64 m.nw, .slice A2 m.ss.length c2, .slice A3 m.js.length c3]
  have HB0 := hid hB
  have HT0 := hid hT
  have HH := hid h
  obtain ⟨t0, t1, t2, t3⟩ := hT.c4
  clear h hB hT
  have HTN := hid ht
  have HTH := hid (thinM_iff.1 ht)
  have HC := hid hc
  have OK := hid (chk_okm hc)
  have hn1 := OK.out.n1
  have hn4 := OK.out.n4
  have hs8 := OK.out.s8
  obtain ⟨N, hN⟩ : ∃ N, m.nw.toNat = N := ⟨_, rfl⟩
  have hNI : m.nw = (N : Int) := by omega
  have hN4 : N ≤ 4 := by omega
  have HN := hid (And.intro hN hNI)
  have HAP := hid (show apL m = apTo m N by unfold apL; rw [hN])
  have hz9 : cstM m = 9 := by
    rw [cst_of, if_pos hc] at hz ⊢
    split
    · rename_i h; rw [if_pos h] at hz; exact absurd rfl hz
    · rfl
  have HZ := hid hz9
  have HZN := hid hz
  clear hz hz9
  clear ht hc hN hNI hn1 hn4
  go_enter Try.func8, Try.ntmps8
  have K1 := hid (thin_any m A c A2 c2 A3 c3 (w.alloc (.cells #[.slice A m.old.length c, .int .i64 m.nw, .slice A2 m.ss.length c2, .slice A3 m.js.length c3] 26)))
  rw [HTN.out] at K1
  go_wp2_with fail
  refine K1.out.mono ?_
  rintro e w1 ⟨rfl, hb⟩
  have HB1 := hid (HB0.out.trans (hb.mono HB0.out.size))
  have HT1 := hid (HT0.out.keep hb)
  clear hb K1 t0 t1 t2 t3
  obtain ⟨t0, t1, t2, t3⟩ := HT1.out.c4
  have K2 := hid (map_thin (HH.out.at_ HB1.out) HTH.out)
  go_wp2_with fail
  refine K2.out.mono ?_
  rintro e w2 ⟨P2, Q2, R2, rfl, hm, hb⟩
  have HB2 := hid (HB1.out.trans (hb.mono HB1.out.size))
  have HT2 := hid (HT1.out.keep hb)
  have M2 := hid hm
  clear hm
  clear hb K2 t0 t1 t2 t3
  obtain ⟨t0, t1, t2, t3⟩ := HT2.out.c4
  have K3 := hid (off_bad M2.out HZN.out)
  rw [HZ.out] at K3
  go_wp2_with fail
  refine K3.out.mono ?_
  rintro e w3 ⟨rfl, hb⟩
  have HB3 := hid (HB2.out.trans (hb.mono HB2.out.size))
  have HT3 := hid (HT2.out.keep hb)
  clear hb K3 t0 t1 t2 t3
  obtain ⟨t0, t1, t2, t3⟩ := HT3.out.c4
  have K4 := hid (map_thin (HH.out.at_ HB3.out) HTH.out)
  go_wp2_with fail
  refine K4.out.mono ?_
  rintro e w4 ⟨P4, Q4, R4, rfl, hm, hb⟩
  have HB4 := hid (HB3.out.trans (hb.mono HB3.out.size))
  have HT4 := hid (HT3.out.keep hb)
  have M4 := hid hm
  clear hm
  clear hb K4 t0 t1 t2 t3
  obtain ⟨t0, t1, t2, t3⟩ := HT4.out.c4
  have K5 := hid (apart_good M4.out HC.out)
  go_wp2_with fail
  refine K5.out.mono ?_
  rintro e w5 ⟨ya, rfl, hya, hb⟩
  have HB5 := hid (HB4.out.trans (hb.mono HB4.out.size))
  have HT5 := hid (HT4.out.keep hb)
  have HYA := hid hya
  clear hya
  clear hb K5 t0 t1 t2 t3
  obtain ⟨t0, t1, t2, t3⟩ := HT5.out.c4
  have BA0 := hid (Below.refl w5.heap.size w5)
  have K6 := hid (mfault_any m A c A2 c2 A3 c3 w5 (HH.out.at_ HB5.out).toMIn)
  rw [HC.out] at K6
  go_wp2_with fail
  refine K6.out.mono ?_
  rintro e w6 ⟨rfl, hb⟩
  have HB6 := hid (HB5.out.trans (hb.mono HB5.out.size))
  have HT6 := hid (HT5.out.keep hb)
  have BA6 := hid (BA0.out.trans (hb.mono BA0.out.size))
  clear hb K6 t0 t1 t2 t3
  obtain ⟨t0, t1, t2, t3⟩ := HT6.out.c4
  rw [HN.out.2] at t1
  go_wp2
  clear t0 t1 t2 t3
  go_loopw [8, 9] (fun v i W => ∃ k : Nat, k ≤ N ∧ i = .int .i64 k ∧ W.ownsRow w6.heap.size 3 1 v (apTo m k).length ((apTo m k).map (Value.int .i64)) ∧ Below w6.heap.size w6 W) (fun _ i _ => N - (intOf i).toNat)
  case atStart => exact ⟨0, Nat.zero_le _, rfl, ⟨rfl, .inl ⟨rfl, rfl⟩⟩, Below.refl _ _⟩
  case round =>
    obtain ⟨k, hk, rfl, ho, hbr⟩ := hrel
    have HR := hid (And.intro ho hbr)
    have HTR := hid (HT6.out.keep hbr)
    have HBR := hid (HB6.out.trans (hbr.mono HB6.out.size))
    obtain ⟨t0, t1, t2, t3⟩ := HTR.out.c4
    rw [HN.out.2] at t1
    have hml := apTo_len m k
    clear ho hbr
    by_cases hlt : k < N
    · have hkI : (k : Int) < (N : Int) := by omega
      cases hcb : conB m (ownL m) (k : Int)
      · have HCB := hid hcb
        clear hcb
        go_wp2
        clear t0 t1 t2 t3
        refine (wpIn_wide (n := 0)).1 ?_
        refine wpIn_region_each 5 (fun i v W' => match i with | 0 => v = .agg #[.slice A m.old.length c, .int .i64 m.nw, .slice A2 m.ss.length c2, .slice A3 m.js.length c3] | 1 => v = .agg #[.slice A m.old.length c, .int .i64 m.nw, .slice A2 m.ss.length c2, .slice A3 m.js.length c3] | 2 => ∃ (y : Option Addr × Nat), v = .slice y.1 (lst m (ownL m)).length y.2 ∧ IntsAt y (lst m (ownL m)) W' | 3 => v = .int .i64 (k : Int) | 4 => v = .bool false | _ => True) (fun A B => Below A.heap.size A B) (fun _ _ => True) (by kernel_rfl) (by kernel_rfl) ?_ (fun h k => h.trans (k.mono h.size)) ⟨rfl, rfl, rfl, Nat.le_refl _, fun _ _ => rfl⟩ trivial (by kernel_rfl) ?_ ?_
        · intro i v W1 W2 hb h
          match i, h with
          | 0, h => exact h
          | 1, h => exact h
          | 2, h =>
            obtain ⟨y, rfl, h1⟩ := h
            exact ⟨_, rfl, h1.at_ hb⟩
          | 3, h => exact h
          | 4, h => exact h
          | i + 5, h => trivial
        · refine ⟨?_, ?_, ?_, ?_, ?_, trivial⟩
          · -- 0
            intro li a1 W2 hA K hK
            have e1 := hA.par 1 (by kernel_rfl)
            obtain ⟨q1, q2, q3, q4⟩ := (HTR.out.keep hA.st).c4
            refine opStep none 0 rfl rfl (fun c hc => by cases hc) ?_
            go_simp
            exact hK _ _ rfl (Below.refl _ _) trivial
          · -- 1
            intro li a1 W2 hA K hK
            have e1 := hA.par 1 (by kernel_rfl)
            obtain ⟨q1, q2, q3, q4⟩ := (HTR.out.keep hA.st).c4
            refine opStep none 0 rfl rfl (fun c hc => by cases hc) ?_
            go_simp
            exact hK _ _ rfl (Below.refl _ _) trivial
          · -- 2
            intro li a1 W2 hA K hK
            have e61 : a1.tmps.getD 61 undef = .agg #[.slice A m.old.length c, .int .i64 m.nw, .slice A2 m.ss.length c2, .slice A3 m.js.length c3] := hA.val 1 61 (by kernel_rfl) (by kernel_rfl)
            refine opStep none 0 rfl rfl (fun c hc => by cases hc) ?_
            go_simp
            refine ((qown_any m A c A2 c2 A3 c3 W2 (HH.out.at_ (HBR.out.trans (hA.st.mono HBR.out.size))).toMIn (by omega)).mono fun _ _ => GivesInts.i).mono ?_
            rintro e W3 ⟨y, rfl, hy, hb3⟩
            exact hK _ _ ⟨y, rfl, hy⟩ hb3 trivial
          · -- 3
            intro li a1 W2 hA K hK
            have e9 := hA.par 9 (by kernel_rfl)
            refine opStep none 0 rfl rfl (fun c hc => by cases hc) ?_
            go_simp
            exact hK _ _ rfl (Below.refl _ _) trivial
          · -- 4
            intro li a1 W2 hA K hK
            have e60 : a1.tmps.getD 60 undef = .agg #[.slice A m.old.length c, .int .i64 m.nw, .slice A2 m.ss.length c2, .slice A3 m.js.length c3] := hA.val 0 60 (by kernel_rfl) (by kernel_rfl)
            obtain ⟨y62, e62, h62⟩ := hA.val 2 62 (by kernel_rfl) (by kernel_rfl)
            have e63 : a1.tmps.getD 63 undef = .int .i64 (k : Int) := hA.val 3 63 (by kernel_rfl) (by kernel_rfl)
            refine opStep none 0 rfl rfl (fun c hc => by cases hc) ?_
            go_simp
            refine (conn_own (HH.out.at_ (HBR.out.trans (hA.st.mono HBR.out.size))).toMIn OK.out (k : Int) h62 HCB.out).mono ?_
            rintro e W3 ⟨rfl, hb3⟩
            exact hK _ _ rfl hb3 trivial
        · intro li a1 W2 hD
          have e64 : a1.tmps.getD 64 undef = .bool false := hD.val 4 64 (by kernel_rfl) (by kernel_rfl)
          have hkp2 := hD.keeps (ds := [60, 61, 62, 63, 64, 65]) (by kernel_rfl)
          have hds := hD.size
          have hsz9 : a1.tmps.size = 138 := hD.size
          have hdd := hD.defers
          have hst := hD.st
          refine tail_val (i := 5) (v := .bool true) (W' := W2) none 0 rfl rfl rfl (fun c hc => by cases hc) (by go_simp) (by rw [hsz9]; decide) ?_
          intro a3 s3 d3 f3 o3
          have hkp3 := keeps_then hkp2 o3 (by decide)
          have e := act_mix [60, 61, 62, 63, 64, 65] (s3.trans hds) (d3.trans hdd) (fun i _ hc => hkp3 i hc)
          have hg9 : (fun i => a3.tmps.getD i undef) 65 = .bool true := f3
          generalize (fun i => a3.tmps.getD i undef) = g' at e hg9
          refine wpListIn_nil ?_
          rw [e]
          clear e hD hkp2 hkp3 s3 d3 f3 o3 hds hdd hsz9 e64
          simp only [mix, List.contains_cons, List.contains_nil, Nat.reduceAdd, Nat.reduceBEq, Bool.or_false, Bool.or_true, cond_true, cond_false, hg9]
          clear hg9
          have HST := hid (apTo_in HCB.out)
          have ho5 := row_kept (vo := .slice none 0 0) HR.out.1 (grown_of_below hst _) (.inl rfl)
          have HB5 := hid (HR.out.2.trans (hst.mono HR.out.2.size))
          have hs5 := HB5.out.size
          have HO := hid (ho5.alloc (.cells #[.int .i64 (k : Int)] 3))
          obtain ⟨i0, hi0, hz0, hz1, hz2⟩ := info_parts int_info
          clear hst ho5
          go_wp2_with (at_builtin; refine wpList_append_own_at _ rfl _ _ 22 rfl w6.heap.size 3 i0 (.int .i64 0) 1 8 Try.underlying22 hi0 hz0 hz1 hz2 rfl (by decide) u8 _ _ rfl HO.out ⟨W2.heap.size, 0, none⟩ 1 1 [.int .i64 (k : Int)] rfl rfl (by intro q u hq; cases q with | zero => simp at hq; subst hq; exact (World.cell?_alloc_new _ _ _ _) | succ q => simp at hq) (by intro u hu; simp at hu; subst hu; rfl) (by simp only [maxLen]; omega) (by omega) (by simp; omega) ?_; intro vo' w7 hown' hgrow _ hfr; have HNX := hid (show w7.ownsRow w6.heap.size 3 1 vo' (apTo m (k + 1)).length ((apTo m (k + 1)).map (Value.int .i64)) ∧ Below w6.heap.size w6 w7 from ⟨by rw [HST.out, List.length_append, List.map_append]; exact hown', below_row' (HB5.out.trans ((below_box _ _).mono HB5.out.size)) HO.out (Nat.le_refl _) hgrow (by simp; omega)⟩); clear hown' hgrow hfr)
          go_roundw
          case rel => exact ⟨k + 1, by omega, by go_num, HNX.out⟩
          case measure => first | (simp [intOf]; done) | (simp [intOf]; omega)
      · have HCB := hid hcb
        clear hcb
        go_wp2
        clear t0 t1 t2 t3
        refine (wpIn_wide (n := 0)).1 ?_
        refine wpIn_region_each 5 (fun i v W' => match i with | 0 => v = .agg #[.slice A m.old.length c, .int .i64 m.nw, .slice A2 m.ss.length c2, .slice A3 m.js.length c3] | 1 => v = .agg #[.slice A m.old.length c, .int .i64 m.nw, .slice A2 m.ss.length c2, .slice A3 m.js.length c3] | 2 => ∃ (y : Option Addr × Nat), v = .slice y.1 (lst m (ownL m)).length y.2 ∧ IntsAt y (lst m (ownL m)) W' | 3 => v = .int .i64 (k : Int) | 4 => v = .bool true | _ => True) (fun A B => Below A.heap.size A B) (fun _ _ => True) (by kernel_rfl) (by kernel_rfl) ?_ (fun h k => h.trans (k.mono h.size)) ⟨rfl, rfl, rfl, Nat.le_refl _, fun _ _ => rfl⟩ trivial (by kernel_rfl) ?_ ?_
        · intro i v W1 W2 hb h
          match i, h with
          | 0, h => exact h
          | 1, h => exact h
          | 2, h =>
            obtain ⟨y, rfl, h1⟩ := h
            exact ⟨_, rfl, h1.at_ hb⟩
          | 3, h => exact h
          | 4, h => exact h
          | i + 5, h => trivial
        · refine ⟨?_, ?_, ?_, ?_, ?_, trivial⟩
          · -- 0
            intro li a1 W2 hA K hK
            have e1 := hA.par 1 (by kernel_rfl)
            obtain ⟨q1, q2, q3, q4⟩ := (HTR.out.keep hA.st).c4
            refine opStep none 0 rfl rfl (fun c hc => by cases hc) ?_
            go_simp
            exact hK _ _ rfl (Below.refl _ _) trivial
          · -- 1
            intro li a1 W2 hA K hK
            have e1 := hA.par 1 (by kernel_rfl)
            obtain ⟨q1, q2, q3, q4⟩ := (HTR.out.keep hA.st).c4
            refine opStep none 0 rfl rfl (fun c hc => by cases hc) ?_
            go_simp
            exact hK _ _ rfl (Below.refl _ _) trivial
          · -- 2
            intro li a1 W2 hA K hK
            have e61 : a1.tmps.getD 61 undef = .agg #[.slice A m.old.length c, .int .i64 m.nw, .slice A2 m.ss.length c2, .slice A3 m.js.length c3] := hA.val 1 61 (by kernel_rfl) (by kernel_rfl)
            refine opStep none 0 rfl rfl (fun c hc => by cases hc) ?_
            go_simp
            refine ((qown_any m A c A2 c2 A3 c3 W2 (HH.out.at_ (HBR.out.trans (hA.st.mono HBR.out.size))).toMIn (by omega)).mono fun _ _ => GivesInts.i).mono ?_
            rintro e W3 ⟨y, rfl, hy, hb3⟩
            exact hK _ _ ⟨y, rfl, hy⟩ hb3 trivial
          · -- 3
            intro li a1 W2 hA K hK
            have e9 := hA.par 9 (by kernel_rfl)
            refine opStep none 0 rfl rfl (fun c hc => by cases hc) ?_
            go_simp
            exact hK _ _ rfl (Below.refl _ _) trivial
          · -- 4
            intro li a1 W2 hA K hK
            have e60 : a1.tmps.getD 60 undef = .agg #[.slice A m.old.length c, .int .i64 m.nw, .slice A2 m.ss.length c2, .slice A3 m.js.length c3] := hA.val 0 60 (by kernel_rfl) (by kernel_rfl)
            obtain ⟨y62, e62, h62⟩ := hA.val 2 62 (by kernel_rfl) (by kernel_rfl)
            have e63 : a1.tmps.getD 63 undef = .int .i64 (k : Int) := hA.val 3 63 (by kernel_rfl) (by kernel_rfl)
            refine opStep none 0 rfl rfl (fun c hc => by cases hc) ?_
            go_simp
            refine (conn_own (HH.out.at_ (HBR.out.trans (hA.st.mono HBR.out.size))).toMIn OK.out (k : Int) h62 HCB.out).mono ?_
            rintro e W3 ⟨rfl, hb3⟩
            exact hK _ _ rfl hb3 trivial
        · intro li a1 W2 hD
          have e64 : a1.tmps.getD 64 undef = .bool true := hD.val 4 64 (by kernel_rfl) (by kernel_rfl)
          have hkp2 := hD.keeps (ds := [60, 61, 62, 63, 64, 65]) (by kernel_rfl)
          have hds := hD.size
          have hsz9 : a1.tmps.size = 138 := hD.size
          have hdd := hD.defers
          have hst := hD.st
          refine tail_val (i := 5) (v := .bool false) (W' := W2) none 0 rfl rfl rfl (fun c hc => by cases hc) (by go_simp) (by rw [hsz9]; decide) ?_
          intro a3 s3 d3 f3 o3
          have hkp3 := keeps_then hkp2 o3 (by decide)
          have e := act_mix [60, 61, 62, 63, 64, 65] (s3.trans hds) (d3.trans hdd) (fun i _ hc => hkp3 i hc)
          have hg9 : (fun i => a3.tmps.getD i undef) 65 = .bool false := f3
          generalize (fun i => a3.tmps.getD i undef) = g' at e hg9
          refine wpListIn_nil ?_
          rw [e]
          clear e hD hkp2 hkp3 s3 d3 f3 o3 hds hdd hsz9 e64
          simp only [mix, List.contains_cons, List.contains_nil, Nat.reduceAdd, Nat.reduceBEq, Bool.or_false, Bool.or_true, cond_true, cond_false, hg9]
          clear hg9
          have HST := hid (apTo_out HCB.out)
          have HNX := hid (show W2.ownsRow w6.heap.size 3 1 u8 (apTo m (k + 1)).length ((apTo m (k + 1)).map (Value.int .i64)) ∧ Below w6.heap.size w6 W2 from ⟨by rw [HST.out]; exact row_kept (vo := .slice none 0 0) HR.out.1 (grown_of_below hst _) (.inl rfl), HR.out.2.trans (hst.mono HR.out.2.size)⟩)
          clear hst
          go_wp2
          go_roundw
          case rel => exact ⟨k + 1, by omega, by go_num, HNX.out⟩
          case measure => first | (simp [intOf]; done) | (simp [intOf]; omega)
    · have hkI : decide ((k : Int) < (N : Int)) = false := by simp; omega
      obtain rfl : N = k := by omega
      obtain ⟨A7, c7, e7, r1, r2, r3, _, _⟩ := own_ints rfl HR.out.1
      have HD := hid (show IntsAt (A7, c7) (apL m) wr by rw [HAP.out]; exact ⟨r3, r1, r2⟩)
      subst e7
      rw [show apTo m N = apL m from HAP.out.symm]
      have BX := hid (BA6.out.trans (HR.out.2.mono BA6.out.size))
      have HBX := hid HBR.out
      have HTX := hid HTR.out
      clear r1 r2 r3 HR HTR HBR hml
      have HAA_0 := hid (HD.out)
      have K7 := hid (ints_same (HYA.out.at_ BX.out) HAA_0.out)
      go_wp2_with fail
      refine K7.out.mono ?_
      rintro e w7 ⟨rfl, hb⟩
      have HB7 := hid (HBX.out.trans (hb.mono HBX.out.size))
      have HT7 := hid (HTX.out.keep hb)
      have BA7 := hid (BX.out.trans (hb.mono BX.out.size))
      have HAA_7 := hid (HAA_0.out.at_ hb)
      clear hb K7 t0 t1 t2 t3
      obtain ⟨t0, t1, t2, t3⟩ := HT7.out.c4
      have K8 := hid (mconsist_any m A c A2 c2 A3 c3 w7 (HH.out.at_ HB7.out).toMIn)
      rw [HZ.out] at K8
      go_wp2_with fail
      refine K8.out.mono ?_
      rintro e w8 ⟨rfl, hb⟩
      have HB8 := hid (HB7.out.trans (hb.mono HB7.out.size))
      have HT8 := hid (HT7.out.keep hb)
      have BA8 := hid (BA7.out.trans (hb.mono BA7.out.size))
      have HAA_8 := hid (HAA_7.out.at_ hb)
      clear hb K8 t0 t1 t2 t3
      obtain ⟨t0, t1, t2, t3⟩ := HT8.out.c4
      have K9 := hid (awake_any w8)
      go_wp2_with fail
      refine K9.out.mono ?_
      rintro e w9 ⟨rfl, hb⟩
      have HB9 := hid (HB8.out.trans (hb.mono HB8.out.size))
      have HT9 := hid (HT8.out.keep hb)
      have BA9 := hid (BA8.out.trans (hb.mono BA8.out.size))
      have HAA_9 := hid (HAA_8.out.at_ hb)
      clear hb K9 t0 t1 t2 t3
      obtain ⟨t0, t1, t2, t3⟩ := HT9.out.c4
      clear t0 t1 t2 t3
      go_wp2
      go_ret
      exact ⟨rfl, HB9.out⟩

set_option maxRecDepth 100000 in
set_option maxHeartbeats 8000000 in
theorem offs_good (m : MapD) (A : Option Addr) (c : Nat) (A2 : Option Addr) (c2 : Nat) (A3 : Option Addr) (c3 : Nat) (w : World) (h : MArg m A c A2 c2 A3 c3 w) (ht : thinM m = true) (hc : chkM m = 0) (hz : cstM m = 0) :
    Calls Try.prog 8 #[.agg #[.slice A m.old.length c, .int .i64 m.nw, .slice A2 m.ss.length c2, .slice A3 m.js.length c3]] w fun e w' => e = .returned (.bool true) ∧ Below w.heap.size w w' := by
  have hB := below_box (w := w) #[.slice A m.old.length c, .int .i64 m.nw, .slice A2 m.ss.length c2, .slice A3 m.js.length c3] 26
  have hT := Blk.new w 26 #[.slice A m.old.length c, .int .i64 m.nw, .slice A2 m.ss.length c2, .slice A3 m.js.length c3]
  have HB0 := hid hB
  have HT0 := hid hT
  have HH := hid h
  obtain ⟨t0, t1, t2, t3⟩ := hT.c4
  clear h hB hT
  have HTN := hid ht
  have HTH := hid (thinM_iff.1 ht)
  have HC := hid hc
  have OK := hid (chk_okm hc)
  have hn1 := OK.out.n1
  have hn4 := OK.out.n4
  have hs8 := OK.out.s8
  obtain ⟨N, hN⟩ : ∃ N, m.nw.toNat = N := ⟨_, rfl⟩
  have hNI : m.nw = (N : Int) := by omega
  have hN4 : N ≤ 4 := by omega
  have HN := hid (And.intro hN hNI)
  have HAP := hid (show apL m = apTo m N by unfold apL; rw [hN])
  have HZ := hid hz
  clear hz
  clear ht hc hN hNI hn1 hn4
  go_enter Try.func8, Try.ntmps8
  have K1 := hid (thin_any m A c A2 c2 A3 c3 (w.alloc (.cells #[.slice A m.old.length c, .int .i64 m.nw, .slice A2 m.ss.length c2, .slice A3 m.js.length c3] 26)))
  rw [HTN.out] at K1
  go_wp2_with fail
  refine K1.out.mono ?_
  rintro e w1 ⟨rfl, hb⟩
  have HB1 := hid (HB0.out.trans (hb.mono HB0.out.size))
  have HT1 := hid (HT0.out.keep hb)
  clear hb K1 t0 t1 t2 t3
  obtain ⟨t0, t1, t2, t3⟩ := HT1.out.c4
  have K2 := hid (map_thin (HH.out.at_ HB1.out) HTH.out)
  go_wp2_with fail
  refine K2.out.mono ?_
  rintro e w2 ⟨P2, Q2, R2, rfl, hm, hb⟩
  have HB2 := hid (HB1.out.trans (hb.mono HB1.out.size))
  have HT2 := hid (HT1.out.keep hb)
  have M2 := hid hm
  clear hm
  clear hb K2 t0 t1 t2 t3
  obtain ⟨t0, t1, t2, t3⟩ := HT2.out.c4
  have K3 := hid (off_good M2.out HZ.out)
  go_wp2_with fail
  refine K3.out.mono ?_
  rintro e w3 ⟨yo, rfl, hyo, hb⟩
  have HB3 := hid (HB2.out.trans (hb.mono HB2.out.size))
  have HT3 := hid (HT2.out.keep hb)
  have HYO := hid hyo
  clear hyo
  clear hb K3 t0 t1 t2 t3
  obtain ⟨t0, t1, t2, t3⟩ := HT3.out.c4
  have BO0 := hid (Below.refl w3.heap.size w3)
  have K4 := hid (map_thin (HH.out.at_ HB3.out) HTH.out)
  go_wp2_with fail
  refine K4.out.mono ?_
  rintro e w4 ⟨P4, Q4, R4, rfl, hm, hb⟩
  have HB4 := hid (HB3.out.trans (hb.mono HB3.out.size))
  have HT4 := hid (HT3.out.keep hb)
  have BO4 := hid (BO0.out.trans (hb.mono BO0.out.size))
  have M4 := hid hm
  clear hm
  clear hb K4 t0 t1 t2 t3
  obtain ⟨t0, t1, t2, t3⟩ := HT4.out.c4
  have K5 := hid (apart_good M4.out HC.out)
  go_wp2_with fail
  refine K5.out.mono ?_
  rintro e w5 ⟨ya, rfl, hya, hb⟩
  have HB5 := hid (HB4.out.trans (hb.mono HB4.out.size))
  have HT5 := hid (HT4.out.keep hb)
  have BO5 := hid (BO4.out.trans (hb.mono BO4.out.size))
  have HYA := hid hya
  clear hya
  clear hb K5 t0 t1 t2 t3
  obtain ⟨t0, t1, t2, t3⟩ := HT5.out.c4
  have BA0 := hid (Below.refl w5.heap.size w5)
  have K6 := hid (mfault_any m A c A2 c2 A3 c3 w5 (HH.out.at_ HB5.out).toMIn)
  rw [HC.out] at K6
  go_wp2_with fail
  refine K6.out.mono ?_
  rintro e w6 ⟨rfl, hb⟩
  have HB6 := hid (HB5.out.trans (hb.mono HB5.out.size))
  have HT6 := hid (HT5.out.keep hb)
  have BO6 := hid (BO5.out.trans (hb.mono BO5.out.size))
  have BA6 := hid (BA0.out.trans (hb.mono BA0.out.size))
  clear hb K6 t0 t1 t2 t3
  obtain ⟨t0, t1, t2, t3⟩ := HT6.out.c4
  rw [HN.out.2] at t1
  go_wp2
  clear t0 t1 t2 t3
  go_loopw [8, 9] (fun v i W => ∃ k : Nat, k ≤ N ∧ i = .int .i64 k ∧ W.ownsRow w6.heap.size 3 1 v (apTo m k).length ((apTo m k).map (Value.int .i64)) ∧ Below w6.heap.size w6 W) (fun _ i _ => N - (intOf i).toNat)
  case atStart => exact ⟨0, Nat.zero_le _, rfl, ⟨rfl, .inl ⟨rfl, rfl⟩⟩, Below.refl _ _⟩
  case round =>
    obtain ⟨k, hk, rfl, ho, hbr⟩ := hrel
    have HR := hid (And.intro ho hbr)
    have HTR := hid (HT6.out.keep hbr)
    have HBR := hid (HB6.out.trans (hbr.mono HB6.out.size))
    obtain ⟨t0, t1, t2, t3⟩ := HTR.out.c4
    rw [HN.out.2] at t1
    have hml := apTo_len m k
    clear ho hbr
    by_cases hlt : k < N
    · have hkI : (k : Int) < (N : Int) := by omega
      cases hcb : conB m (ownL m) (k : Int)
      · have HCB := hid hcb
        clear hcb
        go_wp2
        clear t0 t1 t2 t3
        refine (wpIn_wide (n := 0)).1 ?_
        refine wpIn_region_each 5 (fun i v W' => match i with | 0 => v = .agg #[.slice A m.old.length c, .int .i64 m.nw, .slice A2 m.ss.length c2, .slice A3 m.js.length c3] | 1 => v = .agg #[.slice A m.old.length c, .int .i64 m.nw, .slice A2 m.ss.length c2, .slice A3 m.js.length c3] | 2 => ∃ (y : Option Addr × Nat), v = .slice y.1 (lst m (ownL m)).length y.2 ∧ IntsAt y (lst m (ownL m)) W' | 3 => v = .int .i64 (k : Int) | 4 => v = .bool false | _ => True) (fun A B => Below A.heap.size A B) (fun _ _ => True) (by kernel_rfl) (by kernel_rfl) ?_ (fun h k => h.trans (k.mono h.size)) ⟨rfl, rfl, rfl, Nat.le_refl _, fun _ _ => rfl⟩ trivial (by kernel_rfl) ?_ ?_
        · intro i v W1 W2 hb h
          match i, h with
          | 0, h => exact h
          | 1, h => exact h
          | 2, h =>
            obtain ⟨y, rfl, h1⟩ := h
            exact ⟨_, rfl, h1.at_ hb⟩
          | 3, h => exact h
          | 4, h => exact h
          | i + 5, h => trivial
        · refine ⟨?_, ?_, ?_, ?_, ?_, trivial⟩
          · -- 0
            intro li a1 W2 hA K hK
            have e1 := hA.par 1 (by kernel_rfl)
            obtain ⟨q1, q2, q3, q4⟩ := (HTR.out.keep hA.st).c4
            refine opStep none 0 rfl rfl (fun c hc => by cases hc) ?_
            go_simp
            exact hK _ _ rfl (Below.refl _ _) trivial
          · -- 1
            intro li a1 W2 hA K hK
            have e1 := hA.par 1 (by kernel_rfl)
            obtain ⟨q1, q2, q3, q4⟩ := (HTR.out.keep hA.st).c4
            refine opStep none 0 rfl rfl (fun c hc => by cases hc) ?_
            go_simp
            exact hK _ _ rfl (Below.refl _ _) trivial
          · -- 2
            intro li a1 W2 hA K hK
            have e61 : a1.tmps.getD 61 undef = .agg #[.slice A m.old.length c, .int .i64 m.nw, .slice A2 m.ss.length c2, .slice A3 m.js.length c3] := hA.val 1 61 (by kernel_rfl) (by kernel_rfl)
            refine opStep none 0 rfl rfl (fun c hc => by cases hc) ?_
            go_simp
            refine ((qown_any m A c A2 c2 A3 c3 W2 (HH.out.at_ (HBR.out.trans (hA.st.mono HBR.out.size))).toMIn (by omega)).mono fun _ _ => GivesInts.i).mono ?_
            rintro e W3 ⟨y, rfl, hy, hb3⟩
            exact hK _ _ ⟨y, rfl, hy⟩ hb3 trivial
          · -- 3
            intro li a1 W2 hA K hK
            have e9 := hA.par 9 (by kernel_rfl)
            refine opStep none 0 rfl rfl (fun c hc => by cases hc) ?_
            go_simp
            exact hK _ _ rfl (Below.refl _ _) trivial
          · -- 4
            intro li a1 W2 hA K hK
            have e60 : a1.tmps.getD 60 undef = .agg #[.slice A m.old.length c, .int .i64 m.nw, .slice A2 m.ss.length c2, .slice A3 m.js.length c3] := hA.val 0 60 (by kernel_rfl) (by kernel_rfl)
            obtain ⟨y62, e62, h62⟩ := hA.val 2 62 (by kernel_rfl) (by kernel_rfl)
            have e63 : a1.tmps.getD 63 undef = .int .i64 (k : Int) := hA.val 3 63 (by kernel_rfl) (by kernel_rfl)
            refine opStep none 0 rfl rfl (fun c hc => by cases hc) ?_
            go_simp
            refine (conn_own (HH.out.at_ (HBR.out.trans (hA.st.mono HBR.out.size))).toMIn OK.out (k : Int) h62 HCB.out).mono ?_
            rintro e W3 ⟨rfl, hb3⟩
            exact hK _ _ rfl hb3 trivial
        · intro li a1 W2 hD
          have e64 : a1.tmps.getD 64 undef = .bool false := hD.val 4 64 (by kernel_rfl) (by kernel_rfl)
          have hkp2 := hD.keeps (ds := [60, 61, 62, 63, 64, 65]) (by kernel_rfl)
          have hds := hD.size
          have hsz9 : a1.tmps.size = 138 := hD.size
          have hdd := hD.defers
          have hst := hD.st
          refine tail_val (i := 5) (v := .bool true) (W' := W2) none 0 rfl rfl rfl (fun c hc => by cases hc) (by go_simp) (by rw [hsz9]; decide) ?_
          intro a3 s3 d3 f3 o3
          have hkp3 := keeps_then hkp2 o3 (by decide)
          have e := act_mix [60, 61, 62, 63, 64, 65] (s3.trans hds) (d3.trans hdd) (fun i _ hc => hkp3 i hc)
          have hg9 : (fun i => a3.tmps.getD i undef) 65 = .bool true := f3
          generalize (fun i => a3.tmps.getD i undef) = g' at e hg9
          refine wpListIn_nil ?_
          rw [e]
          clear e hD hkp2 hkp3 s3 d3 f3 o3 hds hdd hsz9 e64
          simp only [mix, List.contains_cons, List.contains_nil, Nat.reduceAdd, Nat.reduceBEq, Bool.or_false, Bool.or_true, cond_true, cond_false, hg9]
          clear hg9
          have HST := hid (apTo_in HCB.out)
          have ho5 := row_kept (vo := .slice none 0 0) HR.out.1 (grown_of_below hst _) (.inl rfl)
          have HB5 := hid (HR.out.2.trans (hst.mono HR.out.2.size))
          have hs5 := HB5.out.size
          have HO := hid (ho5.alloc (.cells #[.int .i64 (k : Int)] 3))
          obtain ⟨i0, hi0, hz0, hz1, hz2⟩ := info_parts int_info
          clear hst ho5
          go_wp2_with (at_builtin; refine wpList_append_own_at _ rfl _ _ 22 rfl w6.heap.size 3 i0 (.int .i64 0) 1 8 Try.underlying22 hi0 hz0 hz1 hz2 rfl (by decide) u8 _ _ rfl HO.out ⟨W2.heap.size, 0, none⟩ 1 1 [.int .i64 (k : Int)] rfl rfl (by intro q u hq; cases q with | zero => simp at hq; subst hq; exact (World.cell?_alloc_new _ _ _ _) | succ q => simp at hq) (by intro u hu; simp at hu; subst hu; rfl) (by simp only [maxLen]; omega) (by omega) (by simp; omega) ?_; intro vo' w7 hown' hgrow _ hfr; have HNX := hid (show w7.ownsRow w6.heap.size 3 1 vo' (apTo m (k + 1)).length ((apTo m (k + 1)).map (Value.int .i64)) ∧ Below w6.heap.size w6 w7 from ⟨by rw [HST.out, List.length_append, List.map_append]; exact hown', below_row' (HB5.out.trans ((below_box _ _).mono HB5.out.size)) HO.out (Nat.le_refl _) hgrow (by simp; omega)⟩); clear hown' hgrow hfr)
          go_roundw
          case rel => exact ⟨k + 1, by omega, by go_num, HNX.out⟩
          case measure => first | (simp [intOf]; done) | (simp [intOf]; omega)
      · have HCB := hid hcb
        clear hcb
        go_wp2
        clear t0 t1 t2 t3
        refine (wpIn_wide (n := 0)).1 ?_
        refine wpIn_region_each 5 (fun i v W' => match i with | 0 => v = .agg #[.slice A m.old.length c, .int .i64 m.nw, .slice A2 m.ss.length c2, .slice A3 m.js.length c3] | 1 => v = .agg #[.slice A m.old.length c, .int .i64 m.nw, .slice A2 m.ss.length c2, .slice A3 m.js.length c3] | 2 => ∃ (y : Option Addr × Nat), v = .slice y.1 (lst m (ownL m)).length y.2 ∧ IntsAt y (lst m (ownL m)) W' | 3 => v = .int .i64 (k : Int) | 4 => v = .bool true | _ => True) (fun A B => Below A.heap.size A B) (fun _ _ => True) (by kernel_rfl) (by kernel_rfl) ?_ (fun h k => h.trans (k.mono h.size)) ⟨rfl, rfl, rfl, Nat.le_refl _, fun _ _ => rfl⟩ trivial (by kernel_rfl) ?_ ?_
        · intro i v W1 W2 hb h
          match i, h with
          | 0, h => exact h
          | 1, h => exact h
          | 2, h =>
            obtain ⟨y, rfl, h1⟩ := h
            exact ⟨_, rfl, h1.at_ hb⟩
          | 3, h => exact h
          | 4, h => exact h
          | i + 5, h => trivial
        · refine ⟨?_, ?_, ?_, ?_, ?_, trivial⟩
          · -- 0
            intro li a1 W2 hA K hK
            have e1 := hA.par 1 (by kernel_rfl)
            obtain ⟨q1, q2, q3, q4⟩ := (HTR.out.keep hA.st).c4
            refine opStep none 0 rfl rfl (fun c hc => by cases hc) ?_
            go_simp
            exact hK _ _ rfl (Below.refl _ _) trivial
          · -- 1
            intro li a1 W2 hA K hK
            have e1 := hA.par 1 (by kernel_rfl)
            obtain ⟨q1, q2, q3, q4⟩ := (HTR.out.keep hA.st).c4
            refine opStep none 0 rfl rfl (fun c hc => by cases hc) ?_
            go_simp
            exact hK _ _ rfl (Below.refl _ _) trivial
          · -- 2
            intro li a1 W2 hA K hK
            have e61 : a1.tmps.getD 61 undef = .agg #[.slice A m.old.length c, .int .i64 m.nw, .slice A2 m.ss.length c2, .slice A3 m.js.length c3] := hA.val 1 61 (by kernel_rfl) (by kernel_rfl)
            refine opStep none 0 rfl rfl (fun c hc => by cases hc) ?_
            go_simp
            refine ((qown_any m A c A2 c2 A3 c3 W2 (HH.out.at_ (HBR.out.trans (hA.st.mono HBR.out.size))).toMIn (by omega)).mono fun _ _ => GivesInts.i).mono ?_
            rintro e W3 ⟨y, rfl, hy, hb3⟩
            exact hK _ _ ⟨y, rfl, hy⟩ hb3 trivial
          · -- 3
            intro li a1 W2 hA K hK
            have e9 := hA.par 9 (by kernel_rfl)
            refine opStep none 0 rfl rfl (fun c hc => by cases hc) ?_
            go_simp
            exact hK _ _ rfl (Below.refl _ _) trivial
          · -- 4
            intro li a1 W2 hA K hK
            have e60 : a1.tmps.getD 60 undef = .agg #[.slice A m.old.length c, .int .i64 m.nw, .slice A2 m.ss.length c2, .slice A3 m.js.length c3] := hA.val 0 60 (by kernel_rfl) (by kernel_rfl)
            obtain ⟨y62, e62, h62⟩ := hA.val 2 62 (by kernel_rfl) (by kernel_rfl)
            have e63 : a1.tmps.getD 63 undef = .int .i64 (k : Int) := hA.val 3 63 (by kernel_rfl) (by kernel_rfl)
            refine opStep none 0 rfl rfl (fun c hc => by cases hc) ?_
            go_simp
            refine (conn_own (HH.out.at_ (HBR.out.trans (hA.st.mono HBR.out.size))).toMIn OK.out (k : Int) h62 HCB.out).mono ?_
            rintro e W3 ⟨rfl, hb3⟩
            exact hK _ _ rfl hb3 trivial
        · intro li a1 W2 hD
          have e64 : a1.tmps.getD 64 undef = .bool true := hD.val 4 64 (by kernel_rfl) (by kernel_rfl)
          have hkp2 := hD.keeps (ds := [60, 61, 62, 63, 64, 65]) (by kernel_rfl)
          have hds := hD.size
          have hsz9 : a1.tmps.size = 138 := hD.size
          have hdd := hD.defers
          have hst := hD.st
          refine tail_val (i := 5) (v := .bool false) (W' := W2) none 0 rfl rfl rfl (fun c hc => by cases hc) (by go_simp) (by rw [hsz9]; decide) ?_
          intro a3 s3 d3 f3 o3
          have hkp3 := keeps_then hkp2 o3 (by decide)
          have e := act_mix [60, 61, 62, 63, 64, 65] (s3.trans hds) (d3.trans hdd) (fun i _ hc => hkp3 i hc)
          have hg9 : (fun i => a3.tmps.getD i undef) 65 = .bool false := f3
          generalize (fun i => a3.tmps.getD i undef) = g' at e hg9
          refine wpListIn_nil ?_
          rw [e]
          clear e hD hkp2 hkp3 s3 d3 f3 o3 hds hdd hsz9 e64
          simp only [mix, List.contains_cons, List.contains_nil, Nat.reduceAdd, Nat.reduceBEq, Bool.or_false, Bool.or_true, cond_true, cond_false, hg9]
          clear hg9
          have HST := hid (apTo_out HCB.out)
          have HNX := hid (show W2.ownsRow w6.heap.size 3 1 u8 (apTo m (k + 1)).length ((apTo m (k + 1)).map (Value.int .i64)) ∧ Below w6.heap.size w6 W2 from ⟨by rw [HST.out]; exact row_kept (vo := .slice none 0 0) HR.out.1 (grown_of_below hst _) (.inl rfl), HR.out.2.trans (hst.mono HR.out.2.size)⟩)
          clear hst
          go_wp2
          go_roundw
          case rel => exact ⟨k + 1, by omega, by go_num, HNX.out⟩
          case measure => first | (simp [intOf]; done) | (simp [intOf]; omega)
    · have hkI : decide ((k : Int) < (N : Int)) = false := by simp; omega
      obtain rfl : N = k := by omega
      obtain ⟨A7, c7, e7, r1, r2, r3, _, _⟩ := own_ints rfl HR.out.1
      have HD := hid (show IntsAt (A7, c7) (apL m) wr by rw [HAP.out]; exact ⟨r3, r1, r2⟩)
      subst e7
      rw [show apTo m N = apL m from HAP.out.symm]
      have BX := hid (BA6.out.trans (HR.out.2.mono BA6.out.size))
      have HBX := hid HBR.out
      have HTX := hid HTR.out
      have BXO := hid (BO6.out.trans (HR.out.2.mono BO6.out.size))
      clear r1 r2 r3 HR HTR HBR hml
      have HAA_0 := hid (HD.out)
      have K7 := hid (ints_same (HYA.out.at_ BX.out) HAA_0.out)
      go_wp2_with fail
      refine K7.out.mono ?_
      rintro e w7 ⟨rfl, hb⟩
      have HB7 := hid (HBX.out.trans (hb.mono HBX.out.size))
      have HT7 := hid (HTX.out.keep hb)
      have BA7 := hid (BX.out.trans (hb.mono BX.out.size))
      have BO7 := hid (BXO.out.trans (hb.mono BXO.out.size))
      have HAA_7 := hid (HAA_0.out.at_ hb)
      clear hb K7 t0 t1 t2 t3
      obtain ⟨t0, t1, t2, t3⟩ := HT7.out.c4
      have K8 := hid (mconsist_any m A c A2 c2 A3 c3 w7 (HH.out.at_ HB7.out).toMIn)
      rw [HZ.out] at K8
      go_wp2_with fail
      refine K8.out.mono ?_
      rintro e w8 ⟨rfl, hb⟩
      have HB8 := hid (HB7.out.trans (hb.mono HB7.out.size))
      have HT8 := hid (HT7.out.keep hb)
      have BA8 := hid (BA7.out.trans (hb.mono BA7.out.size))
      have BO8 := hid (BO7.out.trans (hb.mono BO7.out.size))
      have HAA_8 := hid (HAA_7.out.at_ hb)
      clear hb K8 t0 t1 t2 t3
      obtain ⟨t0, t1, t2, t3⟩ := HT8.out.c4
      have HTR := HT8
      have HBR := HB8
      clear t0 t1 t2 t3
      go_wp2
      refine (wpIn_wide (n := 0)).1 ?_
      refine wpIn_region_each 6 (fun i v W' => match i with | 0 => v = .agg #[.slice A m.old.length c, .int .i64 m.nw, .slice A2 m.ss.length c2, .slice A3 m.js.length c3] | 1 => v = .agg #[.slice A m.old.length c, .int .i64 m.nw, .slice A2 m.ss.length c2, .slice A3 m.js.length c3] | 2 => ∃ (y : Option Addr × Nat), v = .slice y.1 (lst m (ownL m)).length y.2 ∧ IntsAt y (lst m (ownL m)) W' | 3 => v = .agg #[.slice A m.old.length c, .int .i64 m.nw, .slice A2 m.ss.length c2, .slice A3 m.js.length c3] | 4 => ∃ (y : Option Addr × Nat), v = .slice y.1 (car m).length y.2 ∧ IntsAt y (car m) W' | 5 => ∃ (y : Option Addr × Nat), v = .slice y.1 (smD m (ownL m) (car m)).length y.2 ∧ IntsAt y (smD m (ownL m) (car m)) W' | _ => True) (fun A B => Below A.heap.size A B) (fun _ _ => True) (by kernel_rfl) (by kernel_rfl) ?_ (fun h k => h.trans (k.mono h.size)) ⟨rfl, rfl, rfl, Nat.le_refl _, fun _ _ => rfl⟩ trivial (by kernel_rfl) ?_ ?_
      · intro i v W1 W2 hb h
        match i, h with
        | 0, h => exact h
        | 1, h => exact h
        | 2, h =>
          obtain ⟨y, rfl, h1⟩ := h
          exact ⟨_, rfl, h1.at_ hb⟩
        | 3, h => exact h
        | 4, h =>
          obtain ⟨y, rfl, h1⟩ := h
          exact ⟨_, rfl, h1.at_ hb⟩
        | 5, h =>
          obtain ⟨y, rfl, h1⟩ := h
          exact ⟨_, rfl, h1.at_ hb⟩
        | i + 6, h => trivial
      · refine ⟨?_, ?_, ?_, ?_, ?_, ?_, trivial⟩
        · -- 0
          intro li a1 W2 hA K hK
          have e1 := hA.par 1 (by kernel_rfl)
          obtain ⟨q1, q2, q3, q4⟩ := (HTR.out.keep hA.st).c4
          refine opStep none 0 rfl rfl (fun c hc => by cases hc) ?_
          go_simp
          exact hK _ _ rfl (Below.refl _ _) trivial
        · -- 1
          intro li a1 W2 hA K hK
          have e1 := hA.par 1 (by kernel_rfl)
          obtain ⟨q1, q2, q3, q4⟩ := (HTR.out.keep hA.st).c4
          refine opStep none 0 rfl rfl (fun c hc => by cases hc) ?_
          go_simp
          exact hK _ _ rfl (Below.refl _ _) trivial
        · -- 2
          intro li a1 W2 hA K hK
          have e94 : a1.tmps.getD 94 undef = .agg #[.slice A m.old.length c, .int .i64 m.nw, .slice A2 m.ss.length c2, .slice A3 m.js.length c3] := hA.val 1 94 (by kernel_rfl) (by kernel_rfl)
          refine opStep none 0 rfl rfl (fun c hc => by cases hc) ?_
          go_simp
          refine ((qown_any m A c A2 c2 A3 c3 W2 (HH.out.at_ (HBR.out.trans (hA.st.mono HBR.out.size))).toMIn (by omega)).mono fun _ _ => GivesInts.i).mono ?_
          rintro e W3 ⟨y, rfl, hy, hb3⟩
          exact hK _ _ ⟨y, rfl, hy⟩ hb3 trivial
        · -- 3
          intro li a1 W2 hA K hK
          have e1 := hA.par 1 (by kernel_rfl)
          obtain ⟨q1, q2, q3, q4⟩ := (HTR.out.keep hA.st).c4
          refine opStep none 0 rfl rfl (fun c hc => by cases hc) ?_
          go_simp
          exact hK _ _ rfl (Below.refl _ _) trivial
        · -- 4
          intro li a1 W2 hA K hK
          have e96 : a1.tmps.getD 96 undef = .agg #[.slice A m.old.length c, .int .i64 m.nw, .slice A2 m.ss.length c2, .slice A3 m.js.length c3] := hA.val 3 96 (by kernel_rfl) (by kernel_rfl)
          refine opStep none 0 rfl rfl (fun c hc => by cases hc) ?_
          go_simp
          refine ((qcarry_any m A c A2 c2 A3 c3 W2 (HH.out.at_ (HBR.out.trans (hA.st.mono HBR.out.size))).toMIn OK.out).mono fun _ _ => GivesInts.i).mono ?_
          rintro e W3 ⟨y, rfl, hy, hb3⟩
          exact hK _ _ ⟨y, rfl, hy⟩ hb3 trivial
        · -- 5
          intro li a1 W2 hA K hK
          have e93 : a1.tmps.getD 93 undef = .agg #[.slice A m.old.length c, .int .i64 m.nw, .slice A2 m.ss.length c2, .slice A3 m.js.length c3] := hA.val 0 93 (by kernel_rfl) (by kernel_rfl)
          obtain ⟨y95, e95, h95⟩ := hA.val 2 95 (by kernel_rfl) (by kernel_rfl)
          obtain ⟨y97, e97, h97⟩ := hA.val 4 97 (by kernel_rfl) (by kernel_rfl)
          refine opStep none 0 rfl rfl (fun c hc => by cases hc) ?_
          go_simp
          refine (sums_own m A c A2 c2 A3 c3 OK.out h95 h97 (car_len m) (car_bounds OK.out)).mono ?_
          rintro e W3 ⟨y, rfl, hy, hb3⟩
          exact hK _ _ ⟨y, rfl, hy⟩ hb3 trivial
      · intro li a1 W2 hD
        obtain ⟨⟨Ac, c98⟩, e98, h98⟩ := hD.val 5 98 (by kernel_rfl) (by kernel_rfl)
        have hsl : (smD m (ownL m) (car m)).length = N := by rw [smD_len0, HN.out.1]
        obtain ⟨x0, hx0⟩ : ∃ x, (smD m (ownL m) (car m))[0]? = some x := ⟨_, List.getElem?_eq_getElem (by rw [hsl]; have := HN.out.2; have := OK.out.n1; omega)⟩
        obtain ⟨ac, ec, _, _⟩ := h98.1 0 x0 hx0
        replace ec : Ac = some ac := ec
        subst ec
        replace e98 : a1.tmps.getD 98 undef = .slice (some ac) N c98 := by rw [← hsl]; exact e98
        clear hx0 hsl
        have hkp2 := hD.keeps (ds := [93, 94, 95, 96, 97, 98, 12]) (by kernel_rfl)
        have hds := hD.size
        have hsz9 : a1.tmps.size = 138 := hD.size
        have hdd := hD.defers
        have hst := hD.st
        refine tail_val (i := 6) (v := .slice (some ac) N c98) (W' := W2) none 0 rfl rfl rfl (fun c hc => by cases hc) (by go_simp) (by rw [hsz9]; decide) ?_
        intro a3 s3 d3 f3 o3
        have hkp3 := keeps_then hkp2 o3 (by decide)
        have e := act_mix [93, 94, 95, 96, 97, 98, 12] (s3.trans hds) (d3.trans hdd) (fun i _ hc => hkp3 i hc)
        have hg9 : (fun i => a3.tmps.getD i undef) 12 = .slice (some ac) N c98 := f3
        generalize (fun i => a3.tmps.getD i undef) = g' at e hg9
        refine wpListIn_nil ?_
        rw [e]
        clear e hD hkp2 hkp3 s3 d3 f3 o3 hds hdd hsz9 e98
        simp only [mix, List.contains_cons, List.contains_nil, Nat.reduceAdd, Nat.reduceBEq, Bool.or_false, Bool.or_true, cond_true, cond_false, hg9]
        clear hg9
        have HC4 := hid h98
        have HB4 := hid (HBR.out.trans (hst.mono HBR.out.size))
        have HT4 := hid (HTR.out.keep hst)
        have HYO4 := hid (HYO.out.at_ (BO8.out.trans (hst.mono BO8.out.size)))
        clear h98 hst HTR HBR
        generalize W2 = w4 at *
        obtain ⟨t0, t1, t2, t3⟩ := HT4.out.c4
        rw [HN.out.2] at t1
        go_wp2
        clear t0 t1 t2 t3
        go_loopw [11, 13, 14] (fun v i _ W => ∃ k : Nat, k ≤ N ∧ i = .int .i64 k ∧ W.ownsRow w4.heap.size 3 1 v k (((List.range k).map (offOne m)).map (Value.int .i64)) ∧ Below w4.heap.size w4 W) (fun _ i _ _ => N - (intOf i).toNat)
        case atStart => exact ⟨0, Nat.zero_le _, rfl, ⟨rfl, .inl ⟨rfl, rfl⟩⟩, Below.refl _ _⟩
        case round =>
          obtain ⟨k, hk, rfl, ho, hbr⟩ := hrel
          have HR := hid (And.intro ho hbr)
          have HTR := hid (HT4.out.keep hbr)
          have HBR := hid (HB4.out.trans (hbr.mono HB4.out.size))
          obtain ⟨t0, t1, t2, t3⟩ := HTR.out.c4
          rw [HN.out.2] at t1
          clear ho hbr
          by_cases hlt : k < N
          · have hkI : (k : Int) < (N : Int) := by omega
            obtain ⟨bb1, bb2, bb3, bb4⟩ := bndOne_bounds OK.out k
            go_wp2
            clear t0 t1 t2 t3
            refine (wpIn_wide (n := 0)).1 ?_
            refine wpIn_region_each 6 (fun i v W' => match i with | 0 => v = .agg #[.slice A m.old.length c, .int .i64 m.nw, .slice A2 m.ss.length c2, .slice A3 m.js.length c3] | 1 => v = .agg #[.slice A m.old.length c, .int .i64 m.nw, .slice A2 m.ss.length c2, .slice A3 m.js.length c3] | 2 => ∃ (y : Option Addr × Nat), v = .slice y.1 (lst m (ownL m)).length y.2 ∧ IntsAt y (lst m (ownL m)) W' | 3 => v = .int .i64 (k : Int) | 4 => v = .agg #[.int .i64 (bndOne m k).1, .int .i64 (bndOne m k).2] | 5 => ∃ gl, v = .pointer (some ⟨gl, 0, none⟩) ∧ wr.heap.size ≤ gl ∧ Blk W' gl 43 #[.int .i64 0, .int .i64 0] | _ => True) (fun A B => Below A.heap.size A B) (fun _ _ => True) (by kernel_rfl) (by kernel_rfl) ?_ (fun h k => h.trans (k.mono h.size)) ⟨rfl, rfl, rfl, Nat.le_refl _, fun _ _ => rfl⟩ trivial (by kernel_rfl) ?_ ?_
            · intro i v W1 W2 hb h
              match i, h with
              | 0, h => exact h
              | 1, h => exact h
              | 2, h =>
                obtain ⟨y, rfl, h1⟩ := h
                exact ⟨_, rfl, h1.at_ hb⟩
              | 3, h => exact h
              | 4, h => exact h
              | 5, h =>
                obtain ⟨gl, rfl, h1⟩ := h
                exact ⟨_, rfl, h1.1, h1.2.keep hb⟩
              | i + 6, h => trivial
            · refine ⟨?_, ?_, ?_, ?_, ?_, ?_, trivial⟩
              · -- 0
                intro li a1 W2 hA K hK
                have e1 := hA.par 1 (by kernel_rfl)
                obtain ⟨q1, q2, q3, q4⟩ := (HTR.out.keep hA.st).c4
                refine opStep none 0 rfl rfl (fun c hc => by cases hc) ?_
                go_simp
                exact hK _ _ rfl (Below.refl _ _) trivial
              · -- 1
                intro li a1 W2 hA K hK
                have e1 := hA.par 1 (by kernel_rfl)
                obtain ⟨q1, q2, q3, q4⟩ := (HTR.out.keep hA.st).c4
                refine opStep none 0 rfl rfl (fun c hc => by cases hc) ?_
                go_simp
                exact hK _ _ rfl (Below.refl _ _) trivial
              · -- 2
                intro li a1 W2 hA K hK
                have e106 : a1.tmps.getD 106 undef = .agg #[.slice A m.old.length c, .int .i64 m.nw, .slice A2 m.ss.length c2, .slice A3 m.js.length c3] := hA.val 1 106 (by kernel_rfl) (by kernel_rfl)
                refine opStep none 0 rfl rfl (fun c hc => by cases hc) ?_
                go_simp
                refine ((qown_any m A c A2 c2 A3 c3 W2 (HH.out.at_ (HBR.out.trans (hA.st.mono HBR.out.size))).toMIn (by omega)).mono fun _ _ => GivesInts.i).mono ?_
                rintro e W3 ⟨y, rfl, hy, hb3⟩
                exact hK _ _ ⟨y, rfl, hy⟩ hb3 trivial
              · -- 3
                intro li a1 W2 hA K hK
                have e13 := hA.par 13 (by kernel_rfl)
                refine opStep none 0 rfl rfl (fun c hc => by cases hc) ?_
                go_simp
                exact hK _ _ rfl (Below.refl _ _) trivial
              · -- 4
                intro li a1 W2 hA K hK
                have e105 : a1.tmps.getD 105 undef = .agg #[.slice A m.old.length c, .int .i64 m.nw, .slice A2 m.ss.length c2, .slice A3 m.js.length c3] := hA.val 0 105 (by kernel_rfl) (by kernel_rfl)
                obtain ⟨y107, e107, h107⟩ := hA.val 2 107 (by kernel_rfl) (by kernel_rfl)
                have e108 : a1.tmps.getD 108 undef = .int .i64 (k : Int) := hA.val 3 108 (by kernel_rfl) (by kernel_rfl)
                refine opStep none 0 rfl rfl (fun c hc => by cases hc) ?_
                go_simp
                refine (size_own (HH.out.at_ (HBR.out.trans (hA.st.mono HBR.out.size))).toMIn OK.out k h107).mono ?_
                rintro e W3 ⟨rfl, hb3⟩
                exact hK _ _ rfl hb3 trivial
              · -- 5
                intro li a1 W2 hA K hK
                refine opStep none 0 rfl rfl (fun c hc => by cases hc) ?_
                go_simp
                exact hK _ _ ⟨_, rfl, hA.st.size, Blk.new _ _ _⟩ ((Below.refl _ _).alloc (Nat.le_refl _) _) trivial
            · intro li a1 W2 hD
              obtain ⟨gl, e14, hgl, hbl⟩ := hD.val 5 14 (by kernel_rfl) (by kernel_rfl)
              have e109 : a1.tmps.getD 109 undef = .agg #[.int .i64 (bndOne m k).1, .int .i64 (bndOne m k).2] := hD.val 4 109 (by kernel_rfl) (by kernel_rfl)
              have hst := hD.st
              have f0 := hbl.frozen 0
              have f1 := hbl.frozen 1
              have fl := hbl.lt
              obtain ⟨d0, d1⟩ := hbl.c2
              have hkp2 := hD.keeps (ds := [105, 106, 107, 108, 109, 14]) (by kernel_rfl)
              have hds := hD.size
              have hdd := hD.defers
              have hb5 := (hst.setCell (p := ⟨gl, 0, none⟩) (show wr.heap.size ≤ gl from hgl) (.int .i64 (bndOne m k).1)).setCell (p := ⟨gl, 1, none⟩) (show wr.heap.size ≤ gl from hgl) (.int .i64 (bndOne m k).2)
              have hbl5 : Blk ((W2.setCell ⟨gl, 0, none⟩ (.int .i64 (bndOne m k).1)).setCell ⟨gl, 1, none⟩ (.int .i64 (bndOne m k).2)) gl 43 #[.int .i64 (bndOne m k).1, .int .i64 (bndOne m k).2] := (hbl.set_ 0 _).set_ 1 _
              have H5 := hid (And.intro hb5 hbl5)
              refine tail_store (i := 6) (W' := ((W2.setCell ⟨gl, 0, none⟩ (.int .i64 (bndOne m k).1)).setCell ⟨gl, 1, none⟩ (.int .i64 (bndOne m k).2))) none 0 rfl rfl rfl (fun c hc => by cases hc) (by clear hst hb5 hbl5 hbl hgl; go_simp) ?_
              revert H5
              generalize ((W2.setCell ⟨gl, 0, none⟩ (.int .i64 (bndOne m k).1)).setCell ⟨gl, 1, none⟩ (.int .i64 (bndOne m k).2)) = w5
              intro H5
              have e := act_mix [105, 106, 107, 108, 109, 14] hds hdd (fun i _ hc => hkp2 i hc)
              have hg14 : (fun i => a1.tmps.getD i undef) 14 = .pointer (some ⟨gl, 0, none⟩) := e14
              generalize (fun i => a1.tmps.getD i undef) = g' at e hg14
              refine wpListIn_nil ?_
              rw [e]
              clear e hD hkp2 e109 e14 hds hdd f0 f1 fl d0 d1 hb5 hbl5 hbl hst hgl
              simp only [mix, List.contains_cons, List.contains_nil, Nat.reduceAdd, Nat.reduceBEq, Bool.or_false, Bool.or_true, cond_true, cond_false, hg14]
              clear hg14
              obtain ⟨x, hx⟩ : ∃ x, (smD m (ownL m) (car m))[k]? = some x := ⟨_, List.getElem?_eq_getElem (by rw [smD_len0, HN.out.1]; exact hlt)⟩
              have hci := HC4.out.1.at_ HR.out.2
              obtain ⟨ac', ec, g1, g2⟩ := hci k x hx
              replace ec : some ac = some ac' := ec
              cases ec
              have hxb := smTo_bounds (M := 10000) (by omega) (car_bounds OK.out) _ x (List.mem_of_getElem? hx)
              have hcl : ((car m).length : Int) ≤ 8 := by rw [car_len]; omega
              have hx1 : 0 ≤ x := hxb.1
              have hx2 : x ≤ 80000 := by have := hxb.2; omega
              have HV := hid (show offOne m k = max ((bndOne m k).2 - x) (x - (bndOne m k).1) by unfold offOne; rw [List.getD, hx]; rfl)
              obtain ⟨p1, hp1⟩ : ∃ p, (bndOne m k).1 = p := ⟨_, rfl⟩
              obtain ⟨p2, hp2⟩ : ∃ p, (bndOne m k).2 = p := ⟨_, rfl⟩
              rw [hp1, hp2] at H5 HV
              rw [hp1] at bb1 bb2
              rw [hp2] at bb3 bb4
              have hw1 : IntKind.i64.wrap (p2 - x) = p2 - x := IntWalk.i64_in _ (by omega)
              have hw2 : IntKind.i64.wrap (x - p1) = x - p1 := IntWalk.i64_in _ (by omega)
              have G2 := hid ((H5.out.1.cell (p := ac.add k) (by rw [block_of_add]; exact g1)).trans g2)
              have HO5 := hid (row_kept (vo := .slice none 0 0) HR.out.1 (grown_of_below H5.out.1 _) (.inl rfl))
              have HB6 := hid (HR.out.2.trans (H5.out.1.mono HR.out.2.size))
              clear hp1 hp2 hxb hcl hx hci g1 g2
              go_wp2
              refine (wpIn_wide (n := 0)).1 ?_
              refine wpIn_region_each 17 (fun i v W' => match i with | 0 => v = u11 | 1 => v = .pointer (some ⟨gl, 1, none⟩) | 2 => v = .int .i64 p2 | 3 => v = .slice (some ac) N c98 | 4 => v = .int .i64 (k : Int) | 5 => v = .pointer (some (ac.add k)) | 6 => v = .int .i64 x | 7 => v = .int .i64 (p2 - x) | 8 => v = .slice (some ac) N c98 | 9 => v = .int .i64 (k : Int) | 10 => v = .pointer (some (ac.add k)) | 11 => v = .int .i64 x | 12 => v = .pointer (some ⟨gl, 0, none⟩) | 13 => v = .int .i64 p1 | 14 => v = .int .i64 (x - p1) | 15 => v = .int .i64 (max (p2 - x) (x - p1)) | 16 => ∃ gm, v = .slice (some ⟨gm, 0, none⟩) 1 1 ∧ Blk W' gm 3 #[.int .i64 (max (p2 - x) (x - p1))] | _ => True) (fun A B => Below A.heap.size A B) (fun _ _ => True) (by kernel_rfl) (by kernel_rfl) ?_ (fun h k => h.trans (k.mono h.size)) ⟨rfl, rfl, rfl, Nat.le_refl _, fun _ _ => rfl⟩ trivial (by kernel_rfl) ?_ ?_
              · intro i v W1 W2 hb h
                match i, h with
                | 0, h => exact h
                | 1, h => exact h
                | 2, h => exact h
                | 3, h => exact h
                | 4, h => exact h
                | 5, h => exact h
                | 6, h => exact h
                | 7, h => exact h
                | 8, h => exact h
                | 9, h => exact h
                | 10, h => exact h
                | 11, h => exact h
                | 12, h => exact h
                | 13, h => exact h
                | 14, h => exact h
                | 15, h => exact h
                | 16, h =>
                  obtain ⟨gm, rfl, h1⟩ := h
                  exact ⟨_, rfl, h1.keep hb⟩
                | i + 17, h => trivial
              · refine ⟨?_, ?_, ?_, ?_, ?_, ?_, ?_, ?_, ?_, ?_, ?_, ?_, ?_, ?_, ?_, ?_, ?_, trivial⟩
                · -- 0
                  intro li a1 W2 hA K hK
                  have e11 := hA.par 11 (by kernel_rfl)
                  refine opStep none 0 rfl rfl (fun c hc => by cases hc) ?_
                  go_simp
                  exact hK _ _ rfl (Below.refl _ _) trivial
                · -- 1
                  intro li a1 W2 hA K hK
                  have e14 := hA.par 14 (by kernel_rfl)
                  refine opStep none 0 rfl rfl (fun c hc => by cases hc) ?_
                  go_simp
                  exact hK _ _ rfl (Below.refl _ _) trivial
                · -- 2
                  intro li a1 W2 hA K hK
                  have e111 : a1.tmps.getD 111 undef = .pointer (some ⟨gl, 1, none⟩) := hA.val 1 111 (by kernel_rfl) (by kernel_rfl)
                  have q1 := ((H5.out.2.keep hA.st).c2).2
                  refine opStep none 0 rfl rfl (fun c hc => by cases hc) ?_
                  go_simp
                  exact hK _ _ rfl (Below.refl _ _) trivial
                · -- 3
                  intro li a1 W2 hA K hK
                  have e12 := hA.par 12 (by kernel_rfl)
                  refine opStep none 0 rfl rfl (fun c hc => by cases hc) ?_
                  go_simp
                  exact hK _ _ rfl (Below.refl _ _) trivial
                · -- 4
                  intro li a1 W2 hA K hK
                  have e13 := hA.par 13 (by kernel_rfl)
                  refine opStep none 0 rfl rfl (fun c hc => by cases hc) ?_
                  go_simp
                  exact hK _ _ rfl (Below.refl _ _) trivial
                · -- 5
                  intro li a1 W2 hA K hK
                  have e113 : a1.tmps.getD 113 undef = .slice (some ac) N c98 := hA.val 3 113 (by kernel_rfl) (by kernel_rfl)
                  have e114 : a1.tmps.getD 114 undef = .int .i64 (k : Int) := hA.val 4 114 (by kernel_rfl) (by kernel_rfl)
                  refine opStep none 0 rfl rfl (fun c hc => by cases hc) ?_
                  go_simp
                  exact hK _ _ (by first | rfl | exact congrArg (fun q => Value.pointer (some q)) (add_blk _ _)) (Below.refl _ _) trivial
                · -- 6
                  intro li a1 W2 hA K hK
                  have e115 : a1.tmps.getD 115 undef = .pointer (some (ac.add k)) := hA.val 5 115 (by kernel_rfl) (by kernel_rfl)
                  have q1 := (hA.st.cell (World.block_lt_of_cell? _ _ G2.out)).trans G2.out
                  refine opStep none 0 rfl rfl (fun c hc => by cases hc) ?_
                  go_simp
                  exact hK _ _ rfl (Below.refl _ _) trivial
                · -- 7
                  intro li a1 W2 hA K hK
                  have e112 : a1.tmps.getD 112 undef = .int .i64 p2 := hA.val 2 112 (by kernel_rfl) (by kernel_rfl)
                  have e116 : a1.tmps.getD 116 undef = .int .i64 x := hA.val 6 116 (by kernel_rfl) (by kernel_rfl)
                  refine opStep none 0 rfl rfl (fun c hc => by cases hc) ?_
                  go_simp
                  exact hK _ _ (by first | rfl | exact congrArg (Value.int .i64) hw1 | (simp [hw1])) (Below.refl _ _) trivial
                · -- 8
                  intro li a1 W2 hA K hK
                  have e12 := hA.par 12 (by kernel_rfl)
                  refine opStep none 0 rfl rfl (fun c hc => by cases hc) ?_
                  go_simp
                  exact hK _ _ rfl (Below.refl _ _) trivial
                · -- 9
                  intro li a1 W2 hA K hK
                  have e13 := hA.par 13 (by kernel_rfl)
                  refine opStep none 0 rfl rfl (fun c hc => by cases hc) ?_
                  go_simp
                  exact hK _ _ rfl (Below.refl _ _) trivial
                · -- 10
                  intro li a1 W2 hA K hK
                  have e118 : a1.tmps.getD 118 undef = .slice (some ac) N c98 := hA.val 8 118 (by kernel_rfl) (by kernel_rfl)
                  have e119 : a1.tmps.getD 119 undef = .int .i64 (k : Int) := hA.val 9 119 (by kernel_rfl) (by kernel_rfl)
                  refine opStep none 0 rfl rfl (fun c hc => by cases hc) ?_
                  go_simp
                  exact hK _ _ (by first | rfl | exact congrArg (fun q => Value.pointer (some q)) (add_blk _ _)) (Below.refl _ _) trivial
                · -- 11
                  intro li a1 W2 hA K hK
                  have e120 : a1.tmps.getD 120 undef = .pointer (some (ac.add k)) := hA.val 10 120 (by kernel_rfl) (by kernel_rfl)
                  have q1 := (hA.st.cell (World.block_lt_of_cell? _ _ G2.out)).trans G2.out
                  refine opStep none 0 rfl rfl (fun c hc => by cases hc) ?_
                  go_simp
                  exact hK _ _ rfl (Below.refl _ _) trivial
                · -- 12
                  intro li a1 W2 hA K hK
                  have e14 := hA.par 14 (by kernel_rfl)
                  refine opStep none 0 rfl rfl (fun c hc => by cases hc) ?_
                  go_simp
                  exact hK _ _ rfl (Below.refl _ _) trivial
                · -- 13
                  intro li a1 W2 hA K hK
                  have e122 : a1.tmps.getD 122 undef = .pointer (some ⟨gl, 0, none⟩) := hA.val 12 122 (by kernel_rfl) (by kernel_rfl)
                  have q1 := ((H5.out.2.keep hA.st).c2).1
                  refine opStep none 0 rfl rfl (fun c hc => by cases hc) ?_
                  go_simp
                  exact hK _ _ rfl (Below.refl _ _) trivial
                · -- 14
                  intro li a1 W2 hA K hK
                  have e121 : a1.tmps.getD 121 undef = .int .i64 x := hA.val 11 121 (by kernel_rfl) (by kernel_rfl)
                  have e123 : a1.tmps.getD 123 undef = .int .i64 p1 := hA.val 13 123 (by kernel_rfl) (by kernel_rfl)
                  refine opStep none 0 rfl rfl (fun c hc => by cases hc) ?_
                  go_simp
                  exact hK _ _ (by first | rfl | exact congrArg (Value.int .i64) hw2 | (simp [hw2])) (Below.refl _ _) trivial
                · -- 15
                  intro li a1 W2 hA K hK
                  have e117 : a1.tmps.getD 117 undef = .int .i64 (p2 - x) := hA.val 7 117 (by kernel_rfl) (by kernel_rfl)
                  have e124 : a1.tmps.getD 124 undef = .int .i64 (x - p1) := hA.val 14 124 (by kernel_rfl) (by kernel_rfl)
                  refine opStep none 0 rfl rfl (fun c hc => by cases hc) ?_
                  go_simp
                  exact hK _ _ (congrArg (Value.int .i64) (by split <;> omega)) (Below.refl _ _) trivial
                · -- 16
                  intro li a1 W2 hA K hK
                  have e125 : a1.tmps.getD 125 undef = .int .i64 (max (p2 - x) (x - p1)) := hA.val 15 125 (by kernel_rfl) (by kernel_rfl)
                  have e125' := e125
                  rw [Array.getD_eq_getD_getElem?] at e125'
                  refine opStep none 0 rfl rfl (fun c hc => by cases hc) ?_
                  go_simp
                  exact hK _ _ ⟨_, rfl, Blk.new _ _ _⟩ ((Below.refl _ _).alloc (Nat.le_refl _) _) trivial
              · intro li a1 W2 hD
                obtain ⟨gm, e126, hgm⟩ := hD.val 16 126 (by kernel_rfl) (by kernel_rfl)
                have e110 : a1.tmps.getD 110 undef = u11 := hD.val 0 110 (by kernel_rfl) (by kernel_rfl)
                have hst := hD.st
                have ho2 := row_kept (vo := .slice none 0 0) HO5.out (grown_of_below hst _) (.inl rfl)
                have hbw2 := HB6.out.trans (hst.mono HB6.out.size)
                have hsz2 := hbw2.size
                obtain ⟨i0, hi0, hz0, hz1, hz2⟩ := info_parts int_info
                obtain ⟨v', w7, hrun, hr7, hg7, _, _⟩ := run_append_own_at (P := Try.prog) W2 w4.heap.size 22 22 3 i0 (.int .i64 0) 1 8 Try.underlying22 hi0 hz0 hz1 hz2 rfl (by decide) u11 k _ ho2 ⟨gm, 0, none⟩ 1 1 [.int .i64 (max (p2 - x) (x - p1))] rfl (one_blk hgm) (by intro u hu; simp at hu; subst hu; rfl) (by simp only [maxLen]; omega) (by omega) (by omega)
                have b6 := below_row' hbw2 ho2 (Nat.le_refl _) hg7 hsz2
                have HNX := hid (show w7.ownsRow w4.heap.size 3 1 v' (k + 1) (((List.range (k + 1)).map (offOne m)).map (Value.int .i64)) ∧ Below w4.heap.size w4 w7 from ⟨by rw [map_range_succ, List.map_append, HV.out]; exact hr7, b6⟩)
                have hkp2 := hD.keeps (ds := [110, 111, 112, 113, 114, 115, 116, 117, 118, 119, 120, 121, 122, 123, 124, 125, 126, 127, 11]) (by kernel_rfl)
                have hds := hD.size
                have hsz9 : a1.tmps.size = 138 := hD.size
                have hdd := hD.defers
                clear hst hr7 hg7 hgm ho2 hbw2 hsz2 b6
                refine tail_val (i := 17) (v := v') (W' := w7) none 0 rfl rfl rfl (fun c hc => by cases hc) (by simp [execOp, resolve, invoke, builtin, Act.eval, e110, e126, hrun, Result.andThen]) (by rw [hsz9]; decide) ?_
                intro a3 s3 d3 f3 o3
                have hkp3 := keeps_then hkp2 o3 (by decide)
                refine tail_val (i := 18) (v := v') (W' := w7) none 0 rfl rfl rfl (fun c hc => by cases hc) (by go_simp) (by rw [s3, hsz9]; decide) ?_
                intro a4 s4 d4 f4 o4
                have hkp4 := keeps_then hkp3 o4 (by decide)
                have e := act_mix [110, 111, 112, 113, 114, 115, 116, 117, 118, 119, 120, 121, 122, 123, 124, 125, 126, 127, 11] (s4.trans (s3.trans hds)) (d4.trans (d3.trans hdd)) (fun i _ hc => hkp4 i hc)
                have hg11 : (fun i => a4.tmps.getD i undef) 11 = v' := f4
                generalize (fun i => a4.tmps.getD i undef) = g2 at e hg11
                refine wpListIn_nil ?_
                rw [e]
                clear e hD hkp2 hkp3 hkp4 s3 s4 d3 d4 f3 f4 o3 o4 e110 e126 hds hdd hsz9 hi0 hz0 hz1 hz2 hrun HO5 HV G2
                simp only [mix, List.contains_cons, List.contains_nil, Nat.reduceAdd, Nat.reduceBEq, Bool.or_false, Bool.or_true, cond_true, cond_false, hg11]
                clear hg11
                go_wp2
                go_roundw
                case rel => exact ⟨k + 1, by omega, by go_num, HNX.out⟩
                case measure => first | (simp [intOf]; done) | (simp [intOf]; omega)
          · have hkI : decide ((k : Int) < (N : Int)) = false := by simp; omega
            obtain rfl : k = N := by omega
            obtain ⟨A7, c7, e7, r1, r2, r3, _, _⟩ := own_ints (by simp) HR.out.1
            have hol : offL m = (List.range k).map (offOne m) := by unfold offL; rw [HN.out.1]
            rw [← hol] at e7 r1 r3
            have HD2 := hid (show IntsAt (A7, c7) (offL m) wr from ⟨r3, r1, r2⟩)
            have HYO5 := hid (HYO4.out.at_ HR.out.2)
            subst e7
            have HBX := hid HBR.out
            have HTX := hid HTR.out
            clear r1 r2 r3 HR HTR HBR hol
            have K9 := hid (ints_same HYO5.out HD2.out)
            go_wp2_with fail
            refine K9.out.mono ?_
            rintro e w9 ⟨rfl, hb⟩
            have HB9 := hid (HBX.out.trans (hb.mono HBX.out.size))
            have HT9 := hid (HTX.out.keep hb)
            clear hb K9 t0 t1 t2 t3
            obtain ⟨t0, t1, t2, t3⟩ := HT9.out.c4
            have K10 := hid (awake_any w9)
            go_wp2_with fail
            refine K10.out.mono ?_
            rintro e w10 ⟨rfl, hb⟩
            have HB10 := hid (HB9.out.trans (hb.mono HB9.out.size))
            have HT10 := hid (HT9.out.keep hb)
            clear hb K10 t0 t1 t2 t3
            obtain ⟨t0, t1, t2, t3⟩ := HT10.out.c4
            clear t0 t1 t2 t3
            go_wp2
            go_ret
            exact ⟨rfl, HB10.out⟩

theorem offs_any (m : MapD) (A : Option Addr) (c : Nat) (A2 : Option Addr) (c2 : Nat) (A3 : Option Addr) (c3 : Nat) (w : World) (h : MArg m A c A2 c2 A3 c3 w) :
    Calls Try.prog 8 #[.agg #[.slice A m.old.length c, .int .i64 m.nw, .slice A2 m.ss.length c2, .slice A3 m.js.length c3]] w fun e w' => e = .returned (.bool true) ∧ Below w.heap.size w w' := by
  cases ht : thinM m
  · exact offs_not m A c A2 c2 A3 c3 w h ht
  · by_cases hc : chkM m = 0
    · by_cases hz : cstM m = 0
      · exact offs_good m A c A2 c2 A3 c3 w h ht hc hz
      · exact offs_unc m A c A2 c2 A3 c3 w h ht hc hz
    · exact offs_bad m A c A2 c2 A3 c3 w h ht hc

open Go.ChangeShapes Go.WideShapes Go.ChangeAt in
set_option maxRecDepth 100000 in
theorem offs_lifted (os : Os) (started : os.Started) (H : Type) (enc : TypeId × Value → H) :
    ReturnsInHanded {} Try.checked os 8 .any (Rows.borderOffsSpec.pre6 enc Try.prog Try.f8 Rows.borderOffsRow.domain false) (Rows.borderOffsSpec.post enc Try.prog Try.f8 false true false false) := by
  refine returnsInHanded_of_change (C := Try.checked) own started (by kernel_rfl) Try.func8
    (ChangeSpec.witness6 (enc := enc) (C := Try.checked) false ⟨#[], #[.agg #[.slice none 0 0, .int .i64 0, .slice none 0 0, .slice none 0 0]], []⟩ 8 (by kernel_rfl) (by kernel_rfl) (by kernel_rfl) (by kernel_rfl)) ?_
  intro W base args ds gs before hval0 hW hcnd _
  have hval : ∀ (j : Nat) t v, Try.f8.params[j]? = some t → args[j]? = some v → Value.okWide Try.prog W .any base t v := hval0
  have hW' := hW
  obtain ⟨p, q, hA0, hV, rfl, hfz, hnd⟩ := hW
  have hA : DataW.TrodAll enc Try.prog W 0 (fun _ => true) true Try.f8.params.toList args.toList ds p := hA0
  rw [Try.params8] at hA hval
  obtain ⟨v0, vs0, d0, ds0, p0, q0, hargs, rfl, rfl, h0, r0⟩ := trodAll_cons hA
  obtain ⟨rfl, rfl, rfl⟩ := trodAll_nil r0
  obtain rfl : args = #[v0] := by cases args; simp_all
  obtain ⟨rfl, rfl⟩ := trodVars_none hV
  obtain ⟨m, A, c, A2, c2, A3, c3, rfl, ht⟩ := open_map (hval 0 26 v0 rfl rfl) h0
  refine (offs_any m A c A2 c2 A3 c3 W ht).mono fun e W' ⟨he, hb⟩ => ⟨_, he, ?_⟩
  exact law_post laid_out rfl rfl (by kernel_rfl) hW' rfl hb

theorem offs_over : Rows.borderOffsRow.holds Try.pinned (OpenSpec.ofChange Rows.borderOffsSpec) :=
  OpenClaim.holds_of_wide 8 Try.f8 rfl rfl rfl rfl rfl rfl rfl ⟨rfl, rfl, rfl, rfl, rfl⟩ rfl rfl rfl rfl rfl (by kernel_rfl) Try.func8 (by kernel_rfl)
    (of_decide_eq_true (by kernel_rfl)) (by unfold Func.isWrapper; first | (rw [if_pos (by decide +kernel)]; kernel_rfl) | (rw [if_neg (by decide +kernel)]; exact ⟨rfl, rfl⟩))
    (fun os started H enc _ => offs_lifted os started H enc)
/-- the statement -/
theorem border_offs : Rows.BorderOffsSaid := offs_over
#print axioms border_offs
end Go.Proofs.Ytoeabajigfdkaaa
