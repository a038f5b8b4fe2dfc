/- For every table, the best rounding, the number of all, and the range of each cell, are as the document says, or the error is: the statement RoundBests. No condition. -/
import Derived.Test.YtgoianldiomdoaaG13
import Derived.Test.YtgoianldiomdoaaG11
import Derived.Test.YtgoianldiomdoaaG10
import Derived.Test.YtgoianldiomdoaaG9
import Derived.Test.YtgoianldiomdoaaG6
namespace Go.Proofs.Ytgoianldiomdoaa
open Go.RowKit Go.Shelf

theorem short_len_ {l : List (List Int)} (h : shortB l = true) : l.length ≤ 8 ∧ ∀ xs ∈ l, xs.length ≤ 7 := by
  unfold shortB at h
  simp only [Bool.and_eq_true, decide_eq_true_eq] at h
  rw [List.take_of_length_le (by omega)] at h
  exact ⟨h.2, fun xs hx => by simpa using List.all_eq_true.1 h.1 xs hx⟩
theorem thin_len_ {cs : List (List Int)} {fs : List Fx} (h : thinB cs fs = true) : (cs.length ≤ 8 ∧ ∀ xs ∈ cs, xs.length ≤ 7) ∧ fs.length ≤ 13 := by
  unfold thinB at h
  simp only [Bool.and_eq_true, decide_eq_true_eq] at h
  exact ⟨short_len_ h.1, h.2⟩
def fewB (b : Int) (cs : List (List Int)) (fs : List Fx) : Bool := !(chkE b cs fs == 0) || decide (cntT b cs ≤ 11)
set_option maxRecDepth 100000 in
set_option maxHeartbeats 1000000 in
theorem few_any (b : Int) (A : Option Addr) (c : Nat) (cs : List (List Int)) (A2 : Option Addr) (c2 : Nat) (fs : List Fx) (w : World) (h : TIn A c cs A2 c2 fs w) :
    Calls Try.prog 16 #[.agg #[.int .i64 b, .slice A cs.length c, .slice A2 fs.length c2]] w fun e w' => e = .returned (.bool (fewB b cs fs)) ∧ Below w.heap.size w w' := by
  have hB := below_box (w := w) #[.int .i64 b, .slice A cs.length c, .slice A2 fs.length c2] 25
  have hT := Blk.new w 25 #[.int .i64 b, .slice A cs.length c, .slice A2 fs.length c2]
  have HB := hid hB
  have HT := hid hT
  have HH := hid h
  obtain ⟨t0, t1, t2⟩ := hT.c3
  have K := hid (lfault_any b A c cs A2 c2 fs _ (h.at_ hB))
  clear h hB hT
  by_cases hc : chkE b cs fs = 0
  · have HE := hid (show fewB b cs fs = decide ((cntT b cs : Int) ≤ 11) by unfold fewB; rw [hc]; simp; omega)
    have OK := hid (chk_ok hc)
    rw [hc] at K
    clear hc
    go_enter Try.func16, Try.ntmps16
    go_wp2_with fail
    refine K.out.mono ?_
    rintro e w2 ⟨rfl, hb2⟩
    have HB2 := hid (HB.out.trans (hb2.mono HB.out.size))
    have KF := hid (free_any b A c cs A2 c2 fs w2 (HH.out.at_ HB2.out) OK.out.okc)
    clear t0 t1 t2
    obtain ⟨t0, t1, t2⟩ := (HT.out.keep hb2).c3
    clear hb2 K
    go_wp2_with fail
    refine KF.out.mono ?_
    rintro e w3 ⟨rfl, hb3⟩
    have HB3 := hid (HB2.out.trans (hb3.mono HB2.out.size))
    clear hb3 KF t0 t1 t2
    go_wp2
    go_ret
    exact ⟨ret_bool (by rw [HE.out]), HB3.out⟩
  · have HE := hid (show fewB b cs fs = true by unfold fewB; rw [beq_false_of_ne hc]; rfl)
    have hne : (chkE b cs fs != 0) = true := by simp [hc]
    obtain ⟨z, hz⟩ : ∃ z, chkE b cs fs = z := ⟨_, rfl⟩
    rw [hz] at K hne
    clear hz hc
    go_enter Try.func16, Try.ntmps16
    go_wp2_with fail
    refine K.out.mono ?_
    rintro e w2 ⟨rfl, hb2⟩
    have HB2 := hid (HB.out.trans (hb2.mono HB.out.size))
    clear t0 t1 t2 hb2 K
    go_wp2
    go_ret
    exact ⟨ret_bool HE.out.symm, HB2.out⟩
theorem own_slice {W : World} {base e size n : Nat} {v : Value} {xs : List Value} (h : W.ownsRow base e size v n xs) : ∃ A c, v = .slice A n c := by
  rcases h.2 with ⟨e, h0⟩ | ⟨z, cap, _, e, _⟩
  · exact ⟨none, 0, by rw [e, h0]⟩
  · exact ⟨_, _, e⟩
theorem NthI.rows_ {cs T : List (List Int)} {go : Nat} {Rr : Nat → Nat} {w W : World} (h : NthI cs T go Rr 0 w W) (hT : T.length = cs.length) (hl : ∀ k, (T.getD k []).length = (cs.getD k []).length) (h5 : ∀ l ∈ T, l.length ≤ 1000) : IsRows W W.heap.size (some ⟨go, 0, none⟩) T := by
  intro r xs hr
  obtain ⟨h1, h2⟩ := h.at_ hT hl hr
  have hb := (h.rows r xs (Nat.zero_le _) hr).1.lt
  have hm := h5 xs (List.mem_of_getElem? hr)
  refine ⟨⟨go, 0, none⟩, some ⟨Rr r, 0, none⟩, xs.length, rfl, h.out.lt, ?_, Nat.le_refl _, by unfold maxLen; omega, fun k x hk => ⟨⟨Rr r, 0, none⟩, rfl, hb, ?_⟩⟩
  · rw [add_blk]; exact h1
  · rw [add_blk]; exact h2 k x hk
theorem Best.congr_ {α : Type} {R : List α} {c c' : α → Int} {x : α} (h : Best R c x) (e : ∀ y ∈ R, c' y = c y) : Best R c' x := by
  obtain ⟨P, Q, rfl, h1, h2⟩ := h
  have ex := e x (by simp)
  refine ⟨P, Q, rfl, fun y hy => ?_, fun y hy => ?_⟩
  · rw [ex, e y (by simp [hy])]; exact h1 y hy
  · rw [ex, e y (by simp [hy])]; exact h2 y hy
theorem ptrsTo_get {f : Nat → Nat} {m len j r : Nat} (hr : r < len) (hj : r < j) : (ptrsTo f m len j)[r]? = some (.slice (some ⟨f r, 0, none⟩) m m) := by
  unfold ptrsTo
  simp [hr, hj]
theorem shape_len {n m : Nat} {cs T : List (List Int)} (h1 : T.length = n) (h2 : ∀ l ∈ T, l.length = m) (h3 : cs.length = n) (h4 : ∀ l ∈ cs, l.length = m) : ∀ k, (T.getD k []).length = (cs.getD k []).length := by
  intro k
  by_cases hk : k < n
  · have e1 := List.getElem?_eq_getElem (l := T) (i := k) (by omega)
    have e2 := List.getElem?_eq_getElem (l := cs) (i := k) (by omega)
    rw [List.getD, e1, List.getD, e2]
    show (T[k]'_).length = (cs[k]'_).length
    rw [h2 _ (List.mem_of_getElem? e1), h4 _ (List.mem_of_getElem? e2)]
  · rw [List.getD, List.getElem?_eq_none (by omega), List.getD, List.getElem?_eq_none (by omega)]

set_option maxRecDepth 100000 in
set_option maxHeartbeats 4000000 in
theorem bests_thin (b : Int) (A : Option Addr) (c : Nat) (cs : List (List Int)) (A2 : Option Addr) (c2 : Nat) (fs : List Fx) (w : World) (h : TIn A c cs A2 c2 fs w) (ht : thinB cs fs = false) :
    Calls Try.prog 3 #[.agg #[.int .i64 b, .slice A cs.length c, .slice A2 fs.length c2]] w fun e w' => e = .returned (.bool true) ∧ Below w.heap.size w w' := by
  have hB := below_box (w := w) #[.int .i64 b, .slice A cs.length c, .slice A2 fs.length c2] 25
  have hT := Blk.new w 25 #[.int .i64 b, .slice A cs.length c, .slice A2 fs.length c2]
  have HB0 := hid hB
  have HT0 := hid hT
  have HH := hid h
  obtain ⟨t0, t1, t2⟩ := hT.c3
  clear h hB hT
  have HTH := hid ht
  clear ht
  go_enter Try.func3, Try.ntmps3
  have K1 := hid (thin_any (.int .i64 b) A c cs A2 c2 fs _ (HH.out.at_ HB0.out))
  rw [HTH.out] at K1
  go_wp2_with fail
  refine K1.out.mono ?_
  rintro e w1 ⟨rfl, hb⟩
  have HB1 := hid (HB0.out.trans (hb.mono HB0.out.size))
  have HT1 := hid (HT0.out.keep hb)
  clear hb K1 t0 t1 t2
  obtain ⟨t0, t1, t2⟩ := HT1.out.c3
  have K2 := hid (awake_any w1)
  go_wp2_with fail
  refine K2.out.mono ?_
  rintro e w2 ⟨rfl, hb⟩
  have HB2 := hid (HB1.out.trans (hb.mono HB1.out.size))
  have HT2 := hid (HT1.out.keep hb)
  clear hb K2 t0 t1 t2
  obtain ⟨t0, t1, t2⟩ := HT2.out.c3
  clear t0 t1 t2
  go_wp2
  go_ret
  exact ⟨rfl, HB2.out⟩

set_option maxRecDepth 100000 in
set_option maxHeartbeats 4000000 in
theorem bests_many (b : Int) (A : Option Addr) (c : Nat) (cs : List (List Int)) (A2 : Option Addr) (c2 : Nat) (fs : List Fx) (w : World) (h : TIn A c cs A2 c2 fs w) (ht : thinB cs fs = true) (hf : fewB b cs fs = false) :
    Calls Try.prog 3 #[.agg #[.int .i64 b, .slice A cs.length c, .slice A2 fs.length c2]] w fun e w' => e = .returned (.bool true) ∧ Below w.heap.size w w' := by
  have hB := below_box (w := w) #[.int .i64 b, .slice A cs.length c, .slice A2 fs.length c2] 25
  have hT := Blk.new w 25 #[.int .i64 b, .slice A cs.length c, .slice A2 fs.length c2]
  have HB0 := hid hB
  have HT0 := hid hT
  have HH := hid h
  obtain ⟨t0, t1, t2⟩ := hT.c3
  clear h hB hT
  have HTH := hid ht
  have HFW := hid hf
  clear ht hf
  go_enter Try.func3, Try.ntmps3
  have K1 := hid (thin_any (.int .i64 b) A c cs A2 c2 fs _ (HH.out.at_ HB0.out))
  rw [HTH.out] at K1
  go_wp2_with fail
  refine K1.out.mono ?_
  rintro e w1 ⟨rfl, hb⟩
  have HB1 := hid (HB0.out.trans (hb.mono HB0.out.size))
  have HT1 := hid (HT0.out.keep hb)
  clear hb K1 t0 t1 t2
  obtain ⟨t0, t1, t2⟩ := HT1.out.c3
  have K2 := hid (few_any b A c cs A2 c2 fs w1 (HH.out.at_ HB1.out))
  rw [HFW.out] at K2
  go_wp2_with fail
  refine K2.out.mono ?_
  rintro e w2 ⟨rfl, hb⟩
  have HB2 := hid (HB1.out.trans (hb.mono HB1.out.size))
  have HT2 := hid (HT1.out.keep hb)
  clear hb K2 t0 t1 t2
  obtain ⟨t0, t1, t2⟩ := HT2.out.c3
  have K3 := hid (awake_any w2)
  go_wp2_with fail
  refine K3.out.mono ?_
  rintro e w3 ⟨rfl, hb⟩
  have HB3 := hid (HB2.out.trans (hb.mono HB2.out.size))
  have HT3 := hid (HT2.out.keep hb)
  clear hb K3 t0 t1 t2
  obtain ⟨t0, t1, t2⟩ := HT3.out.c3
  clear t0 t1 t2
  go_wp2
  go_ret
  exact ⟨rfl, HB3.out⟩

set_option maxRecDepth 100000 in
set_option maxHeartbeats 4000000 in
theorem bests_bad (b : Int) (A : Option Addr) (c : Nat) (cs : List (List Int)) (A2 : Option Addr) (c2 : Nat) (fs : List Fx) (w : World) (h : TIn A c cs A2 c2 fs w) (ht : thinB cs fs = true) (hc : ¬ chkE b cs fs = 0) :
    Calls Try.prog 3 #[.agg #[.int .i64 b, .slice A cs.length c, .slice A2 fs.length c2]] w fun e w' => e = .returned (.bool true) ∧ Below w.heap.size w w' := by
  have hB := below_box (w := w) #[.int .i64 b, .slice A cs.length c, .slice A2 fs.length c2] 25
  have hT := Blk.new w 25 #[.int .i64 b, .slice A cs.length c, .slice A2 fs.length c2]
  have HB0 := hid hB
  have HT0 := hid hT
  have HH := hid h
  obtain ⟨t0, t1, t2⟩ := hT.c3
  clear h hB hT
  have hfl := thin_len_ ht
  have hn8 := hfl.1.1
  have hf13 := hfl.2
  have HCX := hid (fun (xs : List Int) (hx : xs ∈ cs) => show xs.length ≤ 1000 by have := hfl.1.2 xs hx; omega)
  have HFW := hid (show fewB b cs fs = true by unfold fewB; rw [beq_false_of_ne hc]; rfl)
  have HTH := hid ht
  have HC := hid hc
  have hne : (chkE b cs fs != 0) = true := by simp [hc]
  obtain ⟨z, hz⟩ : ∃ z, chkE b cs fs = z := ⟨_, rfl⟩
  rw [hz] at hne
  have HZ := hid hz
  have hzz : (z == z) = true := by simp
  clear ht hc hfl hz
  go_enter Try.func3, Try.ntmps3
  have K1 := hid (thin_any (.int .i64 b) A c cs A2 c2 fs _ (HH.out.at_ HB0.out))
  rw [HTH.out] at K1
  go_wp2_with fail
  refine K1.out.mono ?_
  rintro e w1 ⟨rfl, hb⟩
  have HB1 := hid (HB0.out.trans (hb.mono HB0.out.size))
  have HT1 := hid (HT0.out.keep hb)
  clear hb K1 t0 t1 t2
  obtain ⟨t0, t1, t2⟩ := HT1.out.c3
  have K2 := hid (few_any b A c cs A2 c2 fs w1 (HH.out.at_ HB1.out))
  rw [HFW.out] at K2
  go_wp2_with fail
  refine K2.out.mono ?_
  rintro e w2 ⟨rfl, hb⟩
  have HB2 := hid (HB1.out.trans (hb.mono HB1.out.size))
  have HT2 := hid (HT1.out.keep hb)
  clear hb K2 t0 t1 t2
  obtain ⟨t0, t1, t2⟩ := HT2.out.c3
  have K3 := hid (table_any b A c cs A2 c2 fs w2 (HH.out.at_ HB2.out) (by omega) HCX.out (by omega))
  go_wp2_with fail
  refine K3.out.mono ?_
  rintro e w3 ⟨P1, p1, Q1, q1, rfl, hti, hb⟩
  have HB3 := hid (HB2.out.trans (hb.mono HB2.out.size))
  have HT3 := hid (HT2.out.keep hb)
  have TI1 := hid hti
  clear hti
  clear hb K3 t0 t1 t2
  obtain ⟨t0, t1, t2⟩ := HT3.out.c3
  have KB := best_any b P1 p1 cs Q1 q1 fs w3 TI1.out
  simp only [ne_eq, HC.out, not_false_eq_true, if_true] at KB
  rw [HZ.out] at KB
  have KB := hid KB
  have K4 := hid (KB.out)
  go_wp2_with fail
  refine K4.out.mono ?_
  rintro e w4 ⟨rfl, hb⟩
  have HB4 := hid (HB3.out.trans (hb.mono HB3.out.size))
  have HT4 := hid (HT3.out.keep hb)
  clear hb K4 t0 t1 t2 KB
  obtain ⟨t0, t1, t2⟩ := HT4.out.c3
  have K5 := hid (table_any b A c cs A2 c2 fs w4 (HH.out.at_ HB4.out) (by omega) HCX.out (by omega))
  go_wp2_with fail
  refine K5.out.mono ?_
  rintro e w5 ⟨P2, p2, Q2, q2, rfl, hti, hb⟩
  have HB5 := hid (HB4.out.trans (hb.mono HB4.out.size))
  have HT5 := hid (HT4.out.keep hb)
  have TI2 := hid hti
  clear hti
  clear hb K5 t0 t1 t2
  obtain ⟨t0, t1, t2⟩ := HT5.out.c3
  have KW := ways_any b P2 p2 cs Q2 q2 fs w5 TI2.out
  rw [if_neg HC.out, HZ.out] at KW
  have KW := hid KW
  have K6 := hid (KW.out)
  go_wp2_with fail
  refine K6.out.mono ?_
  rintro e w6 ⟨rfl, hb⟩
  have HB6 := hid (HB5.out.trans (hb.mono HB5.out.size))
  have HT6 := hid (HT5.out.keep hb)
  clear hb K6 t0 t1 t2 KW
  obtain ⟨t0, t1, t2⟩ := HT6.out.c3
  have K7 := hid (table_any b A c cs A2 c2 fs w6 (HH.out.at_ HB6.out) (by omega) HCX.out (by omega))
  go_wp2_with fail
  refine K7.out.mono ?_
  rintro e w7 ⟨P3, p3, Q3, q3, rfl, hti, hb⟩
  have HB7 := hid (HB6.out.trans (hb.mono HB6.out.size))
  have HT7 := hid (HT6.out.keep hb)
  have TI3 := hid hti
  clear hti
  clear hb K7 t0 t1 t2
  obtain ⟨t0, t1, t2⟩ := HT7.out.c3
  have KS := span_any b P3 p3 cs Q3 q3 fs w7 TI3.out
  simp only [ne_eq, HC.out, not_false_eq_true, if_true] at KS
  rw [HZ.out] at KS
  have KS := hid KS
  have K8 := hid (KS.out)
  go_wp2_with fail
  refine K8.out.mono ?_
  rintro e w8 ⟨rfl, hb⟩
  have HB8 := hid (HB7.out.trans (hb.mono HB7.out.size))
  have HT8 := hid (HT7.out.keep hb)
  clear hb K8 t0 t1 t2 KS
  obtain ⟨t0, t1, t2⟩ := HT8.out.c3
  have K9 := hid (lfault_any b A c cs A2 c2 fs w8 (HH.out.at_ HB8.out))
  rw [HZ.out] at K9
  go_wp2_with fail
  refine K9.out.mono ?_
  rintro e w9 ⟨rfl, hb⟩
  have HB9 := hid (HB8.out.trans (hb.mono HB8.out.size))
  have HT9 := hid (HT8.out.keep hb)
  clear hb K9 t0 t1 t2
  obtain ⟨t0, t1, t2⟩ := HT9.out.c3
  have K10 := hid (awake_any w9)
  go_wp2_with fail
  refine K10.out.mono ?_
  rintro e w10 ⟨rfl, hb⟩
  have HB10 := hid (HB9.out.trans (hb.mono HB9.out.size))
  have HT10 := hid (HT9.out.keep hb)
  clear hb K10 t0 t1 t2
  obtain ⟨t0, t1, t2⟩ := HT10.out.c3
  clear t0 t1 t2
  go_wp2
  go_ret
  exact ⟨rfl, HB10.out⟩

set_option maxRecDepth 100000 in
set_option maxHeartbeats 4000000 in
theorem bests_none (b : Int) (A : Option Addr) (c : Nat) (cs : List (List Int)) (A2 : Option Addr) (c2 : Nat) (fs : List Fx) (w : World) (h : TIn A c cs A2 c2 fs w) (ht : thinB cs fs = true) (hc : chkE b cs fs = 0) (h11 : cntT b cs ≤ 11) (hw : (spec b cs fs cs.length zeroS).ways = 0) :
    Calls Try.prog 3 #[.agg #[.int .i64 b, .slice A cs.length c, .slice A2 fs.length c2]] w fun e w' => e = .returned (.bool true) ∧ Below w.heap.size w w' := by
  have hB := below_box (w := w) #[.int .i64 b, .slice A cs.length c, .slice A2 fs.length c2] 25
  have hT := Blk.new w 25 #[.int .i64 b, .slice A cs.length c, .slice A2 fs.length c2]
  have HB0 := hid hB
  have HT0 := hid hT
  have HH := hid h
  obtain ⟨t0, t1, t2⟩ := hT.c3
  clear h hB hT
  have OK := hid (chk_ok hc)
  have HCK := hid hc
  have hn5 := OK.out.okc.n2
  have hn1 := OK.out.okc.n1
  have hc4 := OK.out.okc.c2
  have hf100 := OK.out.n
  have hb1 := OK.out.okc.b1
  have HCX := hid (fun (xs : List Int) (hx : xs ∈ cs) => show xs.length ≤ 1000 by have := OK.out.okc.row xs hx; omega)
  have HFW := hid (show fewB b cs fs = true by unfold fewB; simp [h11])
  have H11 := hid h11
  have HTH := hid ht
  clear ht h11 hc
  have HWZ := hid (show (rnds b cs fs cs.length zeroS).length = 0 by have e := ways_len (b := b) (cs := cs) (fs := fs); rw [hw] at e; omega)
  have HWS := hid hw
  clear hw
  go_enter Try.func3, Try.ntmps3
  have K1 := hid (thin_any (.int .i64 b) A c cs A2 c2 fs _ (HH.out.at_ HB0.out))
  rw [HTH.out] at K1
  go_wp2_with fail
  refine K1.out.mono ?_
  rintro e w1 ⟨rfl, hb⟩
  have HB1 := hid (HB0.out.trans (hb.mono HB0.out.size))
  have HT1 := hid (HT0.out.keep hb)
  clear hb K1 t0 t1 t2
  obtain ⟨t0, t1, t2⟩ := HT1.out.c3
  have K2 := hid (few_any b A c cs A2 c2 fs w1 (HH.out.at_ HB1.out))
  rw [HFW.out] at K2
  go_wp2_with fail
  refine K2.out.mono ?_
  rintro e w2 ⟨rfl, hb⟩
  have HB2 := hid (HB1.out.trans (hb.mono HB1.out.size))
  have HT2 := hid (HT1.out.keep hb)
  clear hb K2 t0 t1 t2
  obtain ⟨t0, t1, t2⟩ := HT2.out.c3
  have K3 := hid (table_any b A c cs A2 c2 fs w2 (HH.out.at_ HB2.out) (by omega) HCX.out (by omega))
  go_wp2_with fail
  refine K3.out.mono ?_
  rintro e w3 ⟨P1, p1, Q1, q1, rfl, hti, hb⟩
  have HB3 := hid (HB2.out.trans (hb.mono HB2.out.size))
  have HT3 := hid (HT2.out.keep hb)
  have TI1 := hid hti
  clear hti
  clear hb K3 t0 t1 t2
  obtain ⟨t0, t1, t2⟩ := HT3.out.c3
  have KB := best_any b P1 p1 cs Q1 q1 fs w3 TI1.out
  simp only [HCK.out, HWS.out, ne_eq, not_true_eq_false, if_false, if_true] at KB
  have KB := hid KB
  have K4 := hid (KB.out)
  go_wp2_with fail
  refine K4.out.mono ?_
  rintro e w4 ⟨rfl, hb⟩
  have HB4 := hid (HB3.out.trans (hb.mono HB3.out.size))
  have HT4 := hid (HT3.out.keep hb)
  clear hb K4 t0 t1 t2 KB
  obtain ⟨t0, t1, t2⟩ := HT4.out.c3
  have K5 := hid (table_any b A c cs A2 c2 fs w4 (HH.out.at_ HB4.out) (by omega) HCX.out (by omega))
  go_wp2_with fail
  refine K5.out.mono ?_
  rintro e w5 ⟨P2, p2, Q2, q2, rfl, hti, hb⟩
  have HB5 := hid (HB4.out.trans (hb.mono HB4.out.size))
  have HT5 := hid (HT4.out.keep hb)
  have TI2 := hid hti
  clear hti
  clear hb K5 t0 t1 t2
  obtain ⟨t0, t1, t2⟩ := HT5.out.c3
  have KW := ways_any b P2 p2 cs Q2 q2 fs w5 TI2.out
  rw [if_pos HCK.out, HWS.out] at KW
  have KW := hid KW
  have K6 := hid (KW.out)
  go_wp2_with fail
  refine K6.out.mono ?_
  rintro e w6 ⟨rfl, hb⟩
  have HB6 := hid (HB5.out.trans (hb.mono HB5.out.size))
  have HT6 := hid (HT5.out.keep hb)
  clear hb K6 t0 t1 t2 KW
  obtain ⟨t0, t1, t2⟩ := HT6.out.c3
  have K7 := hid (table_any b A c cs A2 c2 fs w6 (HH.out.at_ HB6.out) (by omega) HCX.out (by omega))
  go_wp2_with fail
  refine K7.out.mono ?_
  rintro e w7 ⟨P3, p3, Q3, q3, rfl, hti, hb⟩
  have HB7 := hid (HB6.out.trans (hb.mono HB6.out.size))
  have HT7 := hid (HT6.out.keep hb)
  have TI3 := hid hti
  clear hti
  clear hb K7 t0 t1 t2
  obtain ⟨t0, t1, t2⟩ := HT7.out.c3
  have KS := span_any b P3 p3 cs Q3 q3 fs w7 TI3.out
  simp only [HCK.out, HWS.out, ne_eq, not_true_eq_false, if_false, if_true] at KS
  have KS := hid KS
  have K8 := hid (KS.out)
  go_wp2_with fail
  refine K8.out.mono ?_
  rintro e w8 ⟨rfl, hb⟩
  have HB8 := hid (HB7.out.trans (hb.mono HB7.out.size))
  have HT8 := hid (HT7.out.keep hb)
  clear hb K8 t0 t1 t2 KS
  obtain ⟨t0, t1, t2⟩ := HT8.out.c3
  have K9 := hid (lfault_any b A c cs A2 c2 fs w8 (HH.out.at_ HB8.out))
  rw [HCK.out] at K9
  go_wp2_with fail
  refine K9.out.mono ?_
  rintro e w9 ⟨rfl, hb⟩
  have HB9 := hid (HB8.out.trans (hb.mono HB8.out.size))
  have HT9 := hid (HT8.out.keep hb)
  clear hb K9 t0 t1 t2
  obtain ⟨t0, t1, t2⟩ := HT9.out.c3
  have KR := hid (roundings_any b A c cs A2 c2 fs w9 (HH.out.at_ HB9.out) HCK.out H11.out)
  unfold GivesAll at KR
  go_wp2_with fail
  refine KR.out.mono ?_
  rintro e wn ⟨VB, ch, VS, rfl, hall⟩
  have HAL := hid hall
  have hbn := hall.below
  have HBn := hid (HB9.out.trans (hbn.mono HB9.out.size))
  have HTn := hid (HT9.out.keep hbn)
  clear hbn hall KR t0 t1 t2
  rw [HWZ.out]
  obtain ⟨SA, cS, hVS⟩ : ∃ SA cS, VS = .slice SA 0 cS := by
    obtain ⟨Gg, gm⟩ := HAL.out.span
    obtain ⟨SA, cS, e⟩ := own_slice gm.own
    rw [List.eq_nil_of_length_eq_zero HWZ.out] at e
    exact ⟨SA, cS, e⟩
  obtain ⟨BA, nb, cb, hVB⟩ : ∃ BA nb cb, VB = .slice BA nb cb := by
    rcases HAL.out.best with ⟨_, e, _⟩ | ⟨_, _, _, _, _, e, _⟩ <;> exact ⟨_, _, _, e⟩
  subst hVS hVB
  go_upto_region 10 with (fail)
  refine gen (p := Code.wp _ _ _ _) (fun W => Below w.heap.size w W ∧ Blk W w.heap.size 25 #[.int .i64 b, .slice A cs.length c, .slice A2 fs.length c2] ∧ Blk W wn.heap.size 43 #[.int .i64 0, .slice BA nb cb, .int .i64 ch, .slice SA 0 cS]) ⟨(HBn.out.alloc HBn.out.size _), (HTn.out.alloc _), Blk.new _ _ _⟩ ?_
  rintro wa ⟨hba, hta, haa⟩
  have HBA := hid hba
  have HTA := hid hta
  obtain ⟨a0, a1, a2, a3⟩ := haa.c4
  clear hba hta haa HAL HBn HTn
  have KA := hid (awake_any wa)
  go_wp2_with fail
  refine KA.out.mono ?_
  rintro e wz ⟨rfl, hb⟩
  have HBZ := hid (HBA.out.trans (hb.mono HBA.out.size))
  clear hb KA a0 a1 a2 a3
  go_wp2
  go_ret
  exact ⟨rfl, HBZ.out⟩

set_option maxRecDepth 100000 in
set_option maxHeartbeats 4000000 in
theorem bests_some (b : Int) (A : Option Addr) (c : Nat) (cs : List (List Int)) (A2 : Option Addr) (c2 : Nat) (fs : List Fx) (w : World) (h : TIn A c cs A2 c2 fs w) (ht : thinB cs fs = true) (hc : chkE b cs fs = 0) (h11 : cntT b cs ≤ 11) (hw : ¬ (spec b cs fs cs.length zeroS).ways = 0) :
    Calls Try.prog 3 #[.agg #[.int .i64 b, .slice A cs.length c, .slice A2 fs.length c2]] w fun e w' => e = .returned (.bool true) ∧ Below w.heap.size w w' := by
  have hB := below_box (w := w) #[.int .i64 b, .slice A cs.length c, .slice A2 fs.length c2] 25
  have hT := Blk.new w 25 #[.int .i64 b, .slice A cs.length c, .slice A2 fs.length c2]
  have HB0 := hid hB
  have HT0 := hid hT
  have HH := hid h
  obtain ⟨t0, t1, t2⟩ := hT.c3
  clear h hB hT
  have HBP := hid (best_plain hw)
  have HWL := hid (ways_len (b := b) (cs := cs) (fs := fs))
  have HSP := hid (span_plain hc hw)
  have HISR := hid (best_isR hw)
  have HNE := hid (ways_ne hw)
  have HWS := hid hw
  clear hw
  have OK := hid (chk_ok hc)
  have HCK := hid hc
  have hn5 := OK.out.okc.n2
  have hn1 := OK.out.okc.n1
  have hc4 := OK.out.okc.c2
  have hf100 := OK.out.n
  have hb1 := OK.out.okc.b1
  have HCX := hid (fun (xs : List Int) (hx : xs ∈ cs) => show xs.length ≤ 1000 by have := OK.out.okc.row xs hx; omega)
  have HFW := hid (show fewB b cs fs = true by unfold fewB; simp [h11])
  have H11 := hid h11
  have HTH := hid ht
  clear ht h11 hc
  go_enter Try.func3, Try.ntmps3
  have K1 := hid (thin_any (.int .i64 b) A c cs A2 c2 fs _ (HH.out.at_ HB0.out))
  rw [HTH.out] at K1
  go_wp2_with fail
  refine K1.out.mono ?_
  rintro e w1 ⟨rfl, hb⟩
  have HB1 := hid (HB0.out.trans (hb.mono HB0.out.size))
  have HT1 := hid (HT0.out.keep hb)
  clear hb K1 t0 t1 t2
  obtain ⟨t0, t1, t2⟩ := HT1.out.c3
  have K2 := hid (few_any b A c cs A2 c2 fs w1 (HH.out.at_ HB1.out))
  rw [HFW.out] at K2
  go_wp2_with fail
  refine K2.out.mono ?_
  rintro e w2 ⟨rfl, hb⟩
  have HB2 := hid (HB1.out.trans (hb.mono HB1.out.size))
  have HT2 := hid (HT1.out.keep hb)
  clear hb K2 t0 t1 t2
  obtain ⟨t0, t1, t2⟩ := HT2.out.c3
  have K3 := hid (table_any b A c cs A2 c2 fs w2 (HH.out.at_ HB2.out) (by omega) HCX.out (by omega))
  go_wp2_with fail
  refine K3.out.mono ?_
  rintro e w3 ⟨P1, p1, Q1, q1, rfl, hti, hb⟩
  have HB3 := hid (HB2.out.trans (hb.mono HB2.out.size))
  have HT3 := hid (HT2.out.keep hb)
  have TI1 := hid hti
  clear hti
  clear hb K3 t0 t1 t2
  obtain ⟨t0, t1, t2⟩ := HT3.out.c3
  have KB := hid (best_any b P1 p1 cs Q1 q1 fs w3 TI1.out)
  simp only [HCK.out, ne_eq, not_true_eq_false, if_false] at KB
  simp only [if_neg HWS.out] at KB
  go_wp2_with fail
  refine KB.out.mono ?_
  rintro e wb ⟨A5, c5, rfl, g1, g2, g3, g4, g5, hb⟩
  have HB4 := hid (HB3.out.trans (hb.mono HB3.out.size))
  have HT4 := hid (HT3.out.keep hb)
  have HGL := hid (And.intro g1 (And.intro g2 g3))
  clear hb t0 t1 t2 KB g1 g2 g3 g4 g5
  obtain ⟨t0, t1, t2⟩ := HT4.out.c3
  have B0 := hid (Below.refl wb.heap.size wb)
  generalize hchg : (spec b cs fs cs.length zeroS).change = chg
  have HCHG := hid hchg
  clear hchg
  have K5 := hid (table_any b A c cs A2 c2 fs wb (HH.out.at_ HB4.out) (by omega) HCX.out (by omega))
  go_wp2_with fail
  refine K5.out.mono ?_
  rintro e w5 ⟨P2, p2, Q2, q2, rfl, hti, hb⟩
  have HB5 := hid (HB4.out.trans (hb.mono HB4.out.size))
  have HT5 := hid (HT4.out.keep hb)
  have B5 := hid (B0.out.trans (hb.mono B0.out.size))
  have TI2 := hid hti
  clear hti
  clear hb K5 t0 t1 t2
  obtain ⟨t0, t1, t2⟩ := HT5.out.c3
  have KW := ways_any b P2 p2 cs Q2 q2 fs w5 TI2.out
  rw [if_pos HCK.out, HWL.out] at KW
  have KW := hid KW
  have K6 := hid (KW.out)
  go_wp2_with fail
  refine K6.out.mono ?_
  rintro e w6 ⟨rfl, hb⟩
  have HB6 := hid (HB5.out.trans (hb.mono HB5.out.size))
  have HT6 := hid (HT5.out.keep hb)
  have B6 := hid (B5.out.trans (hb.mono B5.out.size))
  clear hb K6 t0 t1 t2 KW
  obtain ⟨t0, t1, t2⟩ := HT6.out.c3
  have K7 := hid (table_any b A c cs A2 c2 fs w6 (HH.out.at_ HB6.out) (by omega) HCX.out (by omega))
  go_wp2_with fail
  refine K7.out.mono ?_
  rintro e w7 ⟨P3, p3, Q3, q3, rfl, hti, hb⟩
  have HB7 := hid (HB6.out.trans (hb.mono HB6.out.size))
  have HT7 := hid (HT6.out.keep hb)
  have B7 := hid (B6.out.trans (hb.mono B6.out.size))
  have TI3 := hid hti
  clear hti
  clear hb K7 t0 t1 t2
  obtain ⟨t0, t1, t2⟩ := HT7.out.c3
  have KS := hid (span_any b P3 p3 cs Q3 q3 fs w7 TI3.out)
  simp only [HCK.out, ne_eq, not_true_eq_false, if_false] at KS
  simp only [if_neg HWS.out] at KS
  go_wp2_with fail
  refine KS.out.mono ?_
  rintro e ws ⟨Ro, Rs, rfl, g1, g2, g3, g4, hb⟩
  have HB8 := hid (HB7.out.trans (hb.mono HB7.out.size))
  have HT8 := hid (HT7.out.keep hb)
  have HB0B := hid (B7.out.trans (hb.mono B7.out.size))
  have HSN := hid (And.intro g2 (And.intro g3 g4))
  clear hb t0 t1 t2 KS g1 g2 g3 g4
  obtain ⟨t0, t1, t2⟩ := HT8.out.c3
  have S0 := hid (Below.refl ws.heap.size ws)
  have K9 := hid (lfault_any b A c cs A2 c2 fs ws (HH.out.at_ HB8.out))
  rw [HCK.out] at K9
  go_wp2_with fail
  refine K9.out.mono ?_
  rintro e w9 ⟨rfl, hb⟩
  have HB9 := hid (HB8.out.trans (hb.mono HB8.out.size))
  have HT9 := hid (HT8.out.keep hb)
  have B9 := hid (HB0B.out.trans (hb.mono HB0B.out.size))
  have S9 := hid (S0.out.trans (hb.mono S0.out.size))
  clear hb K9 t0 t1 t2
  obtain ⟨t0, t1, t2⟩ := HT9.out.c3
  have KR := hid (roundings_any b A c cs A2 c2 fs w9 (HH.out.at_ HB9.out) HCK.out H11.out)
  unfold GivesAll at KR
  go_wp2_with fail
  refine KR.out.mono ?_
  rintro e wn ⟨VB, ch, VS, rfl, hall⟩
  have HAL := hid hall
  have hbn := hall.below
  have HBn := hid (HB9.out.trans (hbn.mono HB9.out.size))
  have HTn := hid (HT9.out.keep hbn)
  have Bn := hid (B9.out.trans (hbn.mono B9.out.size))
  have Sn := hid (S9.out.trans (hbn.mono S9.out.size))
  clear hbn hall KR t0 t1 t2
  obtain ⟨go, Rr, hVB, hch, hnum⟩ : ∃ go Rr, VB = .slice (some ⟨go, 0, none⟩) cs.length cs.length ∧ ch = chg ∧ ∃ w9, NthI cs (bestOf b cs fs cs.length zeroS) go Rr 0 w9 wn := by
    rcases HAL.out.best with ⟨e, _⟩ | ⟨x, go, Rr, hB, e1, e2, e3⟩
    · exact absurd e HNE.out
    · have hK := HBP.out.1
      have hx : x = bestOf b cs fs cs.length zeroS := by
        refine (hB.congr_ fun y hy => ?_).unique hK
        exact costK_change (rnds_isR.1 hy).len
      subst hx
      exact ⟨go, Rr, e2, by rw [e1, ← HBP.out.2, HCHG.out], _, e3⟩
  obtain ⟨z, cS, hVS, hcS⟩ : ∃ z cS, VS = .slice (some ⟨z, 0, none⟩) cs.length cS ∧ (cs.length ≤ cS ∧ cS ≤ maxLen) ∧ ∃ base Gg, GM base (.slice (some ⟨z, 0, none⟩) cs.length cS) Gg (spn (rnds b cs fs cs.length zeroS)) (colsOf cs) wn := by
    obtain ⟨Gg, gm⟩ := HAL.out.span
    have hsl : (spn (rnds b cs fs cs.length zeroS)).length = cs.length := by rw [← HSP.out]; exact HSN.out.2.1
    obtain ⟨z, cap, e, h1, h2, _⟩ := gm.at_ (r := 0) (by omega)
    rw [hsl] at e h1
    have gm2 := gm
    rw [e] at gm2
    exact ⟨z, cap, e, ⟨h1, h2⟩, _, Gg, gm2⟩
  have HCS := hid hcS
  clear hcS
  subst hVB hVS hch
  have HNM := hid hnum
  clear hnum HAL
  generalize hrl : ((rnds b cs fs cs.length zeroS).length : Int) = rl at *
  have hr0 : (rl == 0) = false := beq_eq_false_iff_ne.2 (by rw [← hrl]; have := List.length_pos_iff.2 HNE.out; omega)
  have hrr : (rl != rl) = false := by simp
  clear hrl
  go_upto_region 10 with (fail)
  refine gen (p := Code.wp _ _ _ _) (fun W => Below wn.heap.size wn W ∧ Blk W wn.heap.size 43 #[.int .i64 rl, .slice (some ⟨go, 0, none⟩) cs.length cs.length, .int .i64 ch, .slice (some ⟨z, 0, none⟩) cs.length cS]) ⟨(Below.refl _ _).alloc (Nat.le_refl _) _, Blk.new _ _ _⟩ ?_
  rintro wa ⟨hba, haa⟩
  have HBA := hid (HBn.out.trans (hba.mono HBn.out.size))
  have HTA := hid (HTn.out.keep hba)
  have HGL2 := hid (HGL.out.1.at_ (Bn.out.trans (hba.mono Bn.out.size)))
  have HSS := hid (Sn.out.trans (hba.mono Sn.out.size))
  have HAA := hid haa
  have HNB := hid hba
  clear hba
  have hal := alike_rows (HISR.out.alike OK.out)
  have HLN := hid (shape_len hal.1 (fun l hl => (hal.2 l hl).1) rfl OK.out.okc.row)
  obtain ⟨w9, hnm⟩ := HNM.out
  have hbr := (hnm.rows_ hal.1 HLN.out (fun l hl => by have := (hal.2 l hl).1; omega)).at_ HNB.out
  have KSM := same_any A5 c5 (bestOf b cs fs cs.length zeroS) (some ⟨go, 0, none⟩) cs.length (bestOf b cs fs cs.length zeroS) wa HGL2.out hbr (by rw [hal.1]; omega) (by rw [hal.1]; omega)
  rw [hal.1, show sameB (bestOf b cs fs cs.length zeroS) (bestOf b cs fs cs.length zeroS) = true by unfold sameB; simp] at KSM
  have KSM := hid KSM
  clear hbr hnm hal HNM
  obtain ⟨a0, a1, a2, a3⟩ := haa.c4
  clear haa
  go_wp2_with fail
  refine KSM.out.mono ?_
  rintro e wc ⟨rfl, hb⟩
  have HBC := hid (HBA.out.trans (hb.mono HBA.out.size))
  have HAC := hid (HAA.out.keep hb)
  have HSC := hid (HSS.out.trans (hb.mono HSS.out.size))
  have HNC := hid (HNB.out.trans (hb.mono HNB.out.size))
  clear hb KSM a0 a1 a2 a3 HBA HAA HSS HNB HTA HGL2
  obtain ⟨a0, a1, a2, a3⟩ := HAC.out.c4
  have hcc : (ch != ch) = false := by simp
  have hll : ((cs.length : Int) != (cs.length : Int)) = false := by simp
  have hmm : ((colsOf cs : Int) != (colsOf cs : Int)) = false := by simp
  have HSN2 := hid (show (spn (rnds b cs fs cs.length zeroS)).length = cs.length ∧ ∀ (r : Nat) (row : List (Int × Int)), (spn (rnds b cs fs cs.length zeroS))[r]? = some row → row.length = colsOf cs ∧ Blk wc (Rs r) 49 (rowCells row).toArray by
    rw [← HSP.out]
    exact ⟨HSN.out.2.1, fun r row hr => ⟨(HSN.out.2.2 r row hr).1, (HSN.out.2.2 r row hr).2.keep HSC.out⟩⟩)
  have HRO := hid (HSN.out.1.keep HSC.out)
  have HGM := hid (show ∃ base Gg, GM base (.slice (some ⟨z, 0, none⟩) cs.length cS) Gg (spn (rnds b cs fs cs.length zeroS)) (colsOf cs) wc by
    obtain ⟨base, Gg, gm⟩ := HCS.out.2
    exact ⟨base, Gg, gm.keep HNC.out⟩)
  have hcs := HCS.out.1
  unfold maxLen at hcs
  obtain ⟨hcs1, hcs2⟩ := hcs
  generalize spn (rnds b cs fs cs.length zeroS) = G at *
  clear HSN HSC HNC HCS HSP HNE HBP
  go_wp2
  go_loopw [12] (fun i W => ∃ r : Nat, r ≤ cs.length ∧ i = .int .i64 (r : Int) ∧ Below wc.heap.size wc W) (fun i _ => cs.length - (intOf i).toNat)
  case atStart => exact ⟨0, Nat.zero_le _, rfl, Below.refl _ _⟩
  case round =>
    obtain ⟨r, hr, rfl, hbr⟩ := hrel
    have HBR := hid hbr
    clear hbr a0 a1 a2 a3
    obtain ⟨a0, a1, a2, a3⟩ := (HAC.out.keep HBR.out).c4
    by_cases hlt : r < cs.length
    · have hrI : (r : Int) < (cs.length : Int) := by omega
      obtain ⟨row, hrow⟩ : ∃ row, G[r]? = some row := ⟨_, List.getElem?_eq_getElem (by rw [HSN2.out.1]; exact hlt)⟩
      obtain ⟨hrl, hrb⟩ := HSN2.out.2 r row hrow
      have HRB := hid (hrb.keep HBR.out)
      have HRL := hid hrl
      obtain ⟨base, Gg, gm⟩ := HGM.out
      obtain ⟨hgb, _, _⟩ := gm.rows r row hrow
      have HGB := hid (hgb.keep HBR.out)
      have y1 := (HRO.out.keep HBR.out).cell r
      rw [ptrsTo_get hlt hlt] at y1
      have y2 := (gm.keep HBR.out).at2 (r := r) (by rw [HSN2.out.1]; exact hlt)
      obtain ⟨g1, hg1⟩ : ∃ g1, Rs r = g1 := ⟨_, rfl⟩
      obtain ⟨g2, hg2⟩ : ∃ g2, Gg r = g2 := ⟨_, rfl⟩
      rw [hg1] at y1 HRB
      rw [hg2] at y2 HGB
      clear hrow hrl hrb hgb gm hg1 hg2
      have s1 := xt_cell y1
      have s2 := xt_cell a3
      have s3 := xt_cell y2
      have Y1 := hid y1
      have Y2 := hid y2
      have A3 := hid a3
      clear y1 y2 a3
      go_wp2
      refine wp_region_quiet_xt (by kernel_rfl) (by kernel_rfl) ?_
      repeat (go_big_quiet_step (fail))
      refine wpQuiet_nil ?_
      intro W3 hw3
      replace hw3 := of_xt hw3
      have HW3 := hid hw3
      clear hw3 s1 s2 s3
      go_wp2
      go_loopw [13] (fun i W => ∃ k : Nat, k ≤ colsOf cs ∧ i = .int .i64 (k : Int) ∧ Below wr.heap.size wr W) (fun i _ => colsOf cs - (intOf i).toNat)
      case atStart => exact ⟨0, Nat.zero_le _, rfl, HW3.out⟩
      case round =>
        obtain ⟨k, hk, rfl, hbk⟩ := hrel
        have HBK := hid hbk
        clear hbk a0 a1 a2
        have y1 := HBK.out.cell (p := ⟨Ro, r, none⟩) (World.block_lt_of_cell? _ _ Y1.out)
        rw [Y1.out] at y1
        by_cases hkl : k < colsOf cs
        · have hkI : (k : Int) < (colsOf cs : Int) := by omega
          obtain ⟨p, hp⟩ : ∃ p, row[k]? = some p := ⟨_, List.getElem?_eq_getElem (by rw [HRL.out]; exact hkl)⟩
          obtain ⟨q1, q2⟩ := rowCells_lo hp
          have c1 := (HRB.out.keep HBK.out).cell (k * 2)
          have c2 := (HRB.out.keep HBK.out).cell (k * 2 + 1)
          have c3 := (HGB.out.keep HBK.out).cell (k * 2)
          have c4 := (HGB.out.keep HBK.out).cell (k * 2 + 1)
          rw [List.getElem?_toArray, q1] at c1 c3
          rw [List.getElem?_toArray, q2] at c2 c4
          have y2 := HBK.out.cell (p := ⟨z, r, none⟩) (World.block_lt_of_cell? _ _ Y2.out)
          rw [Y2.out] at y2
          have a3 := HBK.out.cell (World.block_lt_of_cell? _ _ A3.out)
          rw [A3.out] at a3
          have s1 := xt_cell y1
          have s2 := xt_cell y2
          have s3 := xt_cell a3
          have s4 := xt_cell c1
          have s5 := xt_cell c2
          have s6 := xt_cell c3
          have s7 := xt_cell c4
          obtain ⟨u1, u2⟩ := p
          have TB := hid (fun (W : World) (x : Xt) => between_any u1 u2 (xt W x))
          clear hp q1 q2 c1 c2 c3 c4 y2 a3
          go_wp2
          clear y1
          refine wp_region_quiet_xt (by kernel_rfl) (by kernel_rfl) ?_
          repeat (go_big_quiet_step ((go_at_call 25; with_reducible exact Calls.xt (TB.out _ _))))
          refine wpQuiet_nil ?_
          intro W4 hw4
          replace hw4 := of_xt hw4
          have HW4 := hid hw4
          clear hw4 s1 s2 s3 s4 s5 s6 s7 TB
          go_wp2
          go_roundw
          case rel => exact ⟨k + 1, by omega, by go_num, HBK.out.trans (HW4.out.mono HBK.out.size)⟩
          case measure => first | (simp [intOf]; done) | (simp [intOf]; omega)
        · have hkI : decide ((k : Int) < (colsOf cs : Int)) = false := by simp; omega
          go_wp2
          go_roundw
          case rel => exact ⟨r + 1, by omega, by go_num, HBR.out.trans (HBK.out.mono HBR.out.size)⟩
          case measure => first | (simp [intOf]; done) | (simp [intOf]; omega)
    · have hrI : decide ((r : Int) < (cs.length : Int)) = false := by simp; omega
      have HBW := hid (HBC.out.trans (HBR.out.mono HBC.out.size))
      have KA := hid (awake_any wr)
      go_wp2_with fail
      refine KA.out.mono ?_
      rintro e wz ⟨rfl, hb⟩
      have HBZ := hid (HBW.out.trans (hb.mono HBW.out.size))
      clear hb KA a0 a1 a2 a3
      go_wp2
      go_ret
      exact ⟨rfl, HBZ.out⟩

theorem bests_any (b : Int) (A : Option Addr) (c : Nat) (cs : List (List Int)) (A2 : Option Addr) (c2 : Nat) (fs : List Fx) (w : World) (h : TIn A c cs A2 c2 fs w) :
    Calls Try.prog 3 #[.agg #[.int .i64 b, .slice A cs.length c, .slice A2 fs.length c2]] w fun e w' => e = .returned (.bool true) ∧ Below w.heap.size w w' := by
  cases ht : thinB cs fs
  · exact bests_thin b A c cs A2 c2 fs w h ht
  · by_cases hc : chkE b cs fs = 0
    · by_cases h11 : cntT b cs ≤ 11
      · by_cases hw : (spec b cs fs cs.length zeroS).ways = 0
        · exact bests_none b A c cs A2 c2 fs w h ht hc h11 hw
        · exact bests_some b A c cs A2 c2 fs w h ht hc h11 hw
      · exact bests_many b A c cs A2 c2 fs w h ht (by unfold fewB; rw [hc]; simp; omega)
    · exact bests_bad b A c cs A2 c2 fs w h ht hc

open Go.ChangeShapes Go.WideShapes Go.ChangeAt in
set_option maxRecDepth 100000 in
theorem bests_lifted (os : Os) (started : os.Started) (H : Type) (enc : TypeId × Value → H) :
    ReturnsInHanded {} Try.checked os 3 .any (Rows.roundBestsSpec.pre6 enc Try.prog Try.f3 Rows.roundBestsRow.domain false) (Rows.roundBestsSpec.post enc Try.prog Try.f3 false true false false) := by
  refine returnsInHanded_of_change (C := Try.checked) own started (by kernel_rfl) Try.func3
    (ChangeSpec.witness6 (enc := enc) (C := Try.checked) false ⟨#[], #[.agg #[.int .i64 0, .slice none 0 0, .slice none 0 0]], []⟩ 8 (by kernel_rfl) (by kernel_rfl) (by kernel_rfl) (by kernel_rfl)) ?_
  intro W base args ds gs before hval0 hW hcnd _
  have hval : ∀ (j : Nat) t v, Try.f3.params[j]? = some t → args[j]? = some v → Value.okWide Try.prog W .any base t v := hval0
  have hW' := hW
  obtain ⟨p, q, hA0, hV, rfl, hfz, hnd⟩ := hW
  have hA : DataW.TrodAll enc Try.prog W 0 (fun _ => true) true Try.f3.params.toList args.toList ds p := hA0
  rw [Try.params3] at hA hval
  obtain ⟨v0, vs0, d0, ds0, p0, q0, hargs, rfl, rfl, h0, r0⟩ := trodAll_cons hA
  obtain ⟨rfl, rfl, rfl⟩ := trodAll_nil r0
  obtain rfl : args = #[v0] := by cases args; simp_all
  obtain ⟨rfl, rfl⟩ := trodVars_none hV
  obtain ⟨b0, A, c, cs, A2, c2, fs, rfl, ht⟩ := open_table (hval 0 25 v0 rfl rfl) h0
  refine (bests_any b0 A c cs A2 c2 fs W ht).mono fun e W' ⟨he, hb⟩ => ⟨_, he, ?_⟩
  exact law_post laid_out rfl rfl (by kernel_rfl) hW' rfl hb

theorem bests_over : Rows.roundBestsRow.holds Try.pinned (OpenSpec.ofChange Rows.roundBestsSpec) :=
  OpenClaim.holds_of_wide 3 Try.f3 rfl rfl rfl rfl rfl rfl rfl ⟨rfl, rfl, rfl, rfl, rfl⟩ rfl rfl rfl rfl rfl (by kernel_rfl) Try.func3 (by kernel_rfl)
    (of_decide_eq_true (by kernel_rfl)) (by unfold Func.isWrapper; first | (rw [if_pos (by decide +kernel)]; kernel_rfl) | (rw [if_neg (by decide +kernel)]; exact ⟨rfl, rfl⟩))
    (fun os started H enc _ => bests_lifted os started H enc)
/-- the statement -/
theorem round_bests : Rows.RoundBestsSaid := bests_over
#print axioms round_bests
end Go.Proofs.Ytgoianldiomdoaa
