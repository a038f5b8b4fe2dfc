/- For every table, all numbers and every change: the error, the change, and whether they are a rounding, are as the document says: the statement RoundChanges. No condition. -/
import Derived.Test.YtgoianldiomdoaaG10
import Derived.Test.YtgoianldiomdoaaG9
import Derived.Test.YtgoianldiomdoaaG6
namespace Go.Proofs.Ytgoianldiomdoaa
open Go.RowKit Go.Shelf

theorem short_len {l : List (List Int)} (h : shortB l = true) : l.length ≤ 8 ∧ ∀ xs ∈ l, xs.length ≤ 7 := by
  unfold shortB at h
  simp only [Bool.and_eq_true, decide_eq_true_eq] at h
  rw [List.take_of_length_le (by omega)] at h
  exact ⟨h.2, fun xs hx => by simpa using List.all_eq_true.1 h.1 xs hx⟩
theorem thin_len {cs : List (List Int)} {fs : List Fx} (h : thinB cs fs = true) : (cs.length ≤ 8 ∧ ∀ xs ∈ cs, xs.length ≤ 7) ∧ fs.length ≤ 13 := by
  unfold thinB at h
  simp only [Bool.and_eq_true, decide_eq_true_eq] at h
  exact ⟨short_len h.1, h.2⟩
def okRow (xs : List Int) : Bool := xs.all fun x => withinB x 0 10100
def okTo (l : List (List Int)) (k : Nat) : Bool := (l.take k).all okRow
def okIn (xs : List Int) (k : Nat) : Bool := (xs.take k).all fun x => withinB x 0 10100
theorem okTo_succ {l : List (List Int)} {k : Nat} {x : List Int} (h : l[k]? = some x) : okTo l (k + 1) = (okTo l k && okRow x) := by
  obtain ⟨hk, rfl⟩ := List.getElem?_eq_some_iff.1 h
  unfold okTo
  rw [List.take_succ_eq_append_getElem hk, List.all_append]; simp
theorem okIn_succ {l : List Int} {k : Nat} {x : Int} (h : l[k]? = some x) : okIn l (k + 1) = (okIn l k && withinB x 0 10100) := by
  obtain ⟨hk, rfl⟩ := List.getElem?_eq_some_iff.1 h
  unfold okIn
  rw [List.take_succ_eq_append_getElem hk, List.all_append]; simp
theorem alike_ralk (n m : Nat) (l : List (List Int)) : alikeB n m l = (ralkB n m l && okTo l l.length) := by
  unfold alikeB ralkB alkTo okTo okRow rowB
  rw [List.take_length]
  rw [Bool.eq_iff_iff]
  simp only [Bool.and_eq_true, List.all_eq_true, decide_eq_true_eq, beq_iff_eq]
  constructor
  · rintro ⟨h1, h2⟩
    exact ⟨⟨fun r hr => by have := (h2 r hr).1; omega, by omega⟩, fun r hr => (h2 r hr).2⟩
  · rintro ⟨⟨h1, h2⟩, h3⟩
    exact ⟨by omega, fun r hr => ⟨by have := h1 r hr; omega, h3 r hr⟩⟩
theorem okTo_false {l : List (List Int)} {k : Nat} (h : okTo l k = false) : okTo l l.length = false := by
  unfold okTo at *
  rw [List.take_length, List.all_eq_false] 
  rw [List.all_eq_false] at h
  obtain ⟨x, hx, hp⟩ := h
  exact ⟨x, List.mem_of_mem_take hx, hp⟩

set_option maxRecDepth 100000 in
set_option maxHeartbeats 4000000 in
theorem changes_thin (b : Int) (A : Option Addr) (c : Nat) (cs : List (List Int)) (A2 : Option Addr) (c2 : Nat) (fs : List Fx) (A' : Option Addr) (c' : Nat) (l : List (List Int)) (ch : Int) (w : World) (h : TIn A c cs A2 c2 fs w)
    (hx : IsRows w w.heap.size A' l) (hl : l.length ≤ c') (hm : c' ≤ maxLen) (ht : thinB cs fs = false) :
    Calls Try.prog 13 #[.agg #[.int .i64 b, .slice A cs.length c, .slice A2 fs.length c2], .slice A' l.length c', .int .i64 ch] w fun e w' => e = .returned (.bool true) ∧ Below w.heap.size w w' := by
  have hB := below_box (w := w) #[.int .i64 b, .slice A cs.length c, .slice A2 fs.length c2] 25
  have hT := Blk.new w 25 #[.int .i64 b, .slice A cs.length c, .slice A2 fs.length c2]
  have HB0 := hid hB
  have HT0 := hid hT
  have HH := hid h
  obtain ⟨t0, t1, t2⟩ := hT.c3
  clear h hB hT
  have HTH := hid ht
  clear ht
  go_enter Try.func13, Try.ntmps13
  have K1 := hid (thin_any (.int .i64 b) A c cs A2 c2 fs _ (HH.out.at_ HB0.out))
  rw [HTH.out] at K1
  go_wp2_with fail
  refine K1.out.mono ?_
  rintro e w1 ⟨rfl, hb⟩
  have HB1 := hid (HB0.out.trans (hb.mono HB0.out.size))
  have HT1 := hid (HT0.out.keep hb)
  clear hb K1 t0 t1 t2
  obtain ⟨t0, t1, t2⟩ := HT1.out.c3
  have K2 := hid (awake_any w1)
  go_wp2_with fail
  refine K2.out.mono ?_
  rintro e w2 ⟨rfl, hb⟩
  have HB2 := hid (HB1.out.trans (hb.mono HB1.out.size))
  have HT2 := hid (HT1.out.keep hb)
  clear hb K2 t0 t1 t2
  obtain ⟨t0, t1, t2⟩ := HT2.out.c3
  clear t0 t1 t2
  go_wp2
  go_ret
  exact ⟨rfl, HB2.out⟩

set_option maxRecDepth 100000 in
set_option maxHeartbeats 4000000 in
theorem changes_wide (b : Int) (A : Option Addr) (c : Nat) (cs : List (List Int)) (A2 : Option Addr) (c2 : Nat) (fs : List Fx) (A' : Option Addr) (c' : Nat) (l : List (List Int)) (ch : Int) (w : World) (h : TIn A c cs A2 c2 fs w)
    (hx : IsRows w w.heap.size A' l) (hl : l.length ≤ c') (hm : c' ≤ maxLen) (ht : thinB cs fs = true) (hs : shortB l = false) :
    Calls Try.prog 13 #[.agg #[.int .i64 b, .slice A cs.length c, .slice A2 fs.length c2], .slice A' l.length c', .int .i64 ch] w fun e w' => e = .returned (.bool true) ∧ Below w.heap.size w w' := by
  have hB := below_box (w := w) #[.int .i64 b, .slice A cs.length c, .slice A2 fs.length c2] 25
  have hT := Blk.new w 25 #[.int .i64 b, .slice A cs.length c, .slice A2 fs.length c2]
  have HB0 := hid hB
  have HT0 := hid hT
  have HH := hid h
  obtain ⟨t0, t1, t2⟩ := hT.c3
  clear h hB hT
  have HTH := hid ht
  have HSH := hid hs
  have HX := hid hx
  clear ht hs hx
  go_enter Try.func13, Try.ntmps13
  have K1 := hid (thin_any (.int .i64 b) A c cs A2 c2 fs _ (HH.out.at_ HB0.out))
  rw [HTH.out] at K1
  go_wp2_with fail
  refine K1.out.mono ?_
  rintro e w1 ⟨rfl, hb⟩
  have HB1 := hid (HB0.out.trans (hb.mono HB0.out.size))
  have HT1 := hid (HT0.out.keep hb)
  clear hb K1 t0 t1 t2
  obtain ⟨t0, t1, t2⟩ := HT1.out.c3
  have K2 := hid (short_any A' c' l w1 (HX.out.at_ HB1.out) hl hm)
  rw [HSH.out] at K2
  go_wp2_with fail
  refine K2.out.mono ?_
  rintro e w2 ⟨rfl, hb⟩
  have HB2 := hid (HB1.out.trans (hb.mono HB1.out.size))
  have HT2 := hid (HT1.out.keep hb)
  clear hb K2 t0 t1 t2
  obtain ⟨t0, t1, t2⟩ := HT2.out.c3
  have K3 := hid (awake_any w2)
  go_wp2_with fail
  refine K3.out.mono ?_
  rintro e w3 ⟨rfl, hb⟩
  have HB3 := hid (HB2.out.trans (hb.mono HB2.out.size))
  have HT3 := hid (HT2.out.keep hb)
  clear hb K3 t0 t1 t2
  obtain ⟨t0, t1, t2⟩ := HT3.out.c3
  clear t0 t1 t2
  go_wp2
  go_ret
  exact ⟨rfl, HB3.out⟩

set_option maxRecDepth 100000 in
set_option maxHeartbeats 4000000 in
theorem changes_bad (b : Int) (A : Option Addr) (c : Nat) (cs : List (List Int)) (A2 : Option Addr) (c2 : Nat) (fs : List Fx) (A' : Option Addr) (c' : Nat) (l : List (List Int)) (ch : Int) (w : World) (h : TIn A c cs A2 c2 fs w)
    (hx : IsRows w w.heap.size A' l) (hl : l.length ≤ c') (hm : c' ≤ maxLen) (ht : thinB cs fs = true) (hs : shortB l = true) (hc : chkE b cs fs ≠ 0) :
    Calls Try.prog 13 #[.agg #[.int .i64 b, .slice A cs.length c, .slice A2 fs.length c2], .slice A' l.length c', .int .i64 ch] w fun e w' => e = .returned (.bool true) ∧ Below w.heap.size w w' := by
  have hB := below_box (w := w) #[.int .i64 b, .slice A cs.length c, .slice A2 fs.length c2] 25
  have hT := Blk.new w 25 #[.int .i64 b, .slice A cs.length c, .slice A2 fs.length c2]
  have HB0 := hid hB
  have HT0 := hid hT
  have HH := hid h
  obtain ⟨t0, t1, t2⟩ := hT.c3
  clear h hB hT
  have HTH := hid ht
  have HSH := hid hs
  have HX := hid hx
  obtain ⟨⟨hn8, hcx⟩, hf13⟩ := thin_len ht
  obtain ⟨hl8, hlx⟩ := short_len hs
  have HCX := hid (fun (xs : List Int) hx => show xs.length ≤ 1000 by have := hcx xs hx; omega)
  have HLX := hid (fun (xs : List Int) hx => show xs.length ≤ 1000 by have := hlx xs hx; omega)
  clear ht hs hx hcx hlx
  obtain ⟨ce, hce⟩ : ∃ ce, chkE b cs fs = ce := ⟨_, rfl⟩
  have HCH := hid (show (if chkE b cs fs ≠ 0 then Value.tuple #[.int .i64 0, .int .i64 (chkE b cs fs)] else if alikeB cs.length (colsOf cs) l then .tuple #[.int .i64 (changeOf l cs), .int .i64 0] else .tuple #[.int .i64 0, .int .i64 2]) = .tuple #[.int .i64 0, .int .i64 ce] by rw [if_pos hc, hce])
  have HPR := hid (show proveB b cs fs l ch = false by unfold proveB; rw [show (chkE b cs fs == 0) = false by simpa using hc]; rfl)
  have HCE := hid hce
  have hne : (ce == 0) = false := by rw [← hce]; simpa using hc
  have hne2 : (ce != 0) = true := by rw [← hce]; simpa using hc
  clear hc hce
  go_enter Try.func13, Try.ntmps13
  have K1 := hid (thin_any (.int .i64 b) A c cs A2 c2 fs _ (HH.out.at_ HB0.out))
  rw [HTH.out] at K1
  go_wp2_with fail
  refine K1.out.mono ?_
  rintro e w1 ⟨rfl, hb⟩
  have HB1 := hid (HB0.out.trans (hb.mono HB0.out.size))
  have HT1 := hid (HT0.out.keep hb)
  clear hb K1 t0 t1 t2
  obtain ⟨t0, t1, t2⟩ := HT1.out.c3
  have K2 := hid (short_any A' c' l w1 (HX.out.at_ HB1.out) hl hm)
  rw [HSH.out] at K2
  go_wp2_with fail
  refine K2.out.mono ?_
  rintro e w2 ⟨rfl, hb⟩
  have HB2 := hid (HB1.out.trans (hb.mono HB1.out.size))
  have HT2 := hid (HT1.out.keep hb)
  clear hb K2 t0 t1 t2
  obtain ⟨t0, t1, t2⟩ := HT2.out.c3
  have K3 := hid (table_any b A c cs A2 c2 fs w2 (HH.out.at_ HB2.out) (by omega) HCX.out (by omega))
  go_wp2_with fail
  refine K3.out.mono ?_
  rintro e w3 ⟨P1, p1, Q1, q1, rfl, hti, hb⟩
  have HB3 := hid (HB2.out.trans (hb.mono HB2.out.size))
  have HT3 := hid (HT2.out.keep hb)
  have TI1 := hid hti
  clear hti
  clear hb K3 t0 t1 t2
  obtain ⟨t0, t1, t2⟩ := HT3.out.c3
  have K4 := hid (check_any b P1 p1 cs Q1 q1 fs w3 TI1.out.ic TI1.out.ix TI1.out.l1 TI1.out.m1 TI1.out.l2 TI1.out.m2 TI1.out.k)
  rw [HCE.out] at K4
  go_wp2_with fail
  refine K4.out.mono ?_
  rintro e w4 ⟨rfl, hb⟩
  have HB4 := hid (HB3.out.trans (hb.mono HB3.out.size))
  have HT4 := hid (HT3.out.keep hb)
  clear hb K4 t0 t1 t2
  obtain ⟨t0, t1, t2⟩ := HT4.out.c3
  have K5 := hid (table_any b A c cs A2 c2 fs w4 (HH.out.at_ HB4.out) (by omega) HCX.out (by omega))
  go_wp2_with fail
  refine K5.out.mono ?_
  rintro e w5 ⟨P2, p2, Q2, q2, rfl, hti, hb⟩
  have HB5 := hid (HB4.out.trans (hb.mono HB4.out.size))
  have HT5 := hid (HT4.out.keep hb)
  have TI2 := hid hti
  clear hti
  clear hb K5 t0 t1 t2
  obtain ⟨t0, t1, t2⟩ := HT5.out.c3
  have K6 := hid (rows_any A' c' l w5 (HX.out.at_ HB5.out) hl hm (by omega) HLX.out)
  go_wp2_with fail
  refine K6.out.mono ?_
  rintro e w6 ⟨E2, e2, rfl, hro, hb⟩
  have HB6 := hid (HB5.out.trans (hb.mono HB5.out.size))
  have HT6 := hid (HT5.out.keep hb)
  obtain ⟨E2', e2', hq, g1, g2, g3, g4, g5⟩ := hro.out
  injection hq with hq1 _ hq3
  subst hq1 hq3
  have RI2 := hid (And.intro g1 (And.intro g2 g3))
  have HBR2 := hid hb
  clear hro g1 g2 g3 g4 g5
  clear hb K6 t0 t1 t2
  obtain ⟨t0, t1, t2⟩ := HT6.out.c3
  have K7 := hid (echange_any b P2 p2 cs Q2 q2 fs E2 e2 l w6 (TI2.out.at_ HBR2.out) RI2.out.1 RI2.out.2.1 RI2.out.2.2)
  rw [HCH.out] at K7
  go_wp2_with fail
  refine K7.out.mono ?_
  rintro e w7 ⟨rfl, hb⟩
  have HB7 := hid (HB6.out.trans (hb.mono HB6.out.size))
  have HT7 := hid (HT6.out.keep hb)
  clear hb K7 t0 t1 t2
  obtain ⟨t0, t1, t2⟩ := HT7.out.c3
  have K8 := hid (table_any b A c cs A2 c2 fs w7 (HH.out.at_ HB7.out) (by omega) HCX.out (by omega))
  go_wp2_with fail
  refine K8.out.mono ?_
  rintro e w8 ⟨P3, p3, Q3, q3, rfl, hti, hb⟩
  have HB8 := hid (HB7.out.trans (hb.mono HB7.out.size))
  have HT8 := hid (HT7.out.keep hb)
  have TI3 := hid hti
  clear hti
  clear hb K8 t0 t1 t2
  obtain ⟨t0, t1, t2⟩ := HT8.out.c3
  have K9 := hid (rows_any A' c' l w8 (HX.out.at_ HB8.out) hl hm (by omega) HLX.out)
  go_wp2_with fail
  refine K9.out.mono ?_
  rintro e w9 ⟨E3, e3, rfl, hro, hb⟩
  have HB9 := hid (HB8.out.trans (hb.mono HB8.out.size))
  have HT9 := hid (HT8.out.keep hb)
  obtain ⟨E3', e3', hq, g1, g2, g3, g4, g5⟩ := hro.out
  injection hq with hq1 _ hq3
  subst hq1 hq3
  have RI3 := hid (And.intro g1 (And.intro g2 g3))
  have HBR3 := hid hb
  clear hro g1 g2 g3 g4 g5
  clear hb K9 t0 t1 t2
  obtain ⟨t0, t1, t2⟩ := HT9.out.c3
  have K10 := hid (prove_any b P3 p3 cs Q3 q3 fs E3 e3 l ch w9 (TI3.out.at_ HBR3.out) RI3.out.1 RI3.out.2.1 RI3.out.2.2)
  rw [HPR.out] at K10
  go_wp2_with fail
  refine K10.out.mono ?_
  rintro e w10 ⟨rfl, hb⟩
  have HB10 := hid (HB9.out.trans (hb.mono HB9.out.size))
  have HT10 := hid (HT9.out.keep hb)
  clear hb K10 t0 t1 t2
  obtain ⟨t0, t1, t2⟩ := HT10.out.c3
  have K11 := hid (lfault_any b A c cs A2 c2 fs w10 (HH.out.at_ HB10.out))
  rw [HCE.out] at K11
  go_wp2_with fail
  refine K11.out.mono ?_
  rintro e w11 ⟨rfl, hb⟩
  have HB11 := hid (HB10.out.trans (hb.mono HB10.out.size))
  have HT11 := hid (HT10.out.keep hb)
  clear hb K11 t0 t1 t2
  obtain ⟨t0, t1, t2⟩ := HT11.out.c3
  clear t0 t1 t2
  go_wp2
  go_loopw [11, 12] (fun q i wr => i = .int .i64 0 ∧ q = .int .i64 ce ∧ wr = w11) (fun _ _ _ => 0)
  case atStart => exact ⟨rfl, rfl, rfl⟩
  case round =>
    obtain ⟨rfl, rfl, rfl⟩ := hrel
    by_cases h0 : 0 < l.length
    · have h0I : (0 : Int) < (l.length : Int) := by omega
      have K12 := hid (awake_any wr)
      go_wp2_with fail
      refine K12.out.mono ?_
      rintro e w12 ⟨rfl, hb⟩
      have HB12 := hid (HB11.out.trans (hb.mono HB11.out.size))
      clear hb K12
      skip
      go_wp2
      go_ret
      exact ⟨rfl, HB12.out⟩
    · have h0I : decide ((0 : Int) < (l.length : Int)) = false := decide_eq_false (by omega)
      have K12 := hid (awake_any wr)
      go_wp2_with fail
      refine K12.out.mono ?_
      rintro e w12 ⟨rfl, hb⟩
      have HB12 := hid (HB11.out.trans (hb.mono HB11.out.size))
      clear hb K12
      skip
      go_wp2
      go_ret
      exact ⟨rfl, HB12.out⟩

set_option maxRecDepth 100000 in
set_option maxHeartbeats 4000000 in
theorem changes_unlike (b : Int) (A : Option Addr) (c : Nat) (cs : List (List Int)) (A2 : Option Addr) (c2 : Nat) (fs : List Fx) (A' : Option Addr) (c' : Nat) (l : List (List Int)) (ch : Int) (w : World) (h : TIn A c cs A2 c2 fs w)
    (hx : IsRows w w.heap.size A' l) (hl : l.length ≤ c') (hm : c' ≤ maxLen) (ht : thinB cs fs = true) (hs : shortB l = true) (hc : chkE b cs fs = 0) (hr : ralkB cs.length (colsOf cs) l = false) :
    Calls Try.prog 13 #[.agg #[.int .i64 b, .slice A cs.length c, .slice A2 fs.length c2], .slice A' l.length c', .int .i64 ch] w fun e w' => e = .returned (.bool true) ∧ Below w.heap.size w w' := by
  have hB := below_box (w := w) #[.int .i64 b, .slice A cs.length c, .slice A2 fs.length c2] 25
  have hT := Blk.new w 25 #[.int .i64 b, .slice A cs.length c, .slice A2 fs.length c2]
  have HB0 := hid hB
  have HT0 := hid hT
  have HH := hid h
  obtain ⟨t0, t1, t2⟩ := hT.c3
  clear h hB hT
  have HTH := hid ht
  have HSH := hid hs
  have HX := hid hx
  obtain ⟨⟨hn8, hcx⟩, hf13⟩ := thin_len ht
  obtain ⟨hl8, hlx⟩ := short_len hs
  have HCX := hid (fun (xs : List Int) hx => show xs.length ≤ 1000 by have := hcx xs hx; omega)
  have HLX := hid (fun (xs : List Int) hx => show xs.length ≤ 1000 by have := hlx xs hx; omega)
  clear ht hs hx hcx hlx
  have hal : alikeB cs.length (colsOf cs) l = false := by rw [alike_ralk, hr]; rfl
  have HCH := hid (show (if chkE b cs fs ≠ 0 then Value.tuple #[.int .i64 0, .int .i64 (chkE b cs fs)] else if alikeB cs.length (colsOf cs) l then .tuple #[.int .i64 (changeOf l cs), .int .i64 0] else .tuple #[.int .i64 0, .int .i64 2]) = .tuple #[.int .i64 0, .int .i64 2] by rw [hc, hal]; rfl)
  have HPR := hid (show proveB b cs fs l ch = false by unfold proveB; rw [hal]; simp)
  have HCE := hid hc
  have HRA := hid hr
  clear hc hal hr
  go_enter Try.func13, Try.ntmps13
  have K1 := hid (thin_any (.int .i64 b) A c cs A2 c2 fs _ (HH.out.at_ HB0.out))
  rw [HTH.out] at K1
  go_wp2_with fail
  refine K1.out.mono ?_
  rintro e w1 ⟨rfl, hb⟩
  have HB1 := hid (HB0.out.trans (hb.mono HB0.out.size))
  have HT1 := hid (HT0.out.keep hb)
  clear hb K1 t0 t1 t2
  obtain ⟨t0, t1, t2⟩ := HT1.out.c3
  have K2 := hid (short_any A' c' l w1 (HX.out.at_ HB1.out) hl hm)
  rw [HSH.out] at K2
  go_wp2_with fail
  refine K2.out.mono ?_
  rintro e w2 ⟨rfl, hb⟩
  have HB2 := hid (HB1.out.trans (hb.mono HB1.out.size))
  have HT2 := hid (HT1.out.keep hb)
  clear hb K2 t0 t1 t2
  obtain ⟨t0, t1, t2⟩ := HT2.out.c3
  have K3 := hid (table_any b A c cs A2 c2 fs w2 (HH.out.at_ HB2.out) (by omega) HCX.out (by omega))
  go_wp2_with fail
  refine K3.out.mono ?_
  rintro e w3 ⟨P1, p1, Q1, q1, rfl, hti, hb⟩
  have HB3 := hid (HB2.out.trans (hb.mono HB2.out.size))
  have HT3 := hid (HT2.out.keep hb)
  have TI1 := hid hti
  clear hti
  clear hb K3 t0 t1 t2
  obtain ⟨t0, t1, t2⟩ := HT3.out.c3
  have K4 := hid (check_any b P1 p1 cs Q1 q1 fs w3 TI1.out.ic TI1.out.ix TI1.out.l1 TI1.out.m1 TI1.out.l2 TI1.out.m2 TI1.out.k)
  rw [HCE.out] at K4
  go_wp2_with fail
  refine K4.out.mono ?_
  rintro e w4 ⟨rfl, hb⟩
  have HB4 := hid (HB3.out.trans (hb.mono HB3.out.size))
  have HT4 := hid (HT3.out.keep hb)
  clear hb K4 t0 t1 t2
  obtain ⟨t0, t1, t2⟩ := HT4.out.c3
  have K5 := hid (table_any b A c cs A2 c2 fs w4 (HH.out.at_ HB4.out) (by omega) HCX.out (by omega))
  go_wp2_with fail
  refine K5.out.mono ?_
  rintro e w5 ⟨P2, p2, Q2, q2, rfl, hti, hb⟩
  have HB5 := hid (HB4.out.trans (hb.mono HB4.out.size))
  have HT5 := hid (HT4.out.keep hb)
  have TI2 := hid hti
  clear hti
  clear hb K5 t0 t1 t2
  obtain ⟨t0, t1, t2⟩ := HT5.out.c3
  have K6 := hid (rows_any A' c' l w5 (HX.out.at_ HB5.out) hl hm (by omega) HLX.out)
  go_wp2_with fail
  refine K6.out.mono ?_
  rintro e w6 ⟨E2, e2, rfl, hro, hb⟩
  have HB6 := hid (HB5.out.trans (hb.mono HB5.out.size))
  have HT6 := hid (HT5.out.keep hb)
  obtain ⟨E2', e2', hq, g1, g2, g3, g4, g5⟩ := hro.out
  injection hq with hq1 _ hq3
  subst hq1 hq3
  have RI2 := hid (And.intro g1 (And.intro g2 g3))
  have HBR2 := hid hb
  clear hro g1 g2 g3 g4 g5
  clear hb K6 t0 t1 t2
  obtain ⟨t0, t1, t2⟩ := HT6.out.c3
  have K7 := hid (echange_any b P2 p2 cs Q2 q2 fs E2 e2 l w6 (TI2.out.at_ HBR2.out) RI2.out.1 RI2.out.2.1 RI2.out.2.2)
  rw [HCH.out] at K7
  go_wp2_with fail
  refine K7.out.mono ?_
  rintro e w7 ⟨rfl, hb⟩
  have HB7 := hid (HB6.out.trans (hb.mono HB6.out.size))
  have HT7 := hid (HT6.out.keep hb)
  clear hb K7 t0 t1 t2
  obtain ⟨t0, t1, t2⟩ := HT7.out.c3
  have K8 := hid (table_any b A c cs A2 c2 fs w7 (HH.out.at_ HB7.out) (by omega) HCX.out (by omega))
  go_wp2_with fail
  refine K8.out.mono ?_
  rintro e w8 ⟨P3, p3, Q3, q3, rfl, hti, hb⟩
  have HB8 := hid (HB7.out.trans (hb.mono HB7.out.size))
  have HT8 := hid (HT7.out.keep hb)
  have TI3 := hid hti
  clear hti
  clear hb K8 t0 t1 t2
  obtain ⟨t0, t1, t2⟩ := HT8.out.c3
  have K9 := hid (rows_any A' c' l w8 (HX.out.at_ HB8.out) hl hm (by omega) HLX.out)
  go_wp2_with fail
  refine K9.out.mono ?_
  rintro e w9 ⟨E3, e3, rfl, hro, hb⟩
  have HB9 := hid (HB8.out.trans (hb.mono HB8.out.size))
  have HT9 := hid (HT8.out.keep hb)
  obtain ⟨E3', e3', hq, g1, g2, g3, g4, g5⟩ := hro.out
  injection hq with hq1 _ hq3
  subst hq1 hq3
  have RI3 := hid (And.intro g1 (And.intro g2 g3))
  have HBR3 := hid hb
  clear hro g1 g2 g3 g4 g5
  clear hb K9 t0 t1 t2
  obtain ⟨t0, t1, t2⟩ := HT9.out.c3
  have K10 := hid (prove_any b P3 p3 cs Q3 q3 fs E3 e3 l ch w9 (TI3.out.at_ HBR3.out) RI3.out.1 RI3.out.2.1 RI3.out.2.2)
  rw [HPR.out] at K10
  go_wp2_with fail
  refine K10.out.mono ?_
  rintro e w10 ⟨rfl, hb⟩
  have HB10 := hid (HB9.out.trans (hb.mono HB9.out.size))
  have HT10 := hid (HT9.out.keep hb)
  clear hb K10 t0 t1 t2
  obtain ⟨t0, t1, t2⟩ := HT10.out.c3
  have K11 := hid (lfault_any b A c cs A2 c2 fs w10 (HH.out.at_ HB10.out))
  rw [HCE.out] at K11
  go_wp2_with fail
  refine K11.out.mono ?_
  rintro e w11 ⟨rfl, hb⟩
  have HB11 := hid (HB10.out.trans (hb.mono HB10.out.size))
  have HT11 := hid (HT10.out.keep hb)
  clear hb K11 t0 t1 t2
  obtain ⟨t0, t1, t2⟩ := HT11.out.c3
  have K12 := hid (ralike_any (.int .i64 b) A c cs A2 c2 fs A' c' l w11 (HH.out.at_ HB11.out) (HX.out.at_ HB11.out) (by omega))
  rw [HRA.out] at K12
  go_wp2_with fail
  refine K12.out.mono ?_
  rintro e w12 ⟨rfl, hb⟩
  have HB12 := hid (HB11.out.trans (hb.mono HB11.out.size))
  have HT12 := hid (HT11.out.keep hb)
  clear hb K12 t0 t1 t2
  obtain ⟨t0, t1, t2⟩ := HT12.out.c3
  clear t0 t1 t2
  go_wp2
  go_loopw [11, 12] (fun q i wr => i = .int .i64 0 ∧ q = .int .i64 2 ∧ wr = w12) (fun _ _ _ => 0)
  case atStart => exact ⟨rfl, rfl, rfl⟩
  case round =>
    obtain ⟨rfl, rfl, rfl⟩ := hrel
    by_cases h0 : 0 < l.length
    · have h0I : (0 : Int) < (l.length : Int) := by omega
      have K13 := hid (awake_any wr)
      go_wp2_with fail
      refine K13.out.mono ?_
      rintro e w13 ⟨rfl, hb⟩
      have HB13 := hid (HB12.out.trans (hb.mono HB12.out.size))
      clear hb K13
      skip
      go_wp2
      go_ret
      exact ⟨rfl, HB13.out⟩
    · have h0I : decide ((0 : Int) < (l.length : Int)) = false := decide_eq_false (by omega)
      have K13 := hid (awake_any wr)
      go_wp2_with fail
      refine K13.out.mono ?_
      rintro e w13 ⟨rfl, hb⟩
      have HB13 := hid (HB12.out.trans (hb.mono HB12.out.size))
      clear hb K13
      skip
      go_wp2
      go_ret
      exact ⟨rfl, HB13.out⟩

set_option maxRecDepth 100000 in
set_option maxHeartbeats 4000000 in
theorem changes_rest (b : Int) (A : Option Addr) (c : Nat) (cs : List (List Int)) (A2 : Option Addr) (c2 : Nat) (fs : List Fx) (A' : Option Addr) (c' : Nat) (l : List (List Int)) (ch : Int) (w : World) (h : TIn A c cs A2 c2 fs w)
    (hx : IsRows w w.heap.size A' l) (hl : l.length ≤ c') (hm : c' ≤ maxLen) (ht : thinB cs fs = true) (hs : shortB l = true) (hc : chkE b cs fs = 0) (hr : ralkB cs.length (colsOf cs) l = true) :
    Calls Try.prog 13 #[.agg #[.int .i64 b, .slice A cs.length c, .slice A2 fs.length c2], .slice A' l.length c', .int .i64 ch] w fun e w' => e = .returned (.bool true) ∧ Below w.heap.size w w' := by
  have hB := below_box (w := w) #[.int .i64 b, .slice A cs.length c, .slice A2 fs.length c2] 25
  have hT := Blk.new w 25 #[.int .i64 b, .slice A cs.length c, .slice A2 fs.length c2]
  have HB0 := hid hB
  have HT0 := hid hT
  have HH := hid h
  obtain ⟨t0, t1, t2⟩ := hT.c3
  clear h hB hT
  have HTH := hid ht
  have HSH := hid hs
  have HX := hid hx
  obtain ⟨⟨hn8, hcx⟩, hf13⟩ := thin_len ht
  obtain ⟨hl8, hlx⟩ := short_len hs
  have HCX := hid (fun (xs : List Int) hx => show xs.length ≤ 1000 by have := hcx xs hx; omega)
  have HLX := hid (fun (xs : List Int) hx => show xs.length ≤ 1000 by have := hlx xs hx; omega)
  clear ht hs hx hcx hlx
  have hal : alikeB cs.length (colsOf cs) l = okTo l l.length := by rw [alike_ralk, hr]; rfl
  obtain ⟨cn, en, hcn⟩ : ∃ cn en : Int, (if chkE b cs fs ≠ 0 then Value.tuple #[.int .i64 0, .int .i64 (chkE b cs fs)] else if alikeB cs.length (colsOf cs) l then .tuple #[.int .i64 (changeOf l cs), .int .i64 0] else .tuple #[.int .i64 0, .int .i64 2]) = .tuple #[.int .i64 cn, .int .i64 en] ∧ (okTo l l.length = false → cn = 0 ∧ en = 2) ∧ (okTo l l.length = true → cn = changeOf l cs ∧ en = 0) := by
    rw [hc, hal]
    cases okTo l l.length
    · exact ⟨0, 2, rfl, fun _ => ⟨rfl, rfl⟩, fun h => by cases h⟩
    · exact ⟨changeOf l cs, 0, rfl, fun h => (by cases h), fun _ => ⟨rfl, rfl⟩⟩
  obtain ⟨pb, hpb⟩ : ∃ pb, proveB b cs fs l ch = pb := ⟨_, rfl⟩
  have HCH := hid hcn.1
  have HPR := hid hpb
  have HCE := hid hc
  have HRA := hid hr
  have HCN := hid hcn.2
  have HALK := hid hal
  have HPN := hid (show okTo l l.length = false → pb = false from fun h => by rw [← hpb]; unfold proveB; rw [hal, h]; simp)
  clear hc hal hr hcn hpb
  go_enter Try.func13, Try.ntmps13
  have K1 := hid (thin_any (.int .i64 b) A c cs A2 c2 fs _ (HH.out.at_ HB0.out))
  rw [HTH.out] at K1
  go_wp2_with fail
  refine K1.out.mono ?_
  rintro e w1 ⟨rfl, hb⟩
  have HB1 := hid (HB0.out.trans (hb.mono HB0.out.size))
  have HT1 := hid (HT0.out.keep hb)
  clear hb K1 t0 t1 t2
  obtain ⟨t0, t1, t2⟩ := HT1.out.c3
  have K2 := hid (short_any A' c' l w1 (HX.out.at_ HB1.out) hl hm)
  rw [HSH.out] at K2
  go_wp2_with fail
  refine K2.out.mono ?_
  rintro e w2 ⟨rfl, hb⟩
  have HB2 := hid (HB1.out.trans (hb.mono HB1.out.size))
  have HT2 := hid (HT1.out.keep hb)
  clear hb K2 t0 t1 t2
  obtain ⟨t0, t1, t2⟩ := HT2.out.c3
  have K3 := hid (table_any b A c cs A2 c2 fs w2 (HH.out.at_ HB2.out) (by omega) HCX.out (by omega))
  go_wp2_with fail
  refine K3.out.mono ?_
  rintro e w3 ⟨P1, p1, Q1, q1, rfl, hti, hb⟩
  have HB3 := hid (HB2.out.trans (hb.mono HB2.out.size))
  have HT3 := hid (HT2.out.keep hb)
  have TI1 := hid hti
  clear hti
  clear hb K3 t0 t1 t2
  obtain ⟨t0, t1, t2⟩ := HT3.out.c3
  have K4 := hid (check_any b P1 p1 cs Q1 q1 fs w3 TI1.out.ic TI1.out.ix TI1.out.l1 TI1.out.m1 TI1.out.l2 TI1.out.m2 TI1.out.k)
  rw [HCE.out] at K4
  go_wp2_with fail
  refine K4.out.mono ?_
  rintro e w4 ⟨rfl, hb⟩
  have HB4 := hid (HB3.out.trans (hb.mono HB3.out.size))
  have HT4 := hid (HT3.out.keep hb)
  clear hb K4 t0 t1 t2
  obtain ⟨t0, t1, t2⟩ := HT4.out.c3
  have K5 := hid (table_any b A c cs A2 c2 fs w4 (HH.out.at_ HB4.out) (by omega) HCX.out (by omega))
  go_wp2_with fail
  refine K5.out.mono ?_
  rintro e w5 ⟨P2, p2, Q2, q2, rfl, hti, hb⟩
  have HB5 := hid (HB4.out.trans (hb.mono HB4.out.size))
  have HT5 := hid (HT4.out.keep hb)
  have TI2 := hid hti
  clear hti
  clear hb K5 t0 t1 t2
  obtain ⟨t0, t1, t2⟩ := HT5.out.c3
  have K6 := hid (rows_any A' c' l w5 (HX.out.at_ HB5.out) hl hm (by omega) HLX.out)
  go_wp2_with fail
  refine K6.out.mono ?_
  rintro e w6 ⟨E2, e2, rfl, hro, hb⟩
  have HB6 := hid (HB5.out.trans (hb.mono HB5.out.size))
  have HT6 := hid (HT5.out.keep hb)
  obtain ⟨E2', e2', hq, g1, g2, g3, g4, g5⟩ := hro.out
  injection hq with hq1 _ hq3
  subst hq1 hq3
  have RI2 := hid (And.intro g1 (And.intro g2 g3))
  have HBR2 := hid hb
  clear hro g1 g2 g3 g4 g5
  clear hb K6 t0 t1 t2
  obtain ⟨t0, t1, t2⟩ := HT6.out.c3
  have K7 := hid (echange_any b P2 p2 cs Q2 q2 fs E2 e2 l w6 (TI2.out.at_ HBR2.out) RI2.out.1 RI2.out.2.1 RI2.out.2.2)
  rw [HCH.out] at K7
  go_wp2_with fail
  refine K7.out.mono ?_
  rintro e w7 ⟨rfl, hb⟩
  have HB7 := hid (HB6.out.trans (hb.mono HB6.out.size))
  have HT7 := hid (HT6.out.keep hb)
  clear hb K7 t0 t1 t2
  obtain ⟨t0, t1, t2⟩ := HT7.out.c3
  have K8 := hid (table_any b A c cs A2 c2 fs w7 (HH.out.at_ HB7.out) (by omega) HCX.out (by omega))
  go_wp2_with fail
  refine K8.out.mono ?_
  rintro e w8 ⟨P3, p3, Q3, q3, rfl, hti, hb⟩
  have HB8 := hid (HB7.out.trans (hb.mono HB7.out.size))
  have HT8 := hid (HT7.out.keep hb)
  have TI3 := hid hti
  clear hti
  clear hb K8 t0 t1 t2
  obtain ⟨t0, t1, t2⟩ := HT8.out.c3
  have K9 := hid (rows_any A' c' l w8 (HX.out.at_ HB8.out) hl hm (by omega) HLX.out)
  go_wp2_with fail
  refine K9.out.mono ?_
  rintro e w9 ⟨E3, e3, rfl, hro, hb⟩
  have HB9 := hid (HB8.out.trans (hb.mono HB8.out.size))
  have HT9 := hid (HT8.out.keep hb)
  obtain ⟨E3', e3', hq, g1, g2, g3, g4, g5⟩ := hro.out
  injection hq with hq1 _ hq3
  subst hq1 hq3
  have RI3 := hid (And.intro g1 (And.intro g2 g3))
  have HBR3 := hid hb
  clear hro g1 g2 g3 g4 g5
  clear hb K9 t0 t1 t2
  obtain ⟨t0, t1, t2⟩ := HT9.out.c3
  have K10 := hid (prove_any b P3 p3 cs Q3 q3 fs E3 e3 l ch w9 (TI3.out.at_ HBR3.out) RI3.out.1 RI3.out.2.1 RI3.out.2.2)
  rw [HPR.out] at K10
  go_wp2_with fail
  refine K10.out.mono ?_
  rintro e w10 ⟨rfl, hb⟩
  have HB10 := hid (HB9.out.trans (hb.mono HB9.out.size))
  have HT10 := hid (HT9.out.keep hb)
  clear hb K10 t0 t1 t2
  obtain ⟨t0, t1, t2⟩ := HT10.out.c3
  have K11 := hid (lfault_any b A c cs A2 c2 fs w10 (HH.out.at_ HB10.out))
  rw [HCE.out] at K11
  go_wp2_with fail
  refine K11.out.mono ?_
  rintro e w11 ⟨rfl, hb⟩
  have HB11 := hid (HB10.out.trans (hb.mono HB10.out.size))
  have HT11 := hid (HT10.out.keep hb)
  clear hb K11 t0 t1 t2
  obtain ⟨t0, t1, t2⟩ := HT11.out.c3
  have K12 := hid (ralike_any (.int .i64 b) A c cs A2 c2 fs A' c' l w11 (HH.out.at_ HB11.out) (HX.out.at_ HB11.out) (by omega))
  rw [HRA.out] at K12
  go_wp2_with fail
  refine K12.out.mono ?_
  rintro e w12 ⟨rfl, hb⟩
  have HB12 := hid (HB11.out.trans (hb.mono HB11.out.size))
  have HT12 := hid (HT11.out.keep hb)
  clear hb K12 t0 t1 t2
  obtain ⟨t0, t1, t2⟩ := HT12.out.c3
  clear t0 t1 t2
  go_wp2
  go_loopw [11, 12] (fun q i wr => ∃ k : Nat, k ≤ l.length ∧ i = .int .i64 k ∧ q = .int .i64 (if okTo l k = true then 0 else 2) ∧ wr = w12) (fun _ i _ => l.length - (intOf i).toNat)
  case atStart => exact ⟨0, Nat.zero_le _, rfl, rfl, rfl⟩
  case round =>
    obtain ⟨k, hk, rfl, rfl, rfl⟩ := hrel
    cases hok : okTo l k
    · have HOK := hid hok
      clear hok
      simp only [Bool.false_eq_true, if_false]
      by_cases hlt : k < l.length
      · have hkI : (k : Int) < (l.length : Int) := by omega
        obtain ⟨hz1, hz2⟩ := HCN.out.1 (okTo_false HOK.out)
        have hz3 := HPN.out (okTo_false HOK.out)
        subst hz1 hz2 hz3
        have K13 := hid (awake_any wr)
        go_wp2_with fail
        refine K13.out.mono ?_
        rintro e w13 ⟨rfl, hb⟩
        have HB13 := hid (HB12.out.trans (hb.mono HB12.out.size))
        clear hb K13
        skip
        go_wp2
        go_ret
        exact ⟨rfl, HB13.out⟩
      · have hkI : decide ((k : Int) < (l.length : Int)) = false := by simp; omega
        obtain ⟨hz1, hz2⟩ := HCN.out.1 (okTo_false HOK.out)
        have hz3 := HPN.out (okTo_false HOK.out)
        subst hz1 hz2 hz3
        have K13 := hid (awake_any wr)
        go_wp2_with fail
        refine K13.out.mono ?_
        rintro e w13 ⟨rfl, hb⟩
        have HB13 := hid (HB12.out.trans (hb.mono HB12.out.size))
        clear hb K13
        skip
        go_wp2
        go_ret
        exact ⟨rfl, HB13.out⟩
    · have HOK := hid hok
      clear hok
      simp only [if_true]
      by_cases hlt : k < l.length
      · have hkI : (k : Int) < (l.length : Int) := by omega
        obtain ⟨xs, hxs⟩ : ∃ xs, l[k]? = some xs := ⟨_, List.getElem?_eq_getElem hlt⟩
        obtain ⟨a', A1', c1', rfl, q1', q2', q3', q4', q5'⟩ := (HX.out.at_ HB12.out) k xs hxs
        have HS := hid (okTo_succ hxs)
        have HQ5 := hid q5'
        unfold maxLen at q4'
        clear hxs q5'
        go_wp2
        go_loopw [11, 13] (fun q i W => ∃ j : Nat, j ≤ xs.length ∧ i = .int .i64 j ∧ q = .int .i64 (if okIn xs j = true then 0 else 2) ∧ W = wr) (fun _ i _ => xs.length - (intOf i).toNat)
        case atStart => exact ⟨0, Nat.zero_le _, rfl, rfl, rfl⟩
        case round =>
          obtain ⟨j, hj, rfl, rfl, rfl⟩ := hrel
          generalize hz : (if okIn xs j = true then (0 : Int) else 2) = z
          have HZ := hid hz
          clear hz
          by_cases hlj : j < xs.length
          · have hjI : (j : Int) < (xs.length : Int) := by omega
            obtain ⟨x, hx⟩ : ∃ x, xs[j]? = some x := ⟨_, List.getElem?_eq_getElem hlj⟩
            obtain ⟨ax, rfl, u1, u2⟩ := HQ5.out j x hx
            have HS2 := hid (okIn_succ hx)
            have KI := hid (fun W => in_any x 0 10100 W)
            clear hx
            cases hin : withinB x 0 10100
            all_goals
              have HIN := hid hin
              rw [hin] at KI
              clear hin
              go_wp2_with fail
              refine (KI.out _).mono ?_
              rintro e w20 ⟨rfl, rfl⟩
              go_wp2
              go_roundw
            case rel => exact ⟨j + 1, by omega, by go_num, by first | (rw [← HZ.out, HS2.out, HIN.out]; simp; done) | (rw [HS2.out, HIN.out]; simp; done), by first | rfl | trivial⟩
            case measure => first | (simp [intOf]; done) | (simp [intOf]; omega)
            case rel => exact ⟨j + 1, by omega, by go_num, by first | (rw [← HZ.out, HS2.out, HIN.out]; simp; done) | (rw [HS2.out, HIN.out]; simp; done), by first | rfl | trivial⟩
            case measure => first | (simp [intOf]; done) | (simp [intOf]; omega)
          · have hjI : decide ((j : Int) < (xs.length : Int)) = false := by simp; omega
            obtain rfl : j = xs.length := by omega
            have HIE := hid (show okTo l (k + 1) = okIn xs xs.length by rw [HS.out, HOK.out]; unfold okIn okRow; rw [List.take_length]; simp)
            go_wp2
            go_roundw
            case rel => exact ⟨k + 1, by omega, by go_num, by rw [HIE.out, HZ.out], by first | rfl | trivial⟩
            case measure => first | (simp [intOf]; done) | (simp [intOf]; omega)
      · have hkI : decide ((k : Int) < (l.length : Int)) = false := by simp; omega
        obtain rfl : k = l.length := by omega
        obtain ⟨hz1, hz2⟩ := HCN.out.2 HOK.out
        subst hz1 hz2
        have HAL := hid (show alikeB cs.length (colsOf cs) l = true by rw [HALK.out, HOK.out])
        have hal := alike_rows HAL.out
        have hln := hal.1
        have ok := chk_ok HCE.out
        have hr4 : ∀ r ∈ l, r.length ≤ 4 := fun r hr => by have := (hal.2 r hr).1; have := ok.okc.c2; omega
        have KC := hid (rchange_any (.int .i64 b) A c cs A2 c2 fs A' c' l wr (HH.out.at_ HB12.out) (HX.out.at_ HB12.out) hl8 hln hr4 (fun k => by
            by_cases hk : k < cs.length
            · have e1 : l[k]? = some (l[k]'(by omega)) := List.getElem?_eq_getElem _
              have e2 : cs[k]? = some cs[k] := List.getElem?_eq_getElem hk
              rw [List.getD, e1, List.getD, e2]
              have := (hal.2 _ (List.mem_of_getElem? e1)).1
              have := ok.okc.row _ (List.mem_of_getElem? e2)
              simp only [Option.getD_some]; omega
            · rw [List.getD, List.getElem?_eq_none (by omega), List.getD, List.getElem?_eq_none (by omega)])
            (fun r hr x hx => (hal.2 r hr).2 x hx) (fun r hr x hx => by have := ok.okc.cell r hr x hx; omega))
        obtain ⟨ib, hib⟩ : ∃ ib, isrB b cs fs l = ib := ⟨_, rfl⟩
        have KI := hid (show ∀ W, Below w.heap.size w W → _ from fun W hW => isr_any b A c cs A2 c2 fs A' c' l W (HH.out.at_ hW) (HX.out.at_ hW) HCE.out HAL.out)
        rw [hib] at KI
        have HPB := hid (show pb = (ib && decide (changeOf l cs ≤ ch)) by
          rw [← HPR.out, ← hib, Bool.eq_iff_iff, prove_iff HCE.out HAL.out, Bool.and_eq_true, isr_iff HCE.out HAL.out]
          simp)
        generalize changeOf l cs = due at *
        obtain ⟨t0, t1, t2⟩ := HT12.out.c3
        clear hal hln ok hr4 hib
        have HPB' := HPB.out
        subst HPB'
        clear HPB
        go_wp2_with fail
        refine KC.out.mono ?_
        rintro e w21 ⟨rfl, hb⟩
        have HB21 := hid (HB12.out.trans (hb.mono HB12.out.size))
        have HT21 := hid (HT12.out.keep hb)
        clear t0 t1 t2 hb KC
        obtain ⟨t0, t1, t2⟩ := HT21.out.c3
        cases ib
        all_goals
          go_wp2_with fail
          refine (KI.out _ HB21.out).mono ?_
          rintro e w22 ⟨rfl, hb⟩
          have HB22 := hid (HB21.out.trans (hb.mono HB21.out.size))
          clear t0 t1 t2 hb KI
          go_wp2_with fail
          all_goals
            refine (awake_any _).mono ?_
            rintro e w23 ⟨rfl, hb⟩
            have HB23 := hid (HB22.out.trans (hb.mono HB22.out.size))
            clear hb
            go_wp2
            go_ret
            exact ⟨rfl, HB23.out⟩

theorem changes_any (b : Int) (A : Option Addr) (c : Nat) (cs : List (List Int)) (A2 : Option Addr) (c2 : Nat) (fs : List Fx) (A' : Option Addr) (c' : Nat) (l : List (List Int)) (ch : Int) (w : World) (h : TIn A c cs A2 c2 fs w)
    (hx : IsRows w w.heap.size A' l) (hl : l.length ≤ c') (hm : c' ≤ maxLen) :
    Calls Try.prog 13 #[.agg #[.int .i64 b, .slice A cs.length c, .slice A2 fs.length c2], .slice A' l.length c', .int .i64 ch] w fun e w' => e = .returned (.bool true) ∧ Below w.heap.size w w' := by
  cases ht : thinB cs fs
  · exact changes_thin b A c cs A2 c2 fs A' c' l ch w h hx hl hm ht
  cases hs : shortB l
  · exact changes_wide b A c cs A2 c2 fs A' c' l ch w h hx hl hm ht hs
  by_cases hc : chkE b cs fs = 0
  · cases hr : ralkB cs.length (colsOf cs) l
    · exact changes_unlike b A c cs A2 c2 fs A' c' l ch w h hx hl hm ht hs hc hr
    · exact changes_rest b A c cs A2 c2 fs A' c' l ch w h hx hl hm ht hs hc hr
  · exact changes_bad b A c cs A2 c2 fs A' c' l ch w h hx hl hm ht hs hc
open Go.ChangeShapes Go.WideShapes Go.ChangeAt in
set_option maxRecDepth 100000 in
theorem open_rows {H : Type} {enc : TypeId × Value → H} {W : World} {r : Reach} {b0 : Nat} {v : Value} {d : DataW H} {ps : List MemPlace} (hval : Value.okWide Try.prog W r b0 22 v) (hd : DataW.Trod enc Try.prog W 0 (fun _ => true) true 22 v d ps) :
    ∃ A c cs, v = .slice A (cs : List (List Int)).length c ∧ IsRows W W.heap.size A cs ∧ cs.length ≤ c ∧ c ≤ maxLen := by
  obtain ⟨fuel, h⟩ := hd
  obtain ⟨a0, n0, c0, rfl⟩ := okWide_slice Try.underlying22 hval
  obtain ⟨A, c, cs, e, h1, h2, h3, _⟩ := trod_rows h
  exact ⟨A, c, cs, e, h1, h2, h3⟩

open Go.ChangeShapes Go.WideShapes Go.ChangeAt in
set_option maxRecDepth 100000 in
theorem changes_lifted (os : Os) (started : os.Started) (H : Type) (enc : TypeId × Value → H) :
    ReturnsInHanded {} Try.checked os 13 .any (Rows.roundChangesSpec.pre6 enc Try.prog Try.f13 Rows.roundChangesRow.domain false) (Rows.roundChangesSpec.post enc Try.prog Try.f13 false true false false) := by
  refine returnsInHanded_of_change (C := Try.checked) own started (by kernel_rfl) Try.func13
    (ChangeSpec.witness6 (enc := enc) (C := Try.checked) false ⟨#[], #[.agg #[.int .i64 0, .slice none 0 0, .slice none 0 0], .slice none 0 0, .int .i64 0], []⟩ 8 (by kernel_rfl) (by kernel_rfl) (by kernel_rfl) (by kernel_rfl)) ?_
  intro W base args ds gs before hval0 hW hcnd _
  have hval : ∀ (j : Nat) t v, Try.f13.params[j]? = some t → args[j]? = some v → Value.okWide Try.prog W .any base t v := hval0
  have hW' := hW
  obtain ⟨p, q, hA0, hV, rfl, hfz, hnd⟩ := hW
  have hA : DataW.TrodAll enc Try.prog W 0 (fun _ => true) true Try.f13.params.toList args.toList ds p := hA0
  rw [Try.params13] at hA hval
  obtain ⟨v0, vs0, d0, ds0, p0, q0, hargs, rfl, rfl, h0, r0⟩ := trodAll_cons hA
  obtain ⟨v1, vs1, d1, ds1, p1, q1, rfl, rfl, rfl, h1, r1⟩ := trodAll_cons r0
  obtain ⟨v2, vs2, d2, ds2, p2, q2, rfl, rfl, rfl, h2, r2⟩ := trodAll_cons r1
  obtain ⟨rfl, rfl, rfl⟩ := trodAll_nil r2
  obtain rfl : args = #[v0, v1, v2] := by cases args; simp_all
  obtain ⟨rfl, rfl⟩ := trodVars_none hV
  obtain ⟨b0, A, c, cs, A2, c2, fs, rfl, ht⟩ := open_table (hval 0 25 v0 rfl rfl) h0
  obtain ⟨A', c', l, rfl, hl1, hl2, hl3⟩ := open_rows (hval 1 22 v1 rfl rfl) h1
  obtain ⟨ch, rfl, rfl, rfl, w1⟩ := open_int Try.underlying3 (hval 2 3 v2 rfl rfl) h2
  refine (changes_any b0 A c cs A2 c2 fs A' c' l ch W ht hl1 hl2 hl3).mono fun e W' ⟨he, hb⟩ => ⟨_, he, ?_⟩
  exact law_post laid_out rfl rfl (by kernel_rfl) hW' rfl hb

theorem changes_over : Rows.roundChangesRow.holds Try.pinned (OpenSpec.ofChange Rows.roundChangesSpec) :=
  OpenClaim.holds_of_wide 13 Try.f13 rfl rfl rfl rfl rfl rfl rfl ⟨rfl, rfl, rfl, rfl, rfl⟩ rfl rfl rfl rfl rfl (by kernel_rfl) Try.func13 (by kernel_rfl)
    (of_decide_eq_true (by kernel_rfl)) (by unfold Func.isWrapper; first | (rw [if_pos (by decide +kernel)]; kernel_rfl) | (rw [if_neg (by decide +kernel)]; exact ⟨rfl, rfl⟩))
    (fun os started H enc _ => changes_lifted os started H enc)
/-- the statement -/
theorem round_changes : Rows.RoundChangesSaid := changes_over
#print axioms round_changes
end Go.Proofs.Ytgoianldiomdoaa
