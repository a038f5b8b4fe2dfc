/- For every table and every number, no rounding of neighbours by bits is better than the best one: the statement RoundLeast. No condition. -/
import Derived.Test.YtgoianldiomdoaaG11
namespace Go.Proofs.Ytgoianldiomdoaa
open Go.RowKit Go.Shelf

set_option maxRecDepth 100000 in
set_option maxHeartbeats 600000 in
theorem least_not (b : Int) (A : Option Addr) (c : Nat) (cs : List (List Int)) (A2 : Option Addr) (c2 : Nat) (fs : List Fx) (q : Int) (w : World) (h : TIn A c cs A2 c2 fs w) (hr : readyB b cs fs = false) :
    Calls Try.prog 14 #[.agg #[.int .i64 b, .slice A cs.length c, .slice A2 fs.length c2], .int .u32 q] w fun e w' => e = .returned (.bool true) ∧ Below w.heap.size w w' := by
  have hB := below_box (w := w) #[.int .i64 b, .slice A cs.length c, .slice A2 fs.length c2] 25
  have hT := Blk.new w 25 #[.int .i64 b, .slice A cs.length c, .slice A2 fs.length c2]
  have HB0 := hid hB
  have HT0 := hid hT
  have HH := hid h
  obtain ⟨t0, t1, t2⟩ := hT.c3
  clear h hB hT
  have HRD := hid hr
  clear hr
  go_enter Try.func14, Try.ntmps14
  have K1 := hid (ready_any b A c cs A2 c2 fs _ (HH.out.at_ HB0.out))
  rw [HRD.out] at K1
  go_wp2_with fail
  refine K1.out.mono ?_
  rintro e w1 ⟨rfl, hb⟩
  have HB1 := hid (HB0.out.trans (hb.mono HB0.out.size))
  have HT1 := hid (HT0.out.keep hb)
  clear hb K1 t0 t1 t2
  obtain ⟨t0, t1, t2⟩ := HT1.out.c3
  have K2 := hid (awake_any w1)
  go_wp2_with fail
  refine K2.out.mono ?_
  rintro e w2 ⟨rfl, hb⟩
  have HB2 := hid (HB1.out.trans (hb.mono HB1.out.size))
  have HT2 := hid (HT1.out.keep hb)
  clear hb K2 t0 t1 t2
  obtain ⟨t0, t1, t2⟩ := HT2.out.c3
  clear t0 t1 t2
  go_wp2
  go_ret
  exact ⟨rfl, HB2.out⟩

set_option maxRecDepth 100000 in
set_option maxHeartbeats 600000 in
theorem least_none (b : Int) (A : Option Addr) (c : Nat) (cs : List (List Int)) (A2 : Option Addr) (c2 : Nat) (fs : List Fx) (q : Int) (w : World) (h : TIn A c cs A2 c2 fs w) (hq0 : 0 ≤ q) (hq1 : q ≤ 4294967295) (hr : readyB b cs fs = true) (hw : (spec b cs fs cs.length zeroS).ways = 0) :
    Calls Try.prog 14 #[.agg #[.int .i64 b, .slice A cs.length c, .slice A2 fs.length c2], .int .u32 q] w fun e w' => e = .returned (.bool true) ∧ Below w.heap.size w w' := by
  have hB := below_box (w := w) #[.int .i64 b, .slice A cs.length c, .slice A2 fs.length c2] 25
  have hT := Blk.new w 25 #[.int .i64 b, .slice A cs.length c, .slice A2 fs.length c2]
  have HB0 := hid hB
  have HT0 := hid hT
  have HH := hid h
  obtain ⟨t0, t1, t2⟩ := hT.c3
  clear h hB hT
  have HRD := hid hr
  have HCK := hid (ready_chk hr)
  have OK := hid (chk_ok (ready_chk hr))
  have hn5 := OK.out.okc.n2
  have hc4 := OK.out.okc.c2
  have hf100 := OK.out.n
  have hb1 := OK.out.okc.b1
  have HCX := hid (fun (xs : List Int) (hx : xs ∈ cs) => show xs.length ≤ 1000 by have := OK.out.okc.row xs hx; omega)
  clear hr
  obtain ⟨T, hTT⟩ : ∃ T, T = (nthT b cs q).1 := ⟨_, rfl⟩
  have HTL := hid (show T.length = cs.length by rw [hTT, nthT_len])
  have HTR := hid (show ∀ xs ∈ T, xs.length = colsOf cs by rw [hTT]; exact nthT_rows OK.out.okc.row)
  have HTX := hid (fun (xs : List Int) (hx : xs ∈ T) => show xs.length ≤ 1000 by have := HTR.out xs hx; omega)
  have HTT := hid hTT
  clear hTT
  have HPR := hid (show proveB b cs fs T 1000000 = false by
    cases hp : proveB b cs fs T 1000000
    · rfl
    · have ha : alikeB cs.length (colsOf cs) T = true := by
        unfold proveB at hp
        simp only [Bool.and_eq_true] at hp
        exact hp.2.1
      exact absurd ((prove_iff HCK.out ha).1 hp).1 (none_plain hw))
  have HWS := hid hw
  clear hw
  go_enter Try.func14, Try.ntmps14
  have K1 := hid (ready_any b A c cs A2 c2 fs _ (HH.out.at_ HB0.out))
  rw [HRD.out] at K1
  go_wp2_with fail
  refine K1.out.mono ?_
  rintro e w1 ⟨rfl, hb⟩
  have HB1 := hid (HB0.out.trans (hb.mono HB0.out.size))
  have HT1 := hid (HT0.out.keep hb)
  clear hb K1 t0 t1 t2
  obtain ⟨t0, t1, t2⟩ := HT1.out.c3
  have K2 := hid (table_any b A c cs A2 c2 fs w1 (HH.out.at_ HB1.out) (by omega) HCX.out (by omega))
  go_wp2_with fail
  refine K2.out.mono ?_
  rintro e w2 ⟨P1, p1, Q1, q1, rfl, hti, hb⟩
  have HB2 := hid (HB1.out.trans (hb.mono HB1.out.size))
  have HT2 := hid (HT1.out.keep hb)
  have TI1 := hid hti
  clear hti
  clear hb K2 t0 t1 t2
  obtain ⟨t0, t1, t2⟩ := HT2.out.c3
  have KB := hid (best_any b P1 p1 cs Q1 q1 fs w2 TI1.out)
  simp only [HCK.out, HWS.out, ne_eq, not_true_eq_false, if_false, if_true] at KB
  have K3 := hid (KB.out)
  go_wp2_with fail
  refine K3.out.mono ?_
  rintro e w3 ⟨rfl, hb⟩
  have HB3 := hid (HB2.out.trans (hb.mono HB2.out.size))
  have HT3 := hid (HT2.out.keep hb)
  clear hb K3 t0 t1 t2
  obtain ⟨t0, t1, t2⟩ := HT3.out.c3
  have K4 := hid (tried_any b A c cs A2 c2 fs q w3 (HH.out.at_ HB3.out) OK.out.okc hq0 hq1)
  go_wp2_with fail
  refine K4.out.mono ?_
  rintro e w4 ⟨go, rfl, hgi, hb⟩
  have HB4 := hid (HB3.out.trans (hb.mono HB3.out.size))
  have HT4 := hid (HT3.out.keep hb)
  rw [← HTT.out] at hgi
  have HGI := hid hgi
  clear hgi
  clear hb K4 t0 t1 t2
  obtain ⟨t0, t1, t2⟩ := HT4.out.c3
  have G0 := hid (Below.refl w4.heap.size w4)
  have K5 := hid (table_any b A c cs A2 c2 fs w4 (HH.out.at_ HB4.out) (by omega) HCX.out (by omega))
  go_wp2_with fail
  refine K5.out.mono ?_
  rintro e w5 ⟨P2, p2, Q2, q2, rfl, hti, hb⟩
  have HB5 := hid (HB4.out.trans (hb.mono HB4.out.size))
  have HT5 := hid (HT4.out.keep hb)
  have G5 := hid (G0.out.trans (hb.mono G0.out.size))
  have TI2 := hid hti
  clear hti
  clear hb K5 t0 t1 t2
  obtain ⟨t0, t1, t2⟩ := HT5.out.c3
  have K6 := hid (rows_any (some ⟨go, 0, none⟩) cs.length T w5 (HGI.out.at_ G5.out) (by rw [HTL.out]; exact Nat.le_refl _) (by unfold maxLen; omega) (by rw [HTL.out]; omega) HTX.out)
  rw [HTL.out] at K6
  go_wp2_with fail
  refine K6.out.mono ?_
  rintro e w6 ⟨E2, e2, rfl, hro, hb⟩
  have HB6 := hid (HB5.out.trans (hb.mono HB5.out.size))
  have HT6 := hid (HT5.out.keep hb)
  have G6 := hid (G5.out.trans (hb.mono G5.out.size))
  obtain ⟨E2', e2', hq, g1, g2, g3, g4, g5⟩ := hro.out
  injection hq with hq1 _ hq3
  subst hq1 hq3
  have RI2 := hid (And.intro g1 (And.intro g2 g3))
  have HBR2 := hid hb
  clear hro g1 g2 g3 g4 g5
  clear hb K6 t0 t1 t2
  obtain ⟨t0, t1, t2⟩ := HT6.out.c3
  have K7 := hid (prove_any b P2 p2 cs Q2 q2 fs E2 e2 T 1000000 w6 (TI2.out.at_ HBR2.out) RI2.out.1 RI2.out.2.1 RI2.out.2.2)
  rw [HPR.out] at K7
  go_wp2_with fail
  refine K7.out.mono ?_
  rintro e w7 ⟨rfl, hb⟩
  have HB7 := hid (HB6.out.trans (hb.mono HB6.out.size))
  have HT7 := hid (HT6.out.keep hb)
  have G7 := hid (G6.out.trans (hb.mono G6.out.size))
  clear hb K7 t0 t1 t2
  obtain ⟨t0, t1, t2⟩ := HT7.out.c3
  have K8 := hid (awake_any w7)
  go_wp2_with fail
  refine K8.out.mono ?_
  rintro e w8 ⟨rfl, hb⟩
  have HB8 := hid (HB7.out.trans (hb.mono HB7.out.size))
  have HT8 := hid (HT7.out.keep hb)
  have G8 := hid (G7.out.trans (hb.mono G7.out.size))
  clear hb K8 t0 t1 t2
  obtain ⟨t0, t1, t2⟩ := HT8.out.c3
  clear t0 t1 t2
  go_wp2
  go_ret
  exact ⟨rfl, HB8.out⟩

set_option maxRecDepth 100000 in
set_option maxHeartbeats 600000 in
theorem least_some (b : Int) (A : Option Addr) (c : Nat) (cs : List (List Int)) (A2 : Option Addr) (c2 : Nat) (fs : List Fx) (q : Int) (w : World) (h : TIn A c cs A2 c2 fs w) (hq0 : 0 ≤ q) (hq1 : q ≤ 4294967295) (hr : readyB b cs fs = true) (hw : ¬ (spec b cs fs cs.length zeroS).ways = 0) :
    Calls Try.prog 14 #[.agg #[.int .i64 b, .slice A cs.length c, .slice A2 fs.length c2], .int .u32 q] w fun e w' => e = .returned (.bool true) ∧ Below w.heap.size w w' := by
  have hB := below_box (w := w) #[.int .i64 b, .slice A cs.length c, .slice A2 fs.length c2] 25
  have hT := Blk.new w 25 #[.int .i64 b, .slice A cs.length c, .slice A2 fs.length c2]
  have HB0 := hid hB
  have HT0 := hid hT
  have HH := hid h
  obtain ⟨t0, t1, t2⟩ := hT.c3
  clear h hB hT
  have HRD := hid hr
  have HCK := hid (ready_chk hr)
  have OK := hid (chk_ok (ready_chk hr))
  have hn5 := OK.out.okc.n2
  have hc4 := OK.out.okc.c2
  have hf100 := OK.out.n
  have hb1 := OK.out.okc.b1
  have HCX := hid (fun (xs : List Int) (hx : xs ∈ cs) => show xs.length ≤ 1000 by have := OK.out.okc.row xs hx; omega)
  clear hr
  obtain ⟨T, hTT⟩ : ∃ T, T = (nthT b cs q).1 := ⟨_, rfl⟩
  have HTL := hid (show T.length = cs.length by rw [hTT, nthT_len])
  have HTR := hid (show ∀ xs ∈ T, xs.length = colsOf cs by rw [hTT]; exact nthT_rows OK.out.okc.row)
  have HTX := hid (fun (xs : List Int) (hx : xs ∈ T) => show xs.length ≤ 1000 by have := HTR.out xs hx; omega)
  have HTT := hid hTT
  clear hTT
  obtain ⟨pb, hpb⟩ : ∃ pb, proveB b cs fs T 1000000 = pb := ⟨_, rfl⟩
  have HPR := hid hpb
  have HWS := hid hw
  clear hw
  go_enter Try.func14, Try.ntmps14
  have K1 := hid (ready_any b A c cs A2 c2 fs _ (HH.out.at_ HB0.out))
  rw [HRD.out] at K1
  go_wp2_with fail
  refine K1.out.mono ?_
  rintro e w1 ⟨rfl, hb⟩
  have HB1 := hid (HB0.out.trans (hb.mono HB0.out.size))
  have HT1 := hid (HT0.out.keep hb)
  clear hb K1 t0 t1 t2
  obtain ⟨t0, t1, t2⟩ := HT1.out.c3
  have K2 := hid (table_any b A c cs A2 c2 fs w1 (HH.out.at_ HB1.out) (by omega) HCX.out (by omega))
  go_wp2_with fail
  refine K2.out.mono ?_
  rintro e w2 ⟨P1, p1, Q1, q1, rfl, hti, hb⟩
  have HB2 := hid (HB1.out.trans (hb.mono HB1.out.size))
  have HT2 := hid (HT1.out.keep hb)
  have TI1 := hid hti
  clear hti
  clear hb K2 t0 t1 t2
  obtain ⟨t0, t1, t2⟩ := HT2.out.c3
  have KB := hid (best_any b P1 p1 cs Q1 q1 fs w2 TI1.out)
  simp only [HCK.out, ne_eq, not_true_eq_false, if_false] at KB
  simp only [if_neg HWS.out] at KB
  go_wp2_with fail
  refine KB.out.mono ?_
  rintro e wb ⟨A5, c5, rfl, g1, g2, g3, g4, g5, hb⟩
  have HB3 := hid (HB2.out.trans (hb.mono HB2.out.size))
  have HT3 := hid (HT2.out.keep hb)
  have HGL := hid (And.intro g1 (And.intro g2 g3))
  clear hb t0 t1 t2 KB g1 g2 g3 g4 g5
  obtain ⟨t0, t1, t2⟩ := HT3.out.c3
  have B0 := hid (Below.refl wb.heap.size wb)
  generalize hchg : (spec b cs fs cs.length zeroS).change = chg
  have HCHG := hid hchg
  clear hchg
  have K4 := hid (tried_any b A c cs A2 c2 fs q wb (HH.out.at_ HB3.out) OK.out.okc hq0 hq1)
  go_wp2_with fail
  refine K4.out.mono ?_
  rintro e w4 ⟨go, rfl, hgi, hb⟩
  have HB4 := hid (HB3.out.trans (hb.mono HB3.out.size))
  have HT4 := hid (HT3.out.keep hb)
  have B4 := hid (B0.out.trans (hb.mono B0.out.size))
  rw [← HTT.out] at hgi
  have HGI := hid hgi
  clear hgi
  clear hb K4 t0 t1 t2
  obtain ⟨t0, t1, t2⟩ := HT4.out.c3
  have G0 := hid (Below.refl w4.heap.size w4)
  have K5 := hid (table_any b A c cs A2 c2 fs w4 (HH.out.at_ HB4.out) (by omega) HCX.out (by omega))
  go_wp2_with fail
  refine K5.out.mono ?_
  rintro e w5 ⟨P2, p2, Q2, q2, rfl, hti, hb⟩
  have HB5 := hid (HB4.out.trans (hb.mono HB4.out.size))
  have HT5 := hid (HT4.out.keep hb)
  have B5 := hid (B4.out.trans (hb.mono B4.out.size))
  have G5 := hid (G0.out.trans (hb.mono G0.out.size))
  have TI2 := hid hti
  clear hti
  clear hb K5 t0 t1 t2
  obtain ⟨t0, t1, t2⟩ := HT5.out.c3
  have K6 := hid (rows_any (some ⟨go, 0, none⟩) cs.length T w5 (HGI.out.at_ G5.out) (by rw [HTL.out]; exact Nat.le_refl _) (by unfold maxLen; omega) (by rw [HTL.out]; omega) HTX.out)
  rw [HTL.out] at K6
  go_wp2_with fail
  refine K6.out.mono ?_
  rintro e w6 ⟨E2, e2, rfl, hro, hb⟩
  have HB6 := hid (HB5.out.trans (hb.mono HB5.out.size))
  have HT6 := hid (HT5.out.keep hb)
  have B6 := hid (B5.out.trans (hb.mono B5.out.size))
  have G6 := hid (G5.out.trans (hb.mono G5.out.size))
  obtain ⟨E2', e2', hq, g1, g2, g3, g4, g5⟩ := hro.out
  injection hq with hq1 _ hq3
  subst hq1 hq3
  have RI2 := hid (And.intro g1 (And.intro g2 g3))
  have HBR2 := hid hb
  clear hro g1 g2 g3 g4 g5
  clear hb K6 t0 t1 t2
  obtain ⟨t0, t1, t2⟩ := HT6.out.c3
  have K7 := hid (prove_any b P2 p2 cs Q2 q2 fs E2 e2 T 1000000 w6 (TI2.out.at_ HBR2.out) RI2.out.1 RI2.out.2.1 RI2.out.2.2)
  rw [HPR.out] at K7
  go_wp2_with fail
  refine K7.out.mono ?_
  rintro e w7 ⟨rfl, hb⟩
  have HB7 := hid (HB6.out.trans (hb.mono HB6.out.size))
  have HT7 := hid (HT6.out.keep hb)
  have B7 := hid (B6.out.trans (hb.mono B6.out.size))
  have G7 := hid (G6.out.trans (hb.mono G6.out.size))
  clear hb K7 t0 t1 t2
  obtain ⟨t0, t1, t2⟩ := HT7.out.c3
  cases pb
  · have K8 := hid (awake_any w7)
    go_wp2_with fail
    refine K8.out.mono ?_
    rintro e w8 ⟨rfl, hb⟩
    have HB8 := hid (HB7.out.trans (hb.mono HB7.out.size))
    have HT8 := hid (HT7.out.keep hb)
    have B8 := hid (B7.out.trans (hb.mono B7.out.size))
    have G8 := hid (G7.out.trans (hb.mono G7.out.size))
    clear hb K8 t0 t1 t2
    obtain ⟨t0, t1, t2⟩ := HT8.out.c3
    clear t0 t1 t2
    go_wp2
    go_ret
    exact ⟨rfl, HB8.out⟩
  · have hal : alikeB cs.length (colsOf cs) T = true := by
      have hp := HPR.out
      unfold proveB at hp
      simp only [Bool.and_eq_true] at hp
      exact hp.2.1
    have hR := ((prove_iff HCK.out hal).1 HPR.out).1
    obtain ⟨hle, heq⟩ := least_plain hb1 HWS.out hR
    rw [HCHG.out] at hle heq
    have HAL := hid hal
    have HEQ := hid heq
    have hbR := best_isR HWS.out
    have HBL := hid (bestOf_len (b := b) (cs := cs) (fs := fs) cs.length zeroS)
    have hba := hbR.alike OK.out
    have HBA := hid (alike_rows hba)
    have HBK := hid (show ralkB cs.length (colsOf cs) (bestOf b cs fs cs.length zeroS) = true from ralk_of hba)
    clear hal hR heq hbR hba
    generalize hbs : bestOf b cs fs cs.length zeroS = bs at *
    have HBS := hid hbs
    clear hbs
    have K8 := hid (table_any b A c cs A2 c2 fs w7 (HH.out.at_ HB7.out) (by omega) HCX.out (by omega))
    go_wp2_with fail
    refine K8.out.mono ?_
    rintro e w8 ⟨P3, p3, Q3, q3, rfl, hti, hb⟩
    have HB8 := hid (HB7.out.trans (hb.mono HB7.out.size))
    have HT8 := hid (HT7.out.keep hb)
    have B8 := hid (B7.out.trans (hb.mono B7.out.size))
    have G8 := hid (G7.out.trans (hb.mono G7.out.size))
    have TI3 := hid hti
    clear hti
    clear hb K8 t0 t1 t2
    obtain ⟨t0, t1, t2⟩ := HT8.out.c3
    have K9 := hid (rows_any (some ⟨go, 0, none⟩) cs.length T w8 (HGI.out.at_ G8.out) (by rw [HTL.out]; exact Nat.le_refl _) (by unfold maxLen; omega) (by rw [HTL.out]; omega) HTX.out)
    rw [HTL.out] at K9
    go_wp2_with fail
    refine K9.out.mono ?_
    rintro e w9 ⟨E3, e3, rfl, hro, hb⟩
    have HB9 := hid (HB8.out.trans (hb.mono HB8.out.size))
    have HT9 := hid (HT8.out.keep hb)
    have B9 := hid (B8.out.trans (hb.mono B8.out.size))
    have G9 := hid (G8.out.trans (hb.mono G8.out.size))
    obtain ⟨E3', e3', hq, g1, g2, g3, g4, g5⟩ := hro.out
    injection hq with hq1 _ hq3
    subst hq1 hq3
    have RI3 := hid (And.intro g1 (And.intro g2 g3))
    have HBR3 := hid hb
    clear hro g1 g2 g3 g4 g5
    clear hb K9 t0 t1 t2
    obtain ⟨t0, t1, t2⟩ := HT9.out.c3
    have HCH := hid (show (if chkE b cs fs ≠ 0 then Value.tuple #[.int .i64 0, .int .i64 (chkE b cs fs)] else if alikeB cs.length (colsOf cs) T then .tuple #[.int .i64 (changeOf T cs), .int .i64 0] else .tuple #[.int .i64 0, .int .i64 2]) = .tuple #[.int .i64 (changeOf T cs), .int .i64 0] by rw [HCK.out, HAL.out]; rfl)
    have K10 := hid (echange_any b P3 p3 cs Q3 q3 fs E3 e3 T w9 (TI3.out.at_ HBR3.out) RI3.out.1 RI3.out.2.1 RI3.out.2.2)
    rw [HCH.out] at K10
    go_wp2_with fail
    refine K10.out.mono ?_
    rintro e w10 ⟨rfl, hb⟩
    have HB10 := hid (HB9.out.trans (hb.mono HB9.out.size))
    have HT10 := hid (HT9.out.keep hb)
    have B10 := hid (B9.out.trans (hb.mono B9.out.size))
    have G10 := hid (G9.out.trans (hb.mono G9.out.size))
    clear hb K10 t0 t1 t2
    obtain ⟨t0, t1, t2⟩ := HT10.out.c3
    clear HCH
    generalize hdue : changeOf T cs = due at *
    clear hdue
    have KRA := ralike_any (.int .i64 b) A c cs A2 c2 fs A5 c5 bs w10 (HH.out.at_ HB10.out) (HGL.out.1.at_ B10.out) (by rw [HBL.out]; omega)
    rw [HBL.out, HBK.out] at KRA
    have KRA := hid KRA
    have K11 := hid (KRA.out)
    go_wp2_with fail
    refine K11.out.mono ?_
    rintro e w11 ⟨rfl, hb⟩
    have HB11 := hid (HB10.out.trans (hb.mono HB10.out.size))
    have HT11 := hid (HT10.out.keep hb)
    have B11 := hid (B10.out.trans (hb.mono B10.out.size))
    have G11 := hid (G10.out.trans (hb.mono G10.out.size))
    clear hb K11 t0 t1 t2 KRA
    obtain ⟨t0, t1, t2⟩ := HT11.out.c3
    by_cases hlt : chg < due
    · have hgt : decide (chg < due) = true := by simpa using hlt
      have K12 := hid (awake_any w11)
      go_wp2_with fail
      refine K12.out.mono ?_
      rintro e w12 ⟨rfl, hb⟩
      have HB12 := hid (HB11.out.trans (hb.mono HB11.out.size))
      have HT12 := hid (HT11.out.keep hb)
      have B12 := hid (B11.out.trans (hb.mono B11.out.size))
      have G12 := hid (G11.out.trans (hb.mono G11.out.size))
      clear hb K12 t0 t1 t2
      obtain ⟨t0, t1, t2⟩ := HT12.out.c3
      clear t0 t1 t2
      go_wp2
      go_ret
      exact ⟨rfl, HB12.out⟩
    · have hgt : decide (chg < due) = false := by simpa using hlt
      obtain rfl : due = chg := by omega
      have KBF := before_any (some ⟨go, 0, none⟩) cs.length T A5 c5 bs w11 (HGI.out.at_ G11.out) (HGL.out.1.at_ B11.out) (by rw [HTL.out]; omega) (by rw [HTL.out, HBL.out]) (fun k x y hx hy => by rw [HTR.out x (List.mem_of_getElem? hx), (HBA.out.2 y (List.mem_of_getElem? hy)).1])
      rw [HTL.out, HBL.out, HEQ.out rfl] at KBF
      have KBF := hid KBF
      have K12 := hid (KBF.out)
      go_wp2_with fail
      refine K12.out.mono ?_
      rintro e w12 ⟨rfl, hb⟩
      have HB12 := hid (HB11.out.trans (hb.mono HB11.out.size))
      have HT12 := hid (HT11.out.keep hb)
      have B12 := hid (B11.out.trans (hb.mono B11.out.size))
      have G12 := hid (G11.out.trans (hb.mono G11.out.size))
      clear hb K12 t0 t1 t2 KBF
      obtain ⟨t0, t1, t2⟩ := HT12.out.c3
      have K13 := hid (awake_any w12)
      go_wp2_with fail
      refine K13.out.mono ?_
      rintro e w13 ⟨rfl, hb⟩
      have HB13 := hid (HB12.out.trans (hb.mono HB12.out.size))
      have HT13 := hid (HT12.out.keep hb)
      have B13 := hid (B12.out.trans (hb.mono B12.out.size))
      have G13 := hid (G12.out.trans (hb.mono G12.out.size))
      clear hb K13 t0 t1 t2
      obtain ⟨t0, t1, t2⟩ := HT13.out.c3
      clear t0 t1 t2
      go_wp2
      go_ret
      exact ⟨rfl, HB13.out⟩

theorem least_any (b : Int) (A : Option Addr) (c : Nat) (cs : List (List Int)) (A2 : Option Addr) (c2 : Nat) (fs : List Fx) (q : Int) (w : World) (h : TIn A c cs A2 c2 fs w) (hq0 : 0 ≤ q) (hq1 : q ≤ 4294967295) :
    Calls Try.prog 14 #[.agg #[.int .i64 b, .slice A cs.length c, .slice A2 fs.length c2], .int .u32 q] w fun e w' => e = .returned (.bool true) ∧ Below w.heap.size w w' := by
  cases hr : readyB b cs fs
  · exact least_not b A c cs A2 c2 fs q w h hr
  · by_cases hw : (spec b cs fs cs.length zeroS).ways = 0
    · exact least_none b A c cs A2 c2 fs q w h hq0 hq1 hr hw
    · exact least_some b A c cs A2 c2 fs q w h hq0 hq1 hr hw

open Go.ChangeShapes Go.WideShapes Go.ChangeAt in
set_option maxRecDepth 100000 in
theorem least_lifted (os : Os) (started : os.Started) (H : Type) (enc : TypeId × Value → H) :
    ReturnsInHanded {} Try.checked os 14 .any (Rows.roundLeastSpec.pre6 enc Try.prog Try.f14 Rows.roundLeastRow.domain false) (Rows.roundLeastSpec.post enc Try.prog Try.f14 false true false false) := by
  refine returnsInHanded_of_change (C := Try.checked) own started (by kernel_rfl) Try.func14
    (ChangeSpec.witness6 (enc := enc) (C := Try.checked) false ⟨#[], #[.agg #[.int .i64 0, .slice none 0 0, .slice none 0 0], .int .u32 0], []⟩ 8 (by kernel_rfl) (by kernel_rfl) (by kernel_rfl) (by kernel_rfl)) ?_
  intro W base args ds gs before hval0 hW hcnd _
  have hval : ∀ (j : Nat) t v, Try.f14.params[j]? = some t → args[j]? = some v → Value.okWide Try.prog W .any base t v := hval0
  have hW' := hW
  obtain ⟨p, q, hA0, hV, rfl, hfz, hnd⟩ := hW
  have hA : DataW.TrodAll enc Try.prog W 0 (fun _ => true) true Try.f14.params.toList args.toList ds p := hA0
  rw [Try.params14] at hA hval
  obtain ⟨v0, vs0, d0, ds0, p0, q0, hargs, rfl, rfl, h0, r0⟩ := trodAll_cons hA
  obtain ⟨v1, vs1, d1, ds1, p1, q1, rfl, rfl, rfl, h1, r1⟩ := trodAll_cons r0
  obtain ⟨rfl, rfl, rfl⟩ := trodAll_nil r1
  obtain rfl : args = #[v0, v1] := by cases args; simp_all
  obtain ⟨rfl, rfl⟩ := trodVars_none hV
  obtain ⟨b0, A, c, cs, A2, c2, fs, rfl, ht⟩ := open_table (hval 0 25 v0 rfl rfl) h0
  obtain ⟨q, rfl, rfl, rfl, w1⟩ := open_int Try.underlying72 (hval 1 72 v1 rfl rfl) h1
  have hq : 0 ≤ q ∧ q ≤ 4294967295 := by
    have h : decide (IntKind.u32.min ≤ q) = true ∧ decide (q ≤ IntKind.u32.max) = true := by simpa [Lit.wf] using w1
    have h1 := of_decide_eq_true h.1
    have h2 := of_decide_eq_true h.2
    have e1 : IntKind.u32.min = 0 := by decide
    have e2 : IntKind.u32.max = 4294967295 := by decide
    omega
  refine (least_any b0 A c cs A2 c2 fs q W ht hq.1 hq.2).mono fun e W' ⟨he, hb⟩ => ⟨_, he, ?_⟩
  exact law_post laid_out rfl rfl (by kernel_rfl) hW' rfl hb

theorem least_over : Rows.roundLeastRow.holds Try.pinned (OpenSpec.ofChange Rows.roundLeastSpec) :=
  OpenClaim.holds_of_wide 14 Try.f14 rfl rfl rfl rfl rfl rfl rfl ⟨rfl, rfl, rfl, rfl, rfl⟩ rfl rfl rfl rfl rfl (by kernel_rfl) Try.func14 (by kernel_rfl)
    (of_decide_eq_true (by kernel_rfl)) (by unfold Func.isWrapper; first | (rw [if_pos (by decide +kernel)]; kernel_rfl) | (rw [if_neg (by decide +kernel)]; exact ⟨rfl, rfl⟩))
    (fun os started H enc _ => least_lifted os started H enc)
/-- the statement -/
theorem round_least : Rows.RoundLeastSaid := least_over
#print axioms round_least
end Go.Proofs.Ytgoianldiomdoaa
