/- For every table and every number, each number of a rounding is in its range of Span: the statement RoundAll. No condition. -/
import Derived.Test.YtgoianldiomdoaaG11
namespace Go.Proofs.Ytgoianldiomdoaa
open Go.RowKit Go.Shelf

/-- where a rounding lies in the ranges -/
theorem in_span {b : Int} {cs : List (List Int)} {fs : List Fx} {x : List (List Int)} (ok : TOk b cs fs) (hw : (spec b cs fs cs.length zeroS).ways ≠ 0) (hx : IsR b cs fs x) {r j : Nat} {row : List (Int × Int)} {p : Int × Int} {l : List Int} {v : Int}
    (h1 : (spanOf b cs fs)[r]? = some row) (h2 : row[j]? = some p) (h3 : x[r]? = some l) (h4 : l[j]? = some v) : p.1 ≤ v ∧ v ≤ p.2 ∧ ((spec b cs fs cs.length zeroS).ways = 1 → p.1 = p.2) := by
  have he := span_ex ok hw
  have hlo := he.lo r row j p l v h1 h2 ⟨x, hx, h3⟩ h4
  refine ⟨hlo.1, hlo.2, fun h => ?_⟩
  have hone : ∀ y, IsR b cs fs y → y = x := by
    intro y hy
    have m1 := rnds_isR.2 hx
    have m2 := rnds_isR.2 hy
    rw [ways_len] at h
    obtain ⟨z, hz⟩ := List.length_eq_one_iff.1 (show (rnds b cs fs cs.length zeroS).length = 1 by omega)
    rw [hz] at m1 m2
    rw [List.mem_singleton] at m1 m2
    rw [m1, m2]
  have hal := alike_rows (hx.alike ok)
  have hv := (hal.2 l (List.mem_of_getElem? h3)).2 v (List.mem_of_getElem? h4)
  have e1 : p.1 = v := by
    rcases he.al r row j p h1 h2 with h | ⟨l', ⟨y, hy, hy2⟩, h5⟩
    · omega
    · rw [hone y hy, h3] at hy2
      injection hy2 with hy2
      subst hy2
      rw [h4] at h5
      injection h5 with h5
      omega
  have e2 : p.2 = v := by
    rcases he.ah r row j p h1 h2 with h | ⟨l', ⟨y, hy, hy2⟩, h5⟩
    · omega
    · rw [hone y hy, h3] at hy2
      injection hy2 with hy2
      subst hy2
      rw [h4] at h5
      injection h5 with h5
      omega
  omega
theorem ptrsTo_get {f : Nat → Nat} {m len r : Nat} (h : r < len) : (ptrsTo f m len len)[r]? = some (.slice (some ⟨f r, 0, none⟩) m m) := by simp [ptrsTo, h]
theorem ways_nn {b : Int} {cs : List (List Int)} {fs : List Fx} : 0 ≤ (spec b cs fs cs.length zeroS).ways := by rw [ways_len]; omega
theorem best_prove {b : Int} {cs : List (List Int)} {fs : List Fx} (hc : chkE b cs fs = 0) (hw : (spec b cs fs cs.length zeroS).ways ≠ 0) : proveB b cs fs (bestOf b cs fs cs.length zeroS) 1000000 = true := by
  have ok := chk_ok hc
  have hR := best_isR hw
  refine (prove_iff hc (hR.alike ok)).2 ⟨hR, ?_⟩
  rw [← (best_plain hw).2]
  have := (bnd_spec ok cs.length (Nat.le_refl _) zeroS).1.c2
  have := ok.okc.n2
  omega
/-- one of the two tables that the statement tries -/
structure Tried (b : Int) (cs : List (List Int)) (fs : List Fx) (i : Nat) (X : List (List Int)) (pb : Bool) : Prop where
  len : X.length = cs.length
  row : ∀ xs ∈ X, xs.length = colsOf cs
  pr : proveB b cs fs X 1000000 = pb
  is : pb = true → IsR b cs fs X
  fst : i = 0 → pb = true

set_option maxRecDepth 100000 in
set_option maxHeartbeats 1000000 in
theorem all_not (b : Int) (A : Option Addr) (c : Nat) (cs : List (List Int)) (A2 : Option Addr) (c2 : Nat) (fs : List Fx) (q : Int) (w : World) (h : TIn A c cs A2 c2 fs w) (hr : readyB b cs fs = false) :
    Calls Try.prog 12 #[.agg #[.int .i64 b, .slice A cs.length c, .slice A2 fs.length c2], .int .u32 q] w fun e w' => e = .returned (.bool true) ∧ Below w.heap.size w w' := by
  have hB := below_box (w := w) #[.int .i64 b, .slice A cs.length c, .slice A2 fs.length c2] 25
  have hT := Blk.new w 25 #[.int .i64 b, .slice A cs.length c, .slice A2 fs.length c2]
  have HB0 := hid hB
  have HT0 := hid hT
  have HH := hid h
  obtain ⟨t0, t1, t2⟩ := hT.c3
  clear h hB hT
  have HRD := hid hr
  clear hr
  go_enter Try.func12, Try.ntmps12
  have K1 := hid (ready_any b A c cs A2 c2 fs _ (HH.out.at_ HB0.out))
  rw [HRD.out] at K1
  go_wp2_with fail
  refine K1.out.mono ?_
  rintro e w1 ⟨rfl, hb⟩
  have HB1 := hid (HB0.out.trans (hb.mono HB0.out.size))
  have HT1 := hid (HT0.out.keep hb)
  clear hb K1 t0 t1 t2
  obtain ⟨t0, t1, t2⟩ := HT1.out.c3
  have K2 := hid (awake_any w1)
  go_wp2_with fail
  refine K2.out.mono ?_
  rintro e w2 ⟨rfl, hb⟩
  have HB2 := hid (HB1.out.trans (hb.mono HB1.out.size))
  have HT2 := hid (HT1.out.keep hb)
  clear hb K2 t0 t1 t2
  obtain ⟨t0, t1, t2⟩ := HT2.out.c3
  clear t0 t1 t2
  go_wp2
  go_ret
  exact ⟨rfl, HB2.out⟩

set_option maxRecDepth 100000 in
set_option maxHeartbeats 1000000 in
theorem all_none (b : Int) (A : Option Addr) (c : Nat) (cs : List (List Int)) (A2 : Option Addr) (c2 : Nat) (fs : List Fx) (q : Int) (w : World) (h : TIn A c cs A2 c2 fs w) (hr : readyB b cs fs = true) (hw : (spec b cs fs cs.length zeroS).ways = 0) :
    Calls Try.prog 12 #[.agg #[.int .i64 b, .slice A cs.length c, .slice A2 fs.length c2], .int .u32 q] w fun e w' => e = .returned (.bool true) ∧ Below w.heap.size w w' := by
  have hB := below_box (w := w) #[.int .i64 b, .slice A cs.length c, .slice A2 fs.length c2] 25
  have hT := Blk.new w 25 #[.int .i64 b, .slice A cs.length c, .slice A2 fs.length c2]
  have HB0 := hid hB
  have HT0 := hid hT
  have HH := hid h
  obtain ⟨t0, t1, t2⟩ := hT.c3
  clear h hB hT
  have HRD := hid hr
  have HCK := hid (ready_chk hr)
  have OK := hid (chk_ok (ready_chk hr))
  have hn5 := OK.out.okc.n2
  have hn1 := OK.out.okc.n1
  have hc4 := OK.out.okc.c2
  have hf100 := OK.out.n
  have hb1 := OK.out.okc.b1
  have HCX := hid (fun (xs : List Int) (hx : xs ∈ cs) => show xs.length ≤ 1000 by have := OK.out.okc.row xs hx; omega)
  clear hr
  have HWS := hid hw
  have HWV := hid hw
  clear hw
  go_enter Try.func12, Try.ntmps12
  have K1 := hid (ready_any b A c cs A2 c2 fs _ (HH.out.at_ HB0.out))
  rw [HRD.out] at K1
  go_wp2_with fail
  refine K1.out.mono ?_
  rintro e w1 ⟨rfl, hb⟩
  have HB1 := hid (HB0.out.trans (hb.mono HB0.out.size))
  have HT1 := hid (HT0.out.keep hb)
  clear hb K1 t0 t1 t2
  obtain ⟨t0, t1, t2⟩ := HT1.out.c3
  have K2 := hid (table_any b A c cs A2 c2 fs w1 (HH.out.at_ HB1.out) (by omega) HCX.out (by omega))
  go_wp2_with fail
  refine K2.out.mono ?_
  rintro e w2 ⟨P1, p1, Q1, q1, rfl, hti, hb⟩
  have HB2 := hid (HB1.out.trans (hb.mono HB1.out.size))
  have HT2 := hid (HT1.out.keep hb)
  have TI1 := hid hti
  clear hti
  clear hb K2 t0 t1 t2
  obtain ⟨t0, t1, t2⟩ := HT2.out.c3
  have KB := hid (best_any b P1 p1 cs Q1 q1 fs w2 TI1.out)
  simp only [HCK.out, HWS.out, ne_eq, not_true_eq_false, if_false, if_true] at KB
  have K3 := hid (KB.out)
  go_wp2_with fail
  refine K3.out.mono ?_
  rintro e w3 ⟨rfl, hb⟩
  have HB3 := hid (HB2.out.trans (hb.mono HB2.out.size))
  have HT3 := hid (HT2.out.keep hb)
  clear hb K3 t0 t1 t2 KB
  obtain ⟨t0, t1, t2⟩ := HT3.out.c3
  have K4 := hid (table_any b A c cs A2 c2 fs w3 (HH.out.at_ HB3.out) (by omega) HCX.out (by omega))
  go_wp2_with fail
  refine K4.out.mono ?_
  rintro e w4 ⟨P2, p2, Q2, q2, rfl, hti, hb⟩
  have HB4 := hid (HB3.out.trans (hb.mono HB3.out.size))
  have HT4 := hid (HT3.out.keep hb)
  have TI2 := hid hti
  clear hti
  clear hb K4 t0 t1 t2
  obtain ⟨t0, t1, t2⟩ := HT4.out.c3
  have KW := ways_any b P2 p2 cs Q2 q2 fs w4 TI2.out
  rw [if_pos HCK.out, HWV.out] at KW
  have KW := hid KW
  have K5 := hid (KW.out)
  go_wp2_with fail
  refine K5.out.mono ?_
  rintro e w5 ⟨rfl, hb⟩
  have HB5 := hid (HB4.out.trans (hb.mono HB4.out.size))
  have HT5 := hid (HT4.out.keep hb)
  clear hb K5 t0 t1 t2 KW
  obtain ⟨t0, t1, t2⟩ := HT5.out.c3
  have K6 := hid (table_any b A c cs A2 c2 fs w5 (HH.out.at_ HB5.out) (by omega) HCX.out (by omega))
  go_wp2_with fail
  refine K6.out.mono ?_
  rintro e w6 ⟨P3, p3, Q3, q3, rfl, hti, hb⟩
  have HB6 := hid (HB5.out.trans (hb.mono HB5.out.size))
  have HT6 := hid (HT5.out.keep hb)
  have TI3 := hid hti
  clear hti
  clear hb K6 t0 t1 t2
  obtain ⟨t0, t1, t2⟩ := HT6.out.c3
  have KS := hid (span_any b P3 p3 cs Q3 q3 fs w6 TI3.out)
  simp only [HCK.out, HWS.out, ne_eq, not_true_eq_false, if_false, if_true] at KS
  have K7 := hid (KS.out)
  go_wp2_with fail
  refine K7.out.mono ?_
  rintro e w7 ⟨rfl, hb⟩
  have HB7 := hid (HB6.out.trans (hb.mono HB6.out.size))
  have HT7 := hid (HT6.out.keep hb)
  clear hb K7 t0 t1 t2 KS
  obtain ⟨t0, t1, t2⟩ := HT7.out.c3
  have K8 := hid (awake_any w7)
  go_wp2_with fail
  refine K8.out.mono ?_
  rintro e w8 ⟨rfl, hb⟩
  have HB8 := hid (HB7.out.trans (hb.mono HB7.out.size))
  have HT8 := hid (HT7.out.keep hb)
  clear hb K8 t0 t1 t2
  obtain ⟨t0, t1, t2⟩ := HT8.out.c3
  clear t0 t1 t2
  go_wp2
  go_ret
  exact ⟨rfl, HB8.out⟩

set_option maxRecDepth 100000 in
set_option maxHeartbeats 1000000 in
theorem all_some (b : Int) (A : Option Addr) (c : Nat) (cs : List (List Int)) (A2 : Option Addr) (c2 : Nat) (fs : List Fx) (q : Int) (w : World) (h : TIn A c cs A2 c2 fs w) (hq0 : 0 ≤ q) (hq1 : q ≤ 4294967295) (hr : readyB b cs fs = true) (hw : ¬ (spec b cs fs cs.length zeroS).ways = 0) :
    Calls Try.prog 12 #[.agg #[.int .i64 b, .slice A cs.length c, .slice A2 fs.length c2], .int .u32 q] w fun e w' => e = .returned (.bool true) ∧ Below w.heap.size w w' := by
  have hB := below_box (w := w) #[.int .i64 b, .slice A cs.length c, .slice A2 fs.length c2] 25
  have hT := Blk.new w 25 #[.int .i64 b, .slice A cs.length c, .slice A2 fs.length c2]
  have HB0 := hid hB
  have HT0 := hid hT
  have HH := hid h
  obtain ⟨t0, t1, t2⟩ := hT.c3
  clear h hB hT
  have HRD := hid hr
  have HCK := hid (ready_chk hr)
  have OK := hid (chk_ok (ready_chk hr))
  have hn5 := OK.out.okc.n2
  have hn1 := OK.out.okc.n1
  have hc4 := OK.out.okc.c2
  have hf100 := OK.out.n
  have hb1 := OK.out.okc.b1
  have HCX := hid (fun (xs : List Int) (hx : xs ∈ cs) => show xs.length ≤ 1000 by have := OK.out.okc.row xs hx; omega)
  clear hr
  obtain ⟨T, hTT⟩ : ∃ T, T = (nthT b cs q).1 := ⟨_, rfl⟩
  have HTL := hid (show T.length = cs.length by rw [hTT, nthT_len])
  have HTR := hid (show ∀ xs ∈ T, xs.length = colsOf cs by rw [hTT]; exact nthT_rows OK.out.okc.row)
  have HTX := hid (fun (xs : List Int) (hx : xs ∈ T) => show xs.length ≤ 1000 by have := HTR.out xs hx; omega)
  have HTT := hid hTT
  clear hTT
  obtain ⟨kw, hkw⟩ : ∃ kw, (spec b cs fs cs.length zeroS).ways = kw := ⟨_, rfl⟩
  have hk0 : 0 < kw := by have := ways_nn (b := b) (cs := cs) (fs := fs); omega
  have HWV := hid hkw
  have HWS := hid hw
  have HIN := hid (fun x hx r j row p l v h1 h2 h3 h4 => in_span (x := x) (r := r) (j := j) (row := row) (p := p) (l := l) (v := v) OK.out hw hx h1 h2 h3 h4)
  have HP0 := hid (best_prove HCK.out hw)
  have HR0 := hid (best_isR hw)
  clear hw hkw
  go_enter Try.func12, Try.ntmps12
  have K1 := hid (ready_any b A c cs A2 c2 fs _ (HH.out.at_ HB0.out))
  rw [HRD.out] at K1
  go_wp2_with fail
  refine K1.out.mono ?_
  rintro e w1 ⟨rfl, hb⟩
  have HB1 := hid (HB0.out.trans (hb.mono HB0.out.size))
  have HT1 := hid (HT0.out.keep hb)
  clear hb K1 t0 t1 t2
  obtain ⟨t0, t1, t2⟩ := HT1.out.c3
  have K2 := hid (table_any b A c cs A2 c2 fs w1 (HH.out.at_ HB1.out) (by omega) HCX.out (by omega))
  go_wp2_with fail
  refine K2.out.mono ?_
  rintro e w2 ⟨P1, p1, Q1, q1, rfl, hti, hb⟩
  have HB2 := hid (HB1.out.trans (hb.mono HB1.out.size))
  have HT2 := hid (HT1.out.keep hb)
  have TI1 := hid hti
  clear hti
  clear hb K2 t0 t1 t2
  obtain ⟨t0, t1, t2⟩ := HT2.out.c3
  have KB := hid (best_any b P1 p1 cs Q1 q1 fs w2 TI1.out)
  simp only [HCK.out, ne_eq, not_true_eq_false, if_false] at KB
  simp only [if_neg HWS.out] at KB
  go_wp2_with fail
  refine KB.out.mono ?_
  rintro e wb ⟨A5, c5, rfl, g1, g2, g3, g4, g5, hb⟩
  have HB3 := hid (HB2.out.trans (hb.mono HB2.out.size))
  have HT3 := hid (HT2.out.keep hb)
  have HGL := hid (And.intro g1 (And.intro g2 g3))
  clear hb t0 t1 t2 KB g1 g2 g3 g4 g5
  obtain ⟨t0, t1, t2⟩ := HT3.out.c3
  have B0 := hid (Below.refl wb.heap.size wb)
  generalize hchg : (spec b cs fs cs.length zeroS).change = chg
  have HCHG := hid hchg
  clear hchg
  have K4 := hid (table_any b A c cs A2 c2 fs wb (HH.out.at_ HB3.out) (by omega) HCX.out (by omega))
  go_wp2_with fail
  refine K4.out.mono ?_
  rintro e w4 ⟨P2, p2, Q2, q2, rfl, hti, hb⟩
  have HB4 := hid (HB3.out.trans (hb.mono HB3.out.size))
  have HT4 := hid (HT3.out.keep hb)
  have B4 := hid (B0.out.trans (hb.mono B0.out.size))
  have TI2 := hid hti
  clear hti
  clear hb K4 t0 t1 t2
  obtain ⟨t0, t1, t2⟩ := HT4.out.c3
  have KW := ways_any b P2 p2 cs Q2 q2 fs w4 TI2.out
  rw [if_pos HCK.out, HWV.out] at KW
  have KW := hid KW
  have K5 := hid (KW.out)
  go_wp2_with fail
  refine K5.out.mono ?_
  rintro e w5 ⟨rfl, hb⟩
  have HB5 := hid (HB4.out.trans (hb.mono HB4.out.size))
  have HT5 := hid (HT4.out.keep hb)
  have B5 := hid (B4.out.trans (hb.mono B4.out.size))
  clear hb K5 t0 t1 t2 KW
  obtain ⟨t0, t1, t2⟩ := HT5.out.c3
  have K6 := hid (table_any b A c cs A2 c2 fs w5 (HH.out.at_ HB5.out) (by omega) HCX.out (by omega))
  go_wp2_with fail
  refine K6.out.mono ?_
  rintro e w6 ⟨P3, p3, Q3, q3, rfl, hti, hb⟩
  have HB6 := hid (HB5.out.trans (hb.mono HB5.out.size))
  have HT6 := hid (HT5.out.keep hb)
  have B6 := hid (B5.out.trans (hb.mono B5.out.size))
  have TI3 := hid hti
  clear hti
  clear hb K6 t0 t1 t2
  obtain ⟨t0, t1, t2⟩ := HT6.out.c3
  have KS := hid (span_any b P3 p3 cs Q3 q3 fs w6 TI3.out)
  simp only [HCK.out, ne_eq, not_true_eq_false, if_false] at KS
  simp only [if_neg HWS.out] at KS
  have K7 := hid (KS.out)
  go_wp2_with fail
  refine K7.out.mono ?_
  rintro e w7 ⟨Ro, Rr, rfl, gs1, gs2, gs3, gs4, hb⟩
  have HB7 := hid (HB6.out.trans (hb.mono HB6.out.size))
  have HT7 := hid (HT6.out.keep hb)
  have B7 := hid (B6.out.trans (hb.mono B6.out.size))
  have HSP := hid (And.intro gs2 (And.intro gs3 gs4))
  clear gs1 gs2 gs3 gs4 KS
  clear hb K7 t0 t1 t2
  obtain ⟨t0, t1, t2⟩ := HT7.out.c3
  have S0 := hid (Below.refl w7.heap.size w7)
  have K8 := hid (tried_any b A c cs A2 c2 fs q w7 (HH.out.at_ HB7.out) OK.out.okc hq0 hq1)
  go_wp2_with fail
  refine K8.out.mono ?_
  rintro e w8 ⟨go, rfl, hgi, hb⟩
  have HB8 := hid (HB7.out.trans (hb.mono HB7.out.size))
  have HT8 := hid (HT7.out.keep hb)
  have B8 := hid (B7.out.trans (hb.mono B7.out.size))
  have S8 := hid (S0.out.trans (hb.mono S0.out.size))
  rw [← HTT.out] at hgi
  have HGI := hid hgi
  clear hgi
  clear hb K8 t0 t1 t2
  obtain ⟨t0, t1, t2⟩ := HT8.out.c3
  have G0 := hid (Below.refl w8.heap.size w8)
  clear t0 t1 t2
  go_wp2
  refine gen (p := Code.wp _ _ _ _) (fun W => Below w8.heap.size w8 W ∧ Blk W w8.heap.size 22 #[.slice A5 cs.length c5, .slice (some ⟨go, 0, none⟩) cs.length cs.length]) ⟨(Below.refl _ _).alloc (Nat.le_refl _) _, Blk.new _ _ _⟩ ?_
  rintro w9 ⟨hb, hbo⟩
  have HB9 := hid (HB8.out.trans (hb.mono HB8.out.size))
  have HT9 := hid (HT8.out.keep hb)
  have B9 := hid (B8.out.trans (hb.mono B8.out.size))
  have S9 := hid (S8.out.trans (hb.mono S8.out.size))
  have G9 := hid (G0.out.trans (hb.mono G0.out.size))
  clear hb
  have HBO := hid hbo
  clear hbo
  generalize w8.heap.size = gb at HBO ⊢
  go_loopw [13] (fun i wr => ∃ k : Nat, k ≤ 2 ∧ i = .int .i64 k ∧ Below w9.heap.size w9 wr) (fun i _ => 2 - (intOf i).toNat)
  case atStart => exact ⟨0, by omega, rfl, Below.refl _ _⟩
  case round =>
    obtain ⟨k, hk, rfl, hbr⟩ := hrel
    have HBR := hid (HB9.out.trans (hbr.mono HB9.out.size))
    have HTRR := hid (HT9.out.keep hbr)
    have HBOR := hid (HBO.out.keep hbr)
    by_cases hlt : k < 2
    · obtain ⟨X, AX, cX, pb, htr, hcell, hrows, hlx, hmx⟩ : ∃ X AX cX pb, Tried b cs fs k X pb ∧ wr.cell? ⟨gb, k, none⟩ = some (.slice AX cs.length cX) ∧ IsRows wr wr.heap.size AX X ∧ cs.length ≤ cX ∧ cX ≤ maxLen := by
        have hk2 : k = 0 ∨ k = 1 := by omega
        rcases hk2 with rfl | rfl
        · have ha := alike_rows (HR0.out.alike OK.out)
          exact ⟨_, A5, c5, true, ⟨bestOf_len _ _, fun xs hx => (ha.2 xs hx).1, HP0.out, fun _ => HR0.out, fun _ => rfl⟩, HBOR.out.c2.1, HGL.out.1.at_ (B9.out.trans (hbr.mono B9.out.size)), HGL.out.2.1, HGL.out.2.2⟩
        · refine ⟨T, some ⟨go, 0, none⟩, cs.length, _, ⟨HTL.out, HTR.out, rfl, fun hp => ?_, fun h => by cases h⟩, HBOR.out.c2.2, HGI.out.at_ (G9.out.trans (hbr.mono G9.out.size)), Nat.le_refl _, by unfold maxLen; omega⟩
          have ha : alikeB cs.length (colsOf cs) T = true := by
            unfold proveB at hp
            simp only [Bool.and_eq_true] at hp
            exact hp.2.1
          exact ((prove_iff HCK.out ha).1 hp).1
      have HTD := hid htr
      have HRW := hid hrows
      have HCE := hid hcell
      have hk2 : (k : Int) < 2 := by omega
      have HSB := hid (S9.out.trans (hbr.mono S9.out.size))
      have HBW := hid hbr
      obtain ⟨t0, t1, t2⟩ := HTRR.out.c3
      clear htr hrows hbr
      have X0 := hid (Below.refl wr.heap.size wr)
      have K10 := hid (table_any b A c cs A2 c2 fs wr (HH.out.at_ HBR.out) (by omega) HCX.out (by omega))
      go_wp2_with fail
      refine K10.out.mono ?_
      rintro e w10 ⟨P7, p7, Q7, q7, rfl, hti, hb⟩
      have HB10 := hid (HBR.out.trans (hb.mono HBR.out.size))
      have HT10 := hid (HTRR.out.keep hb)
      have X10 := hid (X0.out.trans (hb.mono X0.out.size))
      have TI7 := hid hti
      clear hti
      clear hcell
      clear hb K10 t0 t1 t2
      obtain ⟨t0, t1, t2⟩ := HT10.out.c3
      have K11 := hid (rows_any AX cX X w10 (HRW.out.at_ X10.out) (by rw [HTD.out.len]; exact hlx) hmx (by rw [HTD.out.len]; omega) (fun xs hx => by rw [HTD.out.row xs hx]; omega))
      rw [HTD.out.len] at K11
      go_wp2_with fail
      refine K11.out.mono ?_
      rintro e w11 ⟨E7, e7, rfl, hro, hb⟩
      have HB11 := hid (HB10.out.trans (hb.mono HB10.out.size))
      have HT11 := hid (HT10.out.keep hb)
      have X11 := hid (X10.out.trans (hb.mono X10.out.size))
      obtain ⟨E7', e7', hq, g1, g2, g3, g4, g5⟩ := hro.out
      injection hq with hq1 _ hq3
      subst hq1 hq3
      have RI7 := hid (And.intro g1 (And.intro g2 g3))
      have HBR7 := hid hb
      clear hro g1 g2 g3 g4 g5
      clear hb K11 t0 t1 t2
      obtain ⟨t0, t1, t2⟩ := HT11.out.c3
      have K12 := hid (prove_any b P7 p7 cs Q7 q7 fs E7 e7 X 1000000 w11 (TI7.out.at_ HBR7.out) RI7.out.1 RI7.out.2.1 RI7.out.2.2)
      rw [HTD.out.pr] at K12
      go_wp2_with fail
      refine K12.out.mono ?_
      rintro e w12 ⟨rfl, hb⟩
      have HB12 := hid (HB11.out.trans (hb.mono HB11.out.size))
      have HT12 := hid (HT11.out.keep hb)
      have X12 := hid (X11.out.trans (hb.mono X11.out.size))
      clear hb K12 t0 t1 t2
      obtain ⟨t0, t1, t2⟩ := HT12.out.c3
      clear t0 t1 t2
      have HBX := hid (HBW.out.trans (X12.out.mono HBW.out.size))
      have hrows := HRW.out.at_ X12.out
      have HRX := hid hrows
      have hsp := HSB.out.trans (X12.out.mono HSB.out.size)
      clear hrows
      have HSX := hid hsp
      clear hsp HBW HRW HSB HCE
      cases pb
      · have hk0' : ((k : Int) == 0) = false := by
          have := HTD.out.fst
          simp only [beq_eq_false_iff_ne, ne_eq]
          intro e
          have := this (by omega)
          cases this
        go_wp2
        go_roundw
        case rel => exact ⟨k + 1, by omega, by go_num, HBX.out⟩
        case measure => first | (simp [intOf]; done) | (simp [intOf]; omega)
      · have hR := HTD.out.is rfl
        have HR := hid hR
        clear hR
        go_wp2
        go_loopw [15] (fun i W => ∃ r : Nat, r ≤ cs.length ∧ i = .int .i64 r ∧ Below w12.heap.size w12 W) (fun i _ => cs.length - (intOf i).toNat)
        case atStart => exact ⟨0, Nat.zero_le _, rfl, Below.refl _ _⟩
        case round =>
          obtain ⟨r, hr, rfl, hbr⟩ := hrel
          have HBR2 := hid hbr
          clear hbr
          by_cases hlr : r < cs.length
          · have hrI : (r : Int) < (cs.length : Int) := by omega
            go_wp2
            go_loopw [16] (fun i W => ∃ j : Nat, j ≤ colsOf cs ∧ i = .int .i64 j ∧ Below w12.heap.size w12 W) (fun i _ => colsOf cs - (intOf i).toNat)
            case atStart => exact ⟨0, Nat.zero_le _, rfl, HBR2.out⟩
            case round =>
              obtain ⟨j, hj, rfl, hbj⟩ := hrel
              have HBJ := hid hbj
              obtain ⟨xs, hxs⟩ : ∃ xs, X[r]? = some xs := ⟨_, List.getElem?_eq_getElem (by rw [HTD.out.len]; exact hlr)⟩
              have hxl := HTD.out.row xs (List.mem_of_getElem? hxs)
              obtain ⟨aX, A1', c1', rfl, q1, q2, q3, q4, q5⟩ := (HRX.out.at_ hbj) r xs hxs
              rw [hxl] at q2 q3
              unfold maxLen at q4
              by_cases hlj : j < colsOf cs
              · have hjI : (j : Int) < (colsOf cs : Int) := by omega
                obtain ⟨v, hv⟩ : ∃ v, xs[j]? = some v := ⟨_, List.getElem?_eq_getElem (by omega)⟩
                obtain ⟨ax, rfl, u1, u2⟩ := q5 j v hv
                obtain ⟨gs2, gs3, gs4⟩ := HSP.out
                obtain ⟨row, hrow⟩ : ∃ row, (spanOf b cs fs)[r]? = some row := ⟨_, List.getElem?_eq_getElem (by rw [gs3]; exact hlr)⟩
                obtain ⟨hrl, hrb⟩ := gs4 r row hrow
                obtain ⟨p, hp⟩ : ∃ p, row[j]? = some p := ⟨_, List.getElem?_eq_getElem (by omega)⟩
                obtain ⟨z1, z2, z3⟩ := HIN.out X HR.out r j row p xs v hrow hp hxs hv
                rw [HWV.out] at z3
                have hsj := HSX.out.trans (hbj.mono HSX.out.size)
                have k2 := gs2.keep hsj
                have k3 := hrb.keep hsj
                obtain ⟨r1, r2⟩ := rowCells_lo hp
                have s1 := xt_cell q2
                have s2 := xt_cell u2
                have s3 := xt_cell (k2.cell r |>.trans (ptrsTo_get hlr))
                have s4 := xt_cell ((k3.cell (j * 2)).trans (show _ = some (Value.int .i64 p.1) by simpa using r1))
                have s5 := xt_cell ((k3.cell (j * 2 + 1)).trans (show _ = some (Value.int .i64 p.2) by simpa using r2))
                have HLT := hid hlj
                have hd1 : decide (v < p.1) = false := decide_eq_false (by omega)
                have hd2 : decide (p.2 < v) = false := decide_eq_false (by omega)
                have HBJ2 := hid hbj
                clear hxs hv hrow hp gs2 gs3 gs4 hrb hrl hsj k2 k3 q5 r1 r2 u2 z1 z2 hbj
                by_cases hk1 : kw = 1
                · have hk1b : (kw == 1) = true := by simpa using hk1
                  have hd3 : (p.1 != p.2) = false := by have := z3 hk1; simp [this]
                  have HD3 := hid hd3
                  clear hk1 z3 hd3
                  go_wp2
                  clear q2
                  have hd3 := HD3.out
                  refine wp_region_quiet_xt (by kernel_rfl) (by kernel_rfl) ?_
                  repeat (go_big_quiet_step (fail))
                  refine wpQuiet_nil ?_
                  intro W3 hw3
                  replace hw3 := of_xt hw3
                  have HW3 := hid (HBJ2.out.trans (hw3.mono HBJ2.out.size))
                  clear hw3 s1 s2 s3 s4 s5
                  go_wp2
                  go_roundw
                  case rel => exact ⟨j + 1, by omega, by go_num, HW3.out⟩
                  case measure => first | (simp [intOf]; done) | (simp [intOf]; omega)
                · have hk1b : (kw == 1) = false := by simpa using hk1
                  clear hk1 z3
                  go_wp2
                  clear q2
                  refine wp_region_quiet_xt (by kernel_rfl) (by kernel_rfl) ?_
                  repeat (go_big_quiet_step (fail))
                  refine wpQuiet_nil ?_
                  intro W3 hw3
                  replace hw3 := of_xt hw3
                  have HW3 := hid (HBJ2.out.trans (hw3.mono HBJ2.out.size))
                  clear hw3 s1 s2 s3 s4 s5
                  go_wp2
                  go_roundw
                  case rel => exact ⟨j + 1, by omega, by go_num, HW3.out⟩
                  case measure => first | (simp [intOf]; done) | (simp [intOf]; omega)
              · have hjI : decide ((j : Int) < (colsOf cs : Int)) = false := decide_eq_false (by omega)
                have HBJ := hid hbj
                clear hxs q5 hbj
                go_wp2
                go_roundw
                case rel => exact ⟨r + 1, by omega, by go_num, HBJ.out⟩
                case measure => first | (simp [intOf]; done) | (simp [intOf]; omega)
          · have hrI : decide ((r : Int) < (cs.length : Int)) = false := decide_eq_false (by omega)
            have HBK := hid (HBX.out.trans (HBR2.out.mono HBX.out.size))
            go_wp2
            go_roundw
            case rel => exact ⟨k + 1, by omega, by go_num, HBK.out⟩
            case measure => first | (simp [intOf]; done) | (simp [intOf]; omega)
    · have hk2 : decide ((k : Int) < 2) = false := decide_eq_false (by omega)
      have K10 := hid (awake_any wr)
      go_wp2_with fail
      refine K10.out.mono ?_
      rintro e w10 ⟨rfl, hb⟩
      have HB10 := hid (HBR.out.trans (hb.mono HBR.out.size))
      clear hb K10
      skip
      go_wp2
      go_ret
      exact ⟨rfl, HB10.out⟩
theorem all_any (b : Int) (A : Option Addr) (c : Nat) (cs : List (List Int)) (A2 : Option Addr) (c2 : Nat) (fs : List Fx) (q : Int) (w : World) (h : TIn A c cs A2 c2 fs w) (hq0 : 0 ≤ q) (hq1 : q ≤ 4294967295) :
    Calls Try.prog 12 #[.agg #[.int .i64 b, .slice A cs.length c, .slice A2 fs.length c2], .int .u32 q] w fun e w' => e = .returned (.bool true) ∧ Below w.heap.size w w' := by
  cases hr : readyB b cs fs
  · exact all_not b A c cs A2 c2 fs q w h hr
  · by_cases hw : (spec b cs fs cs.length zeroS).ways = 0
    · exact all_none b A c cs A2 c2 fs q w h hr hw
    · exact all_some b A c cs A2 c2 fs q w h hq0 hq1 hr hw

open Go.ChangeShapes Go.WideShapes Go.ChangeAt in
set_option maxRecDepth 100000 in
theorem all_lifted (os : Os) (started : os.Started) (H : Type) (enc : TypeId × Value → H) :
    ReturnsInHanded {} Try.checked os 12 .any (Rows.roundAllSpec.pre6 enc Try.prog Try.f12 Rows.roundAllRow.domain false) (Rows.roundAllSpec.post enc Try.prog Try.f12 false true false false) := by
  refine returnsInHanded_of_change (C := Try.checked) own started (by kernel_rfl) Try.func12
    (ChangeSpec.witness6 (enc := enc) (C := Try.checked) false ⟨#[], #[.agg #[.int .i64 0, .slice none 0 0, .slice none 0 0], .int .u32 0], []⟩ 8 (by kernel_rfl) (by kernel_rfl) (by kernel_rfl) (by kernel_rfl)) ?_
  intro W base args ds gs before hval0 hW hcnd _
  have hval : ∀ (j : Nat) t v, Try.f12.params[j]? = some t → args[j]? = some v → Value.okWide Try.prog W .any base t v := hval0
  have hW' := hW
  obtain ⟨p, q, hA0, hV, rfl, hfz, hnd⟩ := hW
  have hA : DataW.TrodAll enc Try.prog W 0 (fun _ => true) true Try.f12.params.toList args.toList ds p := hA0
  rw [Try.params12] at hA hval
  obtain ⟨v0, vs0, d0, ds0, p0, q0, hargs, rfl, rfl, h0, r0⟩ := trodAll_cons hA
  obtain ⟨v1, vs1, d1, ds1, p1, q1, rfl, rfl, rfl, h1, r1⟩ := trodAll_cons r0
  obtain ⟨rfl, rfl, rfl⟩ := trodAll_nil r1
  obtain rfl : args = #[v0, v1] := by cases args; simp_all
  obtain ⟨rfl, rfl⟩ := trodVars_none hV
  obtain ⟨b0, A, c, cs, A2, c2, fs, rfl, ht⟩ := open_table (hval 0 25 v0 rfl rfl) h0
  obtain ⟨q, rfl, rfl, rfl, w1⟩ := open_int Try.underlying72 (hval 1 72 v1 rfl rfl) h1
  have hq : 0 ≤ q ∧ q ≤ 4294967295 := by
    have h : decide (IntKind.u32.min ≤ q) = true ∧ decide (q ≤ IntKind.u32.max) = true := by simpa [Lit.wf] using w1
    have h1 := of_decide_eq_true h.1
    have h2 := of_decide_eq_true h.2
    have e1 : IntKind.u32.min = 0 := by decide
    have e2 : IntKind.u32.max = 4294967295 := by decide
    omega
  refine (all_any b0 A c cs A2 c2 fs q W ht hq.1 hq.2).mono fun e W' ⟨he, hb⟩ => ⟨_, he, ?_⟩
  exact law_post laid_out rfl rfl (by kernel_rfl) hW' rfl hb

theorem all_over : Rows.roundAllRow.holds Try.pinned (OpenSpec.ofChange Rows.roundAllSpec) :=
  OpenClaim.holds_of_wide 12 Try.f12 rfl rfl rfl rfl rfl rfl rfl ⟨rfl, rfl, rfl, rfl, rfl⟩ rfl rfl rfl rfl rfl (by kernel_rfl) Try.func12 (by kernel_rfl)
    (of_decide_eq_true (by kernel_rfl)) (by unfold Func.isWrapper; first | (rw [if_pos (by decide +kernel)]; kernel_rfl) | (rw [if_neg (by decide +kernel)]; exact ⟨rfl, rfl⟩))
    (fun os started H enc _ => all_lifted os started H enc)
/-- the statement -/
theorem round_all : Rows.RoundAllSaid := all_over
#print axioms round_all
end Go.Proofs.Ytgoianldiomdoaa
