/- For every table, the numbers of the best rounding add up, and a table without fixes has a rounding: the statement RoundAdds. No condition. -/
import Derived.Test.YtgoianldiomdoaaG11
namespace Go.Proofs.Ytgoianldiomdoaa
open Go.RowKit Go.Shelf

theorem none_fix {b : Int} {cs : List (List Int)} {fs : List Fx} (ok : TOk b cs fs) (hw : (spec b cs fs cs.length zeroS).ways = 0) : 0 < fs.length := by
  cases fs with
  | nil =>
    obtain ⟨x, hx⟩ := plain_rounding ok
    exact absurd hx (none_plain hw)
  | cons f fs => simp
theorem best_change {b : Int} {cs : List (List Int)} {fs : List Fx} (ok : TOk b cs fs) : 0 ≤ (spec b cs fs cs.length zeroS).change ∧ (spec b cs fs cs.length zeroS).change ≤ 250000 := by
  have h := (bnd_spec ok cs.length (Nat.le_refl _) zeroS).1
  have := h.c1; have := h.c2; have := ok.okc.n2
  omega
theorem best_pr {b : Int} {cs : List (List Int)} {fs : List Fx} (hc : chkE b cs fs = 0) (hw : (spec b cs fs cs.length zeroS).ways ≠ 0) (ch : Int) : proveB b cs fs (bestOf b cs fs cs.length zeroS) ch = decide ((spec b cs fs cs.length zeroS).change ≤ ch) := by
  have hR := best_isR hw
  rw [Bool.eq_iff_iff, prove_iff hc (hR.alike (chk_ok hc)), decide_eq_true_eq, (best_plain hw).2]
  exact ⟨fun h => h.2, fun h => ⟨hR, h⟩⟩

set_option maxRecDepth 100000 in
set_option maxHeartbeats 1000000 in
theorem adds_not (b : Int) (A : Option Addr) (c : Nat) (cs : List (List Int)) (A2 : Option Addr) (c2 : Nat) (fs : List Fx) (w : World) (h : TIn A c cs A2 c2 fs w) (hr : readyB b cs fs = false) :
    Calls Try.prog 11 #[.agg #[.int .i64 b, .slice A cs.length c, .slice A2 fs.length c2]] w fun e w' => e = .returned (.bool true) ∧ Below w.heap.size w w' := by
  have hB := below_box (w := w) #[.int .i64 b, .slice A cs.length c, .slice A2 fs.length c2] 25
  have hT := Blk.new w 25 #[.int .i64 b, .slice A cs.length c, .slice A2 fs.length c2]
  have HB0 := hid hB
  have HT0 := hid hT
  have HH := hid h
  obtain ⟨t0, t1, t2⟩ := hT.c3
  clear h hB hT
  have HRD := hid hr
  clear hr
  go_enter Try.func11, Try.ntmps11
  have K1 := hid (ready_any b A c cs A2 c2 fs _ (HH.out.at_ HB0.out))
  rw [HRD.out] at K1
  go_wp2_with fail
  refine K1.out.mono ?_
  rintro e w1 ⟨rfl, hb⟩
  have HB1 := hid (HB0.out.trans (hb.mono HB0.out.size))
  have HT1 := hid (HT0.out.keep hb)
  clear hb K1 t0 t1 t2
  obtain ⟨t0, t1, t2⟩ := HT1.out.c3
  have K2 := hid (awake_any w1)
  go_wp2_with fail
  refine K2.out.mono ?_
  rintro e w2 ⟨rfl, hb⟩
  have HB2 := hid (HB1.out.trans (hb.mono HB1.out.size))
  have HT2 := hid (HT1.out.keep hb)
  clear hb K2 t0 t1 t2
  obtain ⟨t0, t1, t2⟩ := HT2.out.c3
  clear t0 t1 t2
  go_wp2
  go_ret
  exact ⟨rfl, HB2.out⟩

set_option maxRecDepth 100000 in
set_option maxHeartbeats 1000000 in
theorem adds_none (b : Int) (A : Option Addr) (c : Nat) (cs : List (List Int)) (A2 : Option Addr) (c2 : Nat) (fs : List Fx) (w : World) (h : TIn A c cs A2 c2 fs w) (hr : readyB b cs fs = true) (hw : (spec b cs fs cs.length zeroS).ways = 0) :
    Calls Try.prog 11 #[.agg #[.int .i64 b, .slice A cs.length c, .slice A2 fs.length c2]] w fun e w' => e = .returned (.bool true) ∧ Below w.heap.size w w' := by
  have hB := below_box (w := w) #[.int .i64 b, .slice A cs.length c, .slice A2 fs.length c2] 25
  have hT := Blk.new w 25 #[.int .i64 b, .slice A cs.length c, .slice A2 fs.length c2]
  have HB0 := hid hB
  have HT0 := hid hT
  have HH := hid h
  obtain ⟨t0, t1, t2⟩ := hT.c3
  clear h hB hT
  have HRD := hid hr
  have HCK := hid (ready_chk hr)
  have OK := hid (chk_ok (ready_chk hr))
  have hn5 := OK.out.okc.n2
  have hn1 := OK.out.okc.n1
  have hc4 := OK.out.okc.c2
  have hf100 := OK.out.n
  have hb1 := OK.out.okc.b1
  have HCX := hid (fun (xs : List Int) (hx : xs ∈ cs) => show xs.length ≤ 1000 by have := OK.out.okc.row xs hx; omega)
  clear hr
  have HWS := hid hw
  have hfx := none_fix OK.out hw
  have hfI : (0 : Int) < (fs.length : Int) := by omega
  clear hw
  go_enter Try.func11, Try.ntmps11
  have K1 := hid (ready_any b A c cs A2 c2 fs _ (HH.out.at_ HB0.out))
  rw [HRD.out] at K1
  go_wp2_with fail
  refine K1.out.mono ?_
  rintro e w1 ⟨rfl, hb⟩
  have HB1 := hid (HB0.out.trans (hb.mono HB0.out.size))
  have HT1 := hid (HT0.out.keep hb)
  clear hb K1 t0 t1 t2
  obtain ⟨t0, t1, t2⟩ := HT1.out.c3
  have K2 := hid (table_any b A c cs A2 c2 fs w1 (HH.out.at_ HB1.out) (by omega) HCX.out (by omega))
  go_wp2_with fail
  refine K2.out.mono ?_
  rintro e w2 ⟨P1, p1, Q1, q1, rfl, hti, hb⟩
  have HB2 := hid (HB1.out.trans (hb.mono HB1.out.size))
  have HT2 := hid (HT1.out.keep hb)
  have TI1 := hid hti
  clear hti
  clear hb K2 t0 t1 t2
  obtain ⟨t0, t1, t2⟩ := HT2.out.c3
  have KB := hid (best_any b P1 p1 cs Q1 q1 fs w2 TI1.out)
  simp only [HCK.out, HWS.out, ne_eq, not_true_eq_false, if_false, if_true] at KB
  have K3 := hid (KB.out)
  go_wp2_with fail
  refine K3.out.mono ?_
  rintro e w3 ⟨rfl, hb⟩
  have HB3 := hid (HB2.out.trans (hb.mono HB2.out.size))
  have HT3 := hid (HT2.out.keep hb)
  clear hb K3 t0 t1 t2 KB
  obtain ⟨t0, t1, t2⟩ := HT3.out.c3
  have K4 := hid (awake_any w3)
  go_wp2_with fail
  refine K4.out.mono ?_
  rintro e w4 ⟨rfl, hb⟩
  have HB4 := hid (HB3.out.trans (hb.mono HB3.out.size))
  have HT4 := hid (HT3.out.keep hb)
  clear hb K4 t0 t1 t2
  obtain ⟨t0, t1, t2⟩ := HT4.out.c3
  clear t0 t1 t2
  go_wp2
  go_ret
  exact ⟨rfl, HB4.out⟩

set_option maxRecDepth 100000 in
set_option maxHeartbeats 1000000 in
theorem adds_some (b : Int) (A : Option Addr) (c : Nat) (cs : List (List Int)) (A2 : Option Addr) (c2 : Nat) (fs : List Fx) (w : World) (h : TIn A c cs A2 c2 fs w) (hr : readyB b cs fs = true) (hw : ¬ (spec b cs fs cs.length zeroS).ways = 0) :
    Calls Try.prog 11 #[.agg #[.int .i64 b, .slice A cs.length c, .slice A2 fs.length c2]] w fun e w' => e = .returned (.bool true) ∧ Below w.heap.size w w' := by
  have hB := below_box (w := w) #[.int .i64 b, .slice A cs.length c, .slice A2 fs.length c2] 25
  have hT := Blk.new w 25 #[.int .i64 b, .slice A cs.length c, .slice A2 fs.length c2]
  have HB0 := hid hB
  have HT0 := hid hT
  have HH := hid h
  obtain ⟨t0, t1, t2⟩ := hT.c3
  clear h hB hT
  have HRD := hid hr
  have HCK := hid (ready_chk hr)
  have OK := hid (chk_ok (ready_chk hr))
  have hn5 := OK.out.okc.n2
  have hn1 := OK.out.okc.n1
  have hc4 := OK.out.okc.c2
  have hf100 := OK.out.n
  have hb1 := OK.out.okc.b1
  have HCX := hid (fun (xs : List Int) (hx : xs ∈ cs) => show xs.length ≤ 1000 by have := OK.out.okc.row xs hx; omega)
  clear hr
  have HWS := hid hw
  have HCB := hid (best_change OK.out)
  have hR := best_isR hw
  have hba := hR.alike OK.out
  have HBA := hid (alike_rows hba)
  have HBK := hid (ralk_of hba)
  have HAL := hid hba
  have HIS := hid ((isr_iff HCK.out hba).2 hR)
  have HP1 := hid (show proveB b cs fs (bestOf b cs fs cs.length zeroS) (spec b cs fs cs.length zeroS).change = true by rw [best_pr HCK.out hw]; simp)
  have HP2 := hid (show proveB b cs fs (bestOf b cs fs cs.length zeroS) ((spec b cs fs cs.length zeroS).change - 1) = false by rw [best_pr HCK.out hw]; simp; omega)
  have HNR := hid (fun j xs cells hx hc => best_near (fs := fs) hb1 hw (j := j) (xs := xs) (cells := cells) hx hc)
  have hb2 := OK.out.okc.b2
  clear hw hR hba
  go_enter Try.func11, Try.ntmps11
  have K1 := hid (ready_any b A c cs A2 c2 fs _ (HH.out.at_ HB0.out))
  rw [HRD.out] at K1
  go_wp2_with fail
  refine K1.out.mono ?_
  rintro e w1 ⟨rfl, hb⟩
  have HB1 := hid (HB0.out.trans (hb.mono HB0.out.size))
  have HT1 := hid (HT0.out.keep hb)
  clear hb K1 t0 t1 t2
  obtain ⟨t0, t1, t2⟩ := HT1.out.c3
  have K2 := hid (table_any b A c cs A2 c2 fs w1 (HH.out.at_ HB1.out) (by omega) HCX.out (by omega))
  go_wp2_with fail
  refine K2.out.mono ?_
  rintro e w2 ⟨P1, p1, Q1, q1, rfl, hti, hb⟩
  have HB2 := hid (HB1.out.trans (hb.mono HB1.out.size))
  have HT2 := hid (HT1.out.keep hb)
  have TI1 := hid hti
  clear hti
  clear hb K2 t0 t1 t2
  obtain ⟨t0, t1, t2⟩ := HT2.out.c3
  have KB := hid (best_any b P1 p1 cs Q1 q1 fs w2 TI1.out)
  simp only [HCK.out, ne_eq, not_true_eq_false, if_false] at KB
  simp only [if_neg HWS.out] at KB
  go_wp2_with fail
  refine KB.out.mono ?_
  rintro e wb ⟨A5, c5, rfl, g1, g2, g3, g4, g5, hb⟩
  have HB3 := hid (HB2.out.trans (hb.mono HB2.out.size))
  have HT3 := hid (HT2.out.keep hb)
  have HGL := hid (And.intro g1 (And.intro g2 g3))
  clear hb t0 t1 t2 KB g1 g2 g3 g4 g5
  obtain ⟨t0, t1, t2⟩ := HT3.out.c3
  have B0 := hid (Below.refl wb.heap.size wb)
  generalize hchg : (spec b cs fs cs.length zeroS).change = chg
  have HCHG := hid hchg
  clear hchg
  rw [HCHG.out] at HP1 HP2 HCB
  have HBL := hid (bestOf_len (b := b) (cs := cs) (fs := fs) cs.length zeroS)
  obtain ⟨hcb1, hcb2⟩ := HCB.out
  generalize hbs : bestOf b cs fs cs.length zeroS = bs at *
  have HBS := hid hbs
  clear hbs
  have KRA := ralike_any (.int .i64 b) A c cs A2 c2 fs A5 c5 bs wb (HH.out.at_ HB3.out) (HGL.out.1.at_ B0.out) (by rw [HBL.out]; omega)
  rw [HBL.out, HBK.out] at KRA
  have KRA := hid KRA
  have K4 := hid (KRA.out)
  go_wp2_with fail
  refine K4.out.mono ?_
  rintro e w4 ⟨rfl, hb⟩
  have HB4 := hid (HB3.out.trans (hb.mono HB3.out.size))
  have HT4 := hid (HT3.out.keep hb)
  have B4 := hid (B0.out.trans (hb.mono B0.out.size))
  clear hb K4 t0 t1 t2 KRA
  obtain ⟨t0, t1, t2⟩ := HT4.out.c3
  have hm5 := HGL.out.2.2
  have hm1 := HH.out.m1
  have hl1 := HH.out.l1
  have hl5 := HGL.out.2.1
  unfold maxLen at hm5 hm1
  clear t0 t1 t2
  go_wp2
  go_loopw [6] (fun i wr => ∃ k : Nat, k ≤ cs.length ∧ i = .int .i64 k ∧ Below w4.heap.size w4 wr) (fun i _ => cs.length - (intOf i).toNat)
  case atStart => exact ⟨0, Nat.zero_le _, rfl, Below.refl _ _⟩
  case round =>
    obtain ⟨k, hk, rfl, hbr⟩ := hrel
    have HBR := hid hbr
    clear hbr
    by_cases hlt : k < cs.length
    · have hkI : (k : Int) < (cs.length : Int) := by omega
      go_wp2
      go_loopw [7] (fun i W => ∃ j : Nat, j ≤ colsOf cs ∧ i = .int .i64 j ∧ Below w4.heap.size w4 W) (fun i _ => colsOf cs - (intOf i).toNat)
      case atStart => exact ⟨0, Nat.zero_le _, rfl, HBR.out⟩
      case round =>
        obtain ⟨j, hj, rfl, hbj⟩ := hrel
        obtain ⟨xs, hxs⟩ : ∃ xs, bs[k]? = some xs := ⟨_, List.getElem?_eq_getElem (by rw [HBL.out]; exact hlt)⟩
        obtain ⟨ys, hys⟩ : ∃ ys, cs[k]? = some ys := ⟨_, List.getElem?_eq_getElem hlt⟩
        obtain ⟨hxl, hxb⟩ := HBA.out.2 xs (List.mem_of_getElem? hxs)
        have hyl := OK.out.okc.row ys (List.mem_of_getElem? hys)
        have hnear := (HNR.out k xs ys hxs hys).2
        obtain ⟨a', A1', c1', rfl, q1, q2, q3, q4, q5⟩ := (HGL.out.1.at_ (B4.out.trans (hbj.mono B4.out.size))) k xs hxs
        obtain ⟨a, A1, c1, rfl, p1, p2, p3, p4, p5⟩ := (HH.out.at_ (HB4.out.trans (hbj.mono HB4.out.size))).ic k ys hys
        rw [hxl] at q2 q3
        rw [hyl] at p2 p3
        unfold maxLen at p4 q4
        by_cases hlj : j < colsOf cs
        · have hjI : (j : Int) < (colsOf cs : Int) := by omega
          obtain ⟨y, hy⟩ : ∃ y, xs[j]? = some y := ⟨_, List.getElem?_eq_getElem (by omega)⟩
          obtain ⟨x, hx⟩ : ∃ x, ys[j]? = some x := ⟨_, List.getElem?_eq_getElem (by omega)⟩
          obtain ⟨ax, rfl, u1, u2⟩ := q5 j y hy
          obtain ⟨ay, rfl, v1, v2⟩ := p5 j x hx
          have hyb := hxb y (List.mem_of_getElem? hy)
          have hxb2 := OK.out.okc.cell ys (List.mem_of_getElem? hys) x (List.mem_of_getElem? hx)
          obtain ⟨z1, z2, z3⟩ := hnear j x y hx hy
          have hw1 : IntKind.i64.wrap (y - x) = y - x := IntWalk.i64_in _ (by omega)
          have hw2 : IntKind.i64.wrap (1 - b) = 1 - b := IntWalk.i64_in _ (by omega)
          have hw3 : IntKind.i64.wrap (b - 1) = b - 1 := IntWalk.i64_in _ (by omega)
          have T1 := hid (show ∀ q, Calls Try.prog 27 #[.int .i64 (y - x), .int .i64 (1 - b), .int .i64 (b - 1)] (xt wr q) fun e w' => e = .returned (.bool true) ∧ Below (xt wr q).heap.size (xt wr q) w' from
            fun q => by have := Calls.same_below (in_any (y - x) (1 - b) (b - 1) (xt wr q)); rwa [show withinB (y - x) (1 - b) (b - 1) = true by simp [withinB]; omega] at this)
          obtain ⟨t0, t1, t2⟩ := xt_c3 (HT4.out.keep hbj)
          have s1 := xt_cell q2
          have s2 := xt_cell p2
          have s3 := xt_cell u2
          have s4 := xt_cell v2
          have HBJ := hid hbj
          clear hnear p2 p5 q5 u2 v2 hy hx hxs hys hbj z1
          go_wp2
          clear q2
          refine wp_region_quiet_xt (by kernel_rfl) (by kernel_rfl) ?_
          repeat (go_big_quiet_step ((go_at_call 27; with_reducible exact Calls.xt (T1.out _))))
          refine wpQuiet_nil ?_
          intro W3 hw3
          replace hw3 := of_xt hw3
          have HW3 := hid (HBJ.out.trans (hw3.mono HBJ.out.size))
          clear hw3 s1 s2 s3 s4 t0 t1 t2 hw1 hw2
          go_wp2
          go_roundw
          case rel => exact ⟨j + 1, by omega, by go_num, HW3.out⟩
          case measure => first | (simp [intOf]; done) | (simp [intOf]; omega)
        · have hjI : decide ((j : Int) < (colsOf cs : Int)) = false := decide_eq_false (by omega)
          have HBJ := hid hbj
          clear hnear p2 p5 q5 hxs hys hbj
          go_wp2
          go_roundw
          case rel => exact ⟨k + 1, by omega, by go_num, HBJ.out⟩
          case measure => first | (simp [intOf]; done) | (simp [intOf]; omega)
    · have hkI : decide ((k : Int) < (cs.length : Int)) = false := decide_eq_false (by omega)
      have HBX := hid (HB4.out.trans (HBR.out.mono HB4.out.size))
      have HTX := hid (HT4.out.keep HBR.out)
      have BX := hid (B4.out.trans (HBR.out.mono B4.out.size))
      obtain ⟨t0, t1, t2⟩ := HTX.out.c3
      have K5 := hid (isr_any b A c cs A2 c2 fs A5 c5 bs wr (HH.out.at_ HBX.out) (HGL.out.1.at_ BX.out) HCK.out HAL.out)
      rw [HIS.out, HBL.out] at K5
      go_wp2_with fail
      refine K5.out.mono ?_
      rintro e w5 ⟨rfl, hb⟩
      have HB5 := hid (HBX.out.trans (hb.mono HBX.out.size))
      have HT5 := hid (HTX.out.keep hb)
      have B5 := hid (BX.out.trans (hb.mono BX.out.size))
      clear hb K5 t0 t1 t2
      obtain ⟨t0, t1, t2⟩ := HT5.out.c3
      have K6 := hid (table_any b A c cs A2 c2 fs w5 (HH.out.at_ HB5.out) (by omega) HCX.out (by omega))
      go_wp2_with fail
      refine K6.out.mono ?_
      rintro e w6 ⟨P2, p2, Q2, q2, rfl, hti, hb⟩
      have HB6 := hid (HB5.out.trans (hb.mono HB5.out.size))
      have HT6 := hid (HT5.out.keep hb)
      have B6 := hid (B5.out.trans (hb.mono B5.out.size))
      have TI2 := hid hti
      clear hti
      clear hb K6 t0 t1 t2
      obtain ⟨t0, t1, t2⟩ := HT6.out.c3
      have K7 := hid (prove_any b P2 p2 cs Q2 q2 fs A5 c5 bs chg w6 TI2.out (HGL.out.1.at_ B6.out) (by rw [HBL.out]; exact HGL.out.2.1) HGL.out.2.2)
      rw [HP1.out, HBL.out] at K7
      go_wp2_with fail
      refine K7.out.mono ?_
      rintro e w7 ⟨rfl, hb⟩
      have HB7 := hid (HB6.out.trans (hb.mono HB6.out.size))
      have HT7 := hid (HT6.out.keep hb)
      have B7 := hid (B6.out.trans (hb.mono B6.out.size))
      clear hb K7 t0 t1 t2
      obtain ⟨t0, t1, t2⟩ := HT7.out.c3
      have K8 := hid (table_any b A c cs A2 c2 fs w7 (HH.out.at_ HB7.out) (by omega) HCX.out (by omega))
      go_wp2_with fail
      refine K8.out.mono ?_
      rintro e w8 ⟨P3, p3, Q3, q3, rfl, hti, hb⟩
      have HB8 := hid (HB7.out.trans (hb.mono HB7.out.size))
      have HT8 := hid (HT7.out.keep hb)
      have B8 := hid (B7.out.trans (hb.mono B7.out.size))
      have TI3 := hid hti
      clear hti
      clear hb K8 t0 t1 t2
      obtain ⟨t0, t1, t2⟩ := HT8.out.c3
      have K9 := hid (prove_any b P3 p3 cs Q3 q3 fs A5 c5 bs (chg - 1) w8 TI3.out (HGL.out.1.at_ B8.out) (by rw [HBL.out]; exact HGL.out.2.1) HGL.out.2.2)
      rw [HP2.out, HBL.out] at K9
      go_wp2_with fail
      refine K9.out.mono ?_
      rintro e w9 ⟨rfl, hb⟩
      have HB9 := hid (HB8.out.trans (hb.mono HB8.out.size))
      have HT9 := hid (HT8.out.keep hb)
      have B9 := hid (B8.out.trans (hb.mono B8.out.size))
      clear hb K9 t0 t1 t2
      obtain ⟨t0, t1, t2⟩ := HT9.out.c3
      have K10 := hid (awake_any w9)
      go_wp2_with fail
      refine K10.out.mono ?_
      rintro e w10 ⟨rfl, hb⟩
      have HB10 := hid (HB9.out.trans (hb.mono HB9.out.size))
      have HT10 := hid (HT9.out.keep hb)
      have B10 := hid (B9.out.trans (hb.mono B9.out.size))
      clear hb K10 t0 t1 t2
      obtain ⟨t0, t1, t2⟩ := HT10.out.c3
      clear t0 t1 t2
      go_wp2
      go_ret
      exact ⟨rfl, HB10.out⟩
theorem adds_any (b : Int) (A : Option Addr) (c : Nat) (cs : List (List Int)) (A2 : Option Addr) (c2 : Nat) (fs : List Fx) (w : World) (h : TIn A c cs A2 c2 fs w) :
    Calls Try.prog 11 #[.agg #[.int .i64 b, .slice A cs.length c, .slice A2 fs.length c2]] w fun e w' => e = .returned (.bool true) ∧ Below w.heap.size w w' := by
  cases hr : readyB b cs fs
  · exact adds_not b A c cs A2 c2 fs w h hr
  · by_cases hw : (spec b cs fs cs.length zeroS).ways = 0
    · exact adds_none b A c cs A2 c2 fs w h hr hw
    · exact adds_some b A c cs A2 c2 fs w h hr hw

open Go.ChangeShapes Go.WideShapes Go.ChangeAt in
set_option maxRecDepth 100000 in
theorem adds_lifted (os : Os) (started : os.Started) (H : Type) (enc : TypeId × Value → H) :
    ReturnsInHanded {} Try.checked os 11 .any (Rows.roundAddsSpec.pre6 enc Try.prog Try.f11 Rows.roundAddsRow.domain false) (Rows.roundAddsSpec.post enc Try.prog Try.f11 false true false false) := by
  refine returnsInHanded_of_change (C := Try.checked) own started (by kernel_rfl) Try.func11
    (ChangeSpec.witness6 (enc := enc) (C := Try.checked) false ⟨#[], #[.agg #[.int .i64 0, .slice none 0 0, .slice none 0 0]], []⟩ 8 (by kernel_rfl) (by kernel_rfl) (by kernel_rfl) (by kernel_rfl)) ?_
  intro W base args ds gs before hval0 hW hcnd _
  have hval : ∀ (j : Nat) t v, Try.f11.params[j]? = some t → args[j]? = some v → Value.okWide Try.prog W .any base t v := hval0
  have hW' := hW
  obtain ⟨p, q, hA0, hV, rfl, hfz, hnd⟩ := hW
  have hA : DataW.TrodAll enc Try.prog W 0 (fun _ => true) true Try.f11.params.toList args.toList ds p := hA0
  rw [Try.params11] at hA hval
  obtain ⟨v0, vs0, d0, ds0, p0, q0, hargs, rfl, rfl, h0, r0⟩ := trodAll_cons hA
  obtain ⟨rfl, rfl, rfl⟩ := trodAll_nil r0
  obtain rfl : args = #[v0] := by cases args; simp_all
  obtain ⟨rfl, rfl⟩ := trodVars_none hV
  obtain ⟨b0, A, c, cs, A2, c2, fs, rfl, ht⟩ := open_table (hval 0 25 v0 rfl rfl) h0
  refine (adds_any b0 A c cs A2 c2 fs W ht).mono fun e W' ⟨he, hb⟩ => ⟨_, he, ?_⟩
  exact law_post laid_out rfl rfl (by kernel_rfl) hW' rfl hb

theorem adds_over : Rows.roundAddsRow.holds Try.pinned (OpenSpec.ofChange Rows.roundAddsSpec) :=
  OpenClaim.holds_of_wide 11 Try.f11 rfl rfl rfl rfl rfl rfl rfl ⟨rfl, rfl, rfl, rfl, rfl⟩ rfl rfl rfl rfl rfl (by kernel_rfl) Try.func11 (by kernel_rfl)
    (of_decide_eq_true (by kernel_rfl)) (by unfold Func.isWrapper; first | (rw [if_pos (by decide +kernel)]; kernel_rfl) | (rw [if_neg (by decide +kernel)]; exact ⟨rfl, rfl⟩))
    (fun os started H enc _ => adds_lifted os started H enc)
/-- the statement -/
theorem round_adds : Rows.RoundAddsSaid := adds_over
#print axioms round_adds
end Go.Proofs.Ytgoianldiomdoaa
