/- Tables: the tests of a table, its copy, an argument opened; the best rounding's numbers. Conditions stand at each theorem. -/
import Derived.Deep.Matrix
import Derived.Lib.SmallJoins
import Derived.Test.YtgoianldiomdoaaG1
import Derived.Test.YtgoianldiomdoaaG3
import Derived.Test.YtgoianldiomdoaaG4
import Derived.Test.YtgoianldiomdoaaG6
import Derived.Test.YtgoianldiomdoaaG7
/- The reference's error of a table: it is the program's. -/
namespace Go.Proofs.Ytgoianldiomdoaa
open Go.RowKit Go.Shelf

set_option maxHeartbeats 400000 in
theorem rcols_any (b f : Value) (A : Option Addr) (c : Nat) (cs : List (List Int)) (w : World) (hc : IsRows w w.heap.size A cs) :
    Calls Try.prog 34 #[.agg #[b, .slice A cs.length c, f]] w fun e w' => e = .returned (.int .i64 (colsOf cs)) ∧ Below w.heap.size w w' := by
  match cs, hc with
  | [], hc =>
    go_enter Try.func34, Try.ntmps34
    go_wp2
    go_ret
    exact ⟨rfl, (Below.refl _ _).alloc (Nat.le_refl _) _⟩
  | xs :: cs, hc =>
    obtain ⟨a, A', c', rfl, hb, h1, h2, h3, h4⟩ := hc 0 xs rfl
    have h1' : w.cell? a = some (.slice A' xs.length c') := h1
    have hne : ((xs :: cs).length == 0) = false := rfl
    have hneI : (((xs :: cs).length : Int) == 0) = false := by first | (simp; done) | (simp; omega)
    have h0I : (0 : Int) < ((xs :: cs).length : Int) := by first | (simp; done) | (simp; omega)
    have h0N : 0 < (xs :: cs).length := by simp
    have hq : ∀ o, (w.alloc o).cell? a = some (.slice A' xs.length c') := fun o => (((Below.refl _ _).alloc (Nat.le_refl _) _).cell hb).trans h1'
    clear hc h1
    obtain ⟨n, hn⟩ : ∃ n, n = (xs :: cs).length := ⟨_, rfl⟩
    rw [← hn] at hne hneI h0I h0N ⊢
    have HN := hid hn
    clear hn
    go_enter Try.func34, Try.ntmps34
    go_wp2
    go_ret
    exact ⟨rfl, (Below.refl _ _).alloc (Nat.le_refl _) _⟩

/-- what decides the error -/
theorem chk_lim {b : Int} {cs : List (List Int)} {fs : List Fx} (h : 5 < cs.length ∨ 10 < fs.length) : chkE b cs fs = 3 := by
  unfold chkE
  rw [if_pos]
  simp only [Bool.or_eq_true, decide_eq_true_eq]
  omega
theorem chk_wide {b : Int} {cs : List (List Int)} {fs : List Fx} {r : Nat} {xs : List Int} (h : cs[r]? = some xs) (h2 : 4 < xs.length) : chkE b cs fs = 3 := by
  unfold chkE
  rw [if_pos]
  have : cs.all narrowB = false := by
    rw [List.all_eq_false]
    exact ⟨xs, List.mem_of_getElem? h, by simp [narrowB]; omega⟩
  simp [this]
/-- the table is small enough -/
structure Lim (cs : List (List Int)) (fs : List Fx) : Prop where
  l : cs.length ≤ 5
  f : fs.length ≤ 10
  r : ∀ xs ∈ cs, xs.length ≤ 4
theorem chk_else {b : Int} {cs : List (List Int)} {fs : List Fx} (h : Lim cs fs) : chkE b cs fs = if !withinB b 2 100 || ((colsOf cs : Int) == 0) || !cs.all (rowB (colsOf cs) 10000) || !fs.all (fixOkB cs.length (colsOf cs)) then 1 else 0 := by
  unfold chkE
  rw [if_neg]
  have h1 : decide (5 < (cs.length : Int)) = false := by have := h.l; simp; omega
  have h2 : cs.all narrowB = true := List.all_eq_true.2 fun xs hx => by have := h.r xs hx; simp [narrowB]; omega
  have h3 : decide (10 < (fs.length : Int)) = false := by have := h.f; simp; omega
  rw [h1, h2, h3]; simp
theorem chk_base {b : Int} {cs : List (List Int)} {fs : List Fx} (h : Lim cs fs) (hb : withinB b 2 100 = false) : chkE b cs fs = 1 := by rw [chk_else h, hb]; rfl
theorem chk_cols {b : Int} {cs : List (List Int)} {fs : List Fx} (h : Lim cs fs) (hb : colsOf cs = 0) : chkE b cs fs = 1 := by rw [chk_else h, hb]; simp
theorem chk_row {b : Int} {cs : List (List Int)} {fs : List Fx} {r : Nat} {xs : List Int} (h : Lim cs fs) (hr : cs[r]? = some xs) (hb : rowB (colsOf cs) 10000 xs = false) : chkE b cs fs = 1 := by
  rw [chk_else h, if_pos]
  have : cs.all (rowB (colsOf cs) 10000) = false := by
    rw [List.all_eq_false]
    exact ⟨xs, List.mem_of_getElem? hr, by simp [hb]⟩
  simp [this]
theorem chk_fix {b : Int} {cs : List (List Int)} {fs : List Fx} {i : Nat} {f : Fx} (h : Lim cs fs) (hr : fs[i]? = some f) (hb : fixOkB cs.length (colsOf cs) f = false) : chkE b cs fs = 1 := by
  rw [chk_else h, if_pos]
  have : fs.all (fixOkB cs.length (colsOf cs)) = false := by
    rw [List.all_eq_false]
    exact ⟨f, List.mem_of_getElem? hr, by simp [hb]⟩
  simp [this]
theorem chk_fine {b : Int} {cs : List (List Int)} {fs : List Fx} (h : Lim cs fs) (h1 : withinB b 2 100 = true) (h2 : colsOf cs ≠ 0) (h3 : ∀ xs ∈ cs, rowB (colsOf cs) 10000 xs = true) (h4 : ∀ f ∈ fs, fixOkB cs.length (colsOf cs) f = true) : chkE b cs fs = 0 := by
  rw [chk_else h, if_neg]
  have e2 : ((colsOf cs : Int) == 0) = false := by simp; omega
  rw [h1, e2, List.all_eq_true.2 h3, List.all_eq_true.2 h4]; simp

set_option maxRecDepth 100000 in
set_option maxHeartbeats 4000000 in
theorem fault_any (b : Int) (A : Option Addr) (c : Nat) (cs : List (List Int)) (A2 : Option Addr) (c2 : Nat) (fs : List Fx) (w : World) (h : TIn A c cs A2 c2 fs w) :
    Calls Try.prog 56 #[.agg #[.int .i64 b, .slice A cs.length c, .slice A2 fs.length c2]] w fun e w' => e = .returned (.int .i64 (chkE b cs fs)) ∧ Below w.heap.size w w' := by
  have hB := below_box (w := w) #[.int .i64 b, .slice A cs.length c, .slice A2 fs.length c2] 25
  have hT := Blk.new w 25 #[.int .i64 b, .slice A cs.length c, .slice A2 fs.length c2]
  have hl1 := h.l1
  have hm1 := h.m1
  have hl2 := h.l2
  have hm2 := h.m2
  unfold maxLen at hm1 hm2
  have H1 := hid (And.intro hT (And.intro (h.at_ hB) hB))
  clear h hT hB
  by_cases hlim : 5 < cs.length ∨ 10 < fs.length
  · have HE := hid (chk_lim (b := b) hlim)
    by_cases h5 : 5 < cs.length
    · have h5I : (5 : Int) < (cs.length : Int) := by omega
      clear hlim h5
      go_enter Try.func56, Try.ntmps56
      go_wp2
      go_ret
      exact ⟨ret_int HE.out.symm, H1.out.2.2⟩
    · have h5I : decide ((5 : Int) < (cs.length : Int)) = false := by simp; omega
      have h10I : (10 : Int) < (fs.length : Int) := by omega
      clear hlim h5
      go_enter Try.func56, Try.ntmps56
      go_wp2
      go_ret
      exact ⟨ret_int HE.out.symm, H1.out.2.2⟩
  have hl5 : cs.length ≤ 5 := by omega
  have hl10 : fs.length ≤ 10 := by omega
  have h5I : decide ((5 : Int) < (cs.length : Int)) = false := by simp; omega
  have h10I : decide ((10 : Int) < (fs.length : Int)) = false := by simp; omega
  clear hlim
  go_enter Try.func56, Try.ntmps56
  go_wp2
  refine gen (p := Code.wp _ _ _ _) (fun W => Blk W w.heap.size 25 #[.int .i64 b, .slice A cs.length c, .slice A2 fs.length c2] ∧ TIn A c cs A2 c2 fs W ∧ Below w.heap.size w W) H1.out ?_
  intro W1 hW1
  have HW := hid hW1
  clear hW1 H1
  obtain ⟨t0, t1, t2⟩ := HW.out.1.c3
  go_loop [3] (fun i => ∃ k : Nat, k ≤ cs.length ∧ i = .int .i64 k ∧ ∀ r xs, r < k → cs[r]? = some xs → xs.length ≤ 4) (fun i => cs.length - (intOf i).toNat)
  case atStart => exact ⟨0, Nat.zero_le _, rfl, fun r xs hr => absurd hr (Nat.not_lt_zero _)⟩
  case round =>
    obtain ⟨k, hk, rfl, hno⟩ := hrel
    have HN := hid hno
    clear hno
    by_cases hlt : k < cs.length
    · obtain ⟨x, hx⟩ : ∃ x, cs[k]? = some x := ⟨_, List.getElem?_eq_getElem hlt⟩
      obtain ⟨a, A', c', rfl, hab, hac, q1, q2, q3⟩ := HW.out.2.1.ic k x hx
      have hkI : (k : Int) < (cs.length : Int) := by omega
      have HX := hid hx
      unfold maxLen at q2
      clear hx q3
      by_cases h4 : 4 < x.length
      · have h4I : (4 : Int) < (x.length : Int) := by omega
        have HE := hid (chk_wide (b := b) (fs := fs) HX.out h4)
        clear h4
        go_wp2
        go_ret
        exact ⟨ret_int HE.out.symm, HW.out.2.2⟩
      · have h4I : decide ((4 : Int) < (x.length : Int)) = false := by simp; omega
        have HX4 := hid h4
        clear h4
        go_wp2
        go_round
        case rel =>
          refine ⟨k + 1, hlt, by go_num, fun r xs hr hxs => ?_⟩
          by_cases e : r = k
          · subst e
            rw [HX.out] at hxs
            injection hxs with hxs
            subst hxs
            have := HX4.out
            omega
          · exact HN.out r xs (by omega) hxs
        case measure => first | (simp [intOf]; done) | (simp [intOf]; omega)
    · obtain rfl : k = cs.length := by omega
      have hkI : decide ((cs.length : Int) < (cs.length : Int)) = false := by simp
      have LIM := hid (show Lim cs fs from ⟨hl5, hl10, fun xs hx => by
        obtain ⟨r, hr⟩ := List.getElem?_of_mem hx
        exact HN.out r xs (List.getElem?_eq_some_iff.1 hr).1 hr⟩)
      have K1 := hid (fun W => in_any b 2 100 W)
      cases hb : withinB b 2 100
      · have HE := hid (chk_base (b := b) LIM.out hb)
        rw [hb] at K1
        clear hb
        go_wp2_with fail
        refine (K1.out _).mono ?_
        rintro e w3 ⟨rfl, rfl⟩
        go_wp2
        go_ret
        exact ⟨ret_int HE.out.symm, HW.out.2.2⟩
      · rw [hb] at K1
        have HBB := hid hb
        clear hb
        have KC := hid (fun (W : World) (hW : Below W1.heap.size W1 W) => rcols_any (.int .i64 b) (.slice A2 fs.length c2) A c cs W (HW.out.2.1.at_ hW).ic)
        go_wp2_with fail
        refine (K1.out _).mono ?_
        rintro e w3 ⟨rfl, rfl⟩
        go_wp2_with fail
        refine (KC.out _ (Below.refl _ _)).mono ?_
        rintro e W2 ⟨rfl, hb2⟩
        by_cases hc0 : colsOf cs = 0
        · have HE := hid (chk_cols (b := b) LIM.out hc0)
          rw [hc0]
          clear hc0
          go_wp2
          go_ret
          exact ⟨ret_int HE.out.symm, HW.out.2.2.trans (hb2.mono HW.out.2.2.size)⟩
        · have hc0I : ((colsOf cs : Int) == 0) = false := by simp; omega
          have HC0 := hid hc0
          have HB2 := hid hb2
          clear hc0 hb2 t0 t1 t2
          go_wp2
          clear hc0I
          have HBE := hid (show Below W1.heap.size W1 W2 from HB2.out)
          have KI := hid (fun (x : Int) (W : World) => in_any x 0 10000 W)
          go_loopw [4] (fun i wr => ∃ k : Nat, k ≤ cs.length ∧ i = .int .i64 k ∧ Below W1.heap.size W1 wr ∧ ∀ (r : Nat) (xs : List Int), r < k → cs[r]? = some xs → rowB (colsOf cs) 10000 xs = true) (fun i _ => cs.length - (intOf i).toNat)
          case atStart => exact ⟨0, Nat.zero_le _, rfl, HBE.out, fun r xs hr => absurd hr (Nat.not_lt_zero _)⟩
          case round =>
            obtain ⟨k, hk, rfl, hbr, hrk⟩ := hrel
            have HR := hid (And.intro hbr hrk)
            have hTr := HW.out.1.keep hbr
            obtain ⟨t0, t1, t2⟩ := hTr.c3
            have hltT := hTr.lt
            by_cases hlt : k < cs.length
            · obtain ⟨x, hx⟩ : ∃ x, cs[k]? = some x := ⟨_, List.getElem?_eq_getElem hlt⟩
              obtain ⟨a, A', c', rfl, hab, hac, p1, p2, p3⟩ := (HW.out.2.1.at_ hbr).ic k x hx
              have hx4 := LIM.out.r x (List.mem_of_getElem? hx)
              have hkI : (k : Int) < (cs.length : Int) := by omega
              have HX := hid hx
              have q0 := xt_cell t0
              have q1 := xt_cell t1
              have q2 := xt_cell t2
              have q3 := xt_cell hac
              have KCx := hid (fun q => KC.out (xt wr q) (hbr.trans ((below_xt wr q).mono hbr.size)))
              unfold maxLen at p2
              clear hx hbr hrk hTr p3
              go_wp2
              refine wp_region_quiet_xt (by kernel_rfl) (by kernel_rfl) ?_
              repeat (go_big_quiet_step ((go_at_call 34; exact Calls.xt (KCx.out _))))
              refine wpQuiet_nil ?_
              intro W3 hw3
              replace hw3 := of_xt hw3
              have HW3 := hid (HR.out.1.trans (hw3.mono HR.out.1.size))
              clear hw3 q0 q1 q2 q3 KCx t0 t1 t2 hltT hac
              by_cases hxl : x.length = colsOf cs
              · have hd : ((x.length : Int) != (colsOf cs : Int)) = false := by rw [hxl]; simp
                simp only [hd]
                have HXL := hid hxl
                clear hxl hd
                go_wp2
                go_loopw [5] (fun i wr => ∃ j : Nat, j ≤ x.length ∧ i = .int .i64 j ∧ Below W1.heap.size W1 wr ∧ ∀ (i : Nat) (u : Int), i < j → x[i]? = some u → withinB u 0 10000 = true) (fun i _ => x.length - (intOf i).toNat)
                case atStart => exact ⟨0, Nat.zero_le _, rfl, HW3.out, fun i u hi => absurd hi (Nat.not_lt_zero _)⟩
                case round =>
                  obtain ⟨j, hj, rfl, hbj, hjk⟩ := hrel
                  have HJ := hid (And.intro hbj hjk)
                  have hTr := HW.out.1.keep hbj
                  obtain ⟨t0, t1, t2⟩ := hTr.c3
                  clear hjk
                  by_cases hlj : j < x.length
                  · have hjI : (j : Int) < (colsOf cs : Int) := by have := HXL.out; omega
                    clear hbj hTr
                    go_wp2_with fail
                    refine (KC.out _ HJ.out.1).mono ?_
                    rintro e W4 ⟨rfl, hb4⟩
                    have HB4 := hid (HJ.out.1.trans (hb4.mono HJ.out.1.size))
                    clear hb4 t0 t1 t2
                    obtain ⟨a2, A2', c2', he, a1', a2', a3', a4', a5'⟩ := (HW.out.2.1.at_ HB4.out).ic k x HX.out
                    injection he with he
                    subst he
                    obtain ⟨u, hu⟩ : ∃ u, x[j]? = some u := ⟨_, List.getElem?_eq_getElem hlj⟩
                    obtain ⟨ax, rfl, b1, b2⟩ := a5' j u hu
                    obtain ⟨t0, t1, t2⟩ := (HW.out.1.keep HB4.out).c3
                    have hjI2 : (j : Int) < (x.length : Int) := by omega
                    have HU := hid hu
                    have KU := hid (fun W => KI.out u W)
                    clear a5' hu a4'
                    cases hw : withinB u 0 10000
                    · have HE := hid (chk_row (b := b) LIM.out HX.out (by
                        unfold rowB
                        have : (x.all fun x => withinB x 0 10000) = false := by
                          rw [List.all_eq_false]
                          exact ⟨u, List.mem_of_getElem? HU.out, by simp [hw]⟩
                        rw [this]; simp))
                      rw [hw] at KU
                      clear hw
                      go_wp2_with fail
                      refine (KU.out _).mono ?_
                      rintro e W5 ⟨rfl, rfl⟩
                      go_wp2
                      go_ret
                      exact ⟨ret_int HE.out.symm, HW.out.2.2.trans (HB4.out.mono HW.out.2.2.size)⟩
                    · rw [hw] at KU
                      have HWI := hid hw
                      clear hw
                      go_wp2_with fail
                      refine (KU.out _).mono ?_
                      rintro e W5 ⟨rfl, rfl⟩
                      go_wp2
                      go_roundw
                      case rel =>
                        refine ⟨j + 1, hlj, by go_num, HB4.out, fun i v hi hv => ?_⟩
                        by_cases e : i = j
                        · subst e
                          rw [HU.out] at hv
                          injection hv with hv
                          subst hv
                          exact HWI.out
                        · exact HJ.out.2 i v (by omega) hv
                      case measure => first | (simp [intOf]; done) | (simp [intOf]; omega)
                  · have hjI : decide ((j : Int) < (colsOf cs : Int)) = false := by have := HXL.out; simp; omega
                    clear hbj hTr
                    go_wp2_with fail
                    refine (KC.out _ HJ.out.1).mono ?_
                    rintro e W4 ⟨rfl, hb4⟩
                    have HB4 := hid (HJ.out.1.trans (hb4.mono HJ.out.1.size))
                    have HJJ := hid (show j = x.length by omega)
                    clear hb4 t0 t1 t2
                    have hjN : decide (j < colsOf cs) = false := by have := HXL.out; simp; omega
                    go_wp2
                    go_roundw
                    case rel =>
                      refine ⟨k + 1, hlt, by go_num, HB4.out, fun r xs hr hxs => ?_⟩
                      by_cases e : r = k
                      · subst e
                        rw [HX.out] at hxs
                        injection hxs with hxs
                        subst hxs
                        unfold rowB
                        rw [Bool.and_eq_true]
                        refine ⟨by rw [HXL.out]; simp, List.all_eq_true.2 fun u hu => ?_⟩
                        obtain ⟨i, hi⟩ := List.getElem?_of_mem hu
                        exact HJ.out.2 i u (by have := (List.getElem?_eq_some_iff.1 hi).1; have := HJJ.out; omega) hi
                      · exact HR.out.2 r xs (by omega) hxs
                    case measure => first | (simp [intOf]; done) | (simp [intOf]; omega)
              · have hd : ((x.length : Int) != (colsOf cs : Int)) = true := by simp; omega
                have HE := hid (chk_row (b := b) LIM.out HX.out (by
                  unfold rowB
                  have : ((x.length : Int) == (colsOf cs : Int)) = false := by simp; omega
                  rw [this]; rfl))
                simp only [hd]
                clear hxl hd
                go_wp2
                go_ret
                exact ⟨ret_int HE.out.symm, HW.out.2.2.trans (HW3.out.mono HW.out.2.2.size)⟩
            · have hkI : decide ((k : Int) < (cs.length : Int)) = false := by simp; omega
              have HROWS := hid (show ∀ xs ∈ cs, rowB (colsOf cs) 10000 xs = true from fun xs hx => by
                obtain ⟨r, hr⟩ := List.getElem?_of_mem hx
                exact HR.out.2 r xs (by have := (List.getElem?_eq_some_iff.1 hr).1; omega) hr)
              have HBR := hid hbr
              clear hbr hrk hTr
              go_wp2
              clear t0 t1 t2 hltT hkI
              have KIx := hid (fun (x lo hi : Int) (W : World) => in_any x lo hi W)
              go_loopw [6] (fun i wr => ∃ k : Nat, k ≤ fs.length ∧ i = .int .i64 k ∧ Below W1.heap.size W1 wr ∧ ∀ (r : Nat) (f : Fx), r < k → fs[r]? = some f → fixOkB cs.length (colsOf cs) f = true) (fun i _ => fs.length - (intOf i).toNat)
              case atStart => exact ⟨0, Nat.zero_le _, rfl, HBR.out, fun r f hr => absurd hr (Nat.not_lt_zero _)⟩
              case round =>
                obtain ⟨k, hk, rfl, hbr, hrk⟩ := hrel
                have HR := hid (And.intro hbr hrk)
                have hTr := HW.out.1.keep hbr
                obtain ⟨t0, t1, t2⟩ := hTr.c3
                have hltT := hTr.lt
                by_cases hlt : k < fs.length
                · obtain ⟨f, hf⟩ : ∃ f, fs[k]? = some f := ⟨_, List.getElem?_eq_getElem hlt⟩
                  obtain ⟨a, rfl, p0, p1, p2, p3⟩ := (HW.out.2.1.at_ hbr).ix k f hf
                  have hkI : (k : Int) < (fs.length : Int) := by omega
                  have HF := hid hf
                  clear hf hbr hrk hTr
                  go_wp2
                  clear t0 t1 t2 hltT p0 p1 p2 p3 hkI
                  have hZ := then_below HR.out.1 (below_box (w := wr) #[Value.int .i64 f.row, .int .i64 f.col, .int .i64 f.val] 64)
                  have hBT := HW.out.1.keep hZ
                  have hBF := Blk.new wr 64 #[Value.int .i64 f.row, .int .i64 f.col, .int .i64 f.val]
                  refine gen (p := Code.wp _ _ _ _) (fun W => Below W1.heap.size W1 W ∧ Blk W w.heap.size 25 #[.int .i64 b, .slice A cs.length c, .slice (some a) fs.length c2] ∧ Blk W wr.heap.size 64 #[.int .i64 f.row, .int .i64 f.col, .int .i64 f.val]) ⟨hZ, hBT, hBF⟩ ?_
                  clear hZ hBT hBF
                  rintro W2z ⟨hZ, hBT, hBF⟩
                  obtain ⟨e1, e2, e3⟩ := xt_c3 hBT
                  obtain ⟨e4, e5, e6⟩ := xt_c3 hBF
                  have KCx := hid (fun q => KC.out (xt W2z q) (then_below hZ (below_xt W2z q)))
                  have HZ := hid hZ
                  clear hZ hBT hBF
                  have hk2 := HW.out.2.1.k
                  unfold maxLen at hk2
                  have hR := hid (fun W => KIx.out f.row 0 (cs.length - 1) W)
                  have hL := hid (fun W => KIx.out f.col 0 (colsOf cs - 1) W)
                  have hV := hid (fun W => KIx.out f.val 0 10100 W)
                  cases h1 : withinB f.row 0 (cs.length - 1)
                  · have HE := hid (chk_fix (b := b) LIM.out HF.out (by simp only [fixOkB, h1]; rfl))
                    rw [h1] at hR
                    clear h1
                    refine wp_region_quiet_xt (by kernel_rfl) (by kernel_rfl) ?_
                    repeat (go_big_quiet_step ((first | (go_at_call 27; with_reducible exact Calls.xt (Calls.same_below (hR.out _))))))
                    refine wpQuiet_nil ?_
                    intro W3 hw3
                    replace hw3 := of_xt hw3
                    have HW3 := hid (HZ.out.trans (hw3.mono HZ.out.size))
                    clear hw3 e1 e2 e3 e4 e5 e6 KCx
                    go_wp2
                    go_ret
                    exact ⟨ret_int HE.out.symm, HW.out.2.2.trans (HW3.out.mono HW.out.2.2.size)⟩
                  · rw [h1] at hR
                    cases h2 : withinB f.col 0 (colsOf cs - 1)
                    · have HE := hid (chk_fix (b := b) LIM.out HF.out (by simp only [fixOkB, h1, h2]; rfl))
                      rw [h2] at hL
                      clear h1 h2
                      refine wp_region_quiet_xt (by kernel_rfl) (by kernel_rfl) ?_
                      repeat (go_big_quiet_step ((first | (go_at_call 27; with_reducible exact Calls.xt (Calls.same_below (hR.out _))) | (go_at_call 27; with_reducible exact Calls.xt (Calls.same_below (hL.out _))) | (go_at_call 34; exact Calls.xt (KCx.out _)))))
                      refine wpQuiet_nil ?_
                      intro W3 hw3
                      replace hw3 := of_xt hw3
                      have HW3 := hid (HZ.out.trans (hw3.mono HZ.out.size))
                      clear hw3 e1 e2 e3 e4 e5 e6 KCx
                      go_wp2
                      go_ret
                      exact ⟨ret_int HE.out.symm, HW.out.2.2.trans (HW3.out.mono HW.out.2.2.size)⟩
                    · rw [h2] at hL
                      cases h3 : withinB f.val 0 10100
                      · have HE := hid (chk_fix (b := b) LIM.out HF.out (by simp only [fixOkB, h1, h2, h3]; rfl))
                        rw [h3] at hV
                        clear h1 h2 h3
                        refine wp_region_quiet_xt (by kernel_rfl) (by kernel_rfl) ?_
                        repeat (go_big_quiet_step ((first | (go_at_call 27; with_reducible exact Calls.xt (Calls.same_below (hR.out _))) | (go_at_call 27; with_reducible exact Calls.xt (Calls.same_below (hL.out _))) | (go_at_call 34; exact Calls.xt (KCx.out _)) | (go_at_call 27; with_reducible exact Calls.xt (Calls.same_below (hV.out _))))))
                        refine wpQuiet_nil ?_
                        intro W3 hw3
                        replace hw3 := of_xt hw3
                        have HW3 := hid (HZ.out.trans (hw3.mono HZ.out.size))
                        clear hw3 e1 e2 e3 e4 e5 e6 KCx
                        go_wp2
                        go_ret
                        exact ⟨ret_int HE.out.symm, HW.out.2.2.trans (HW3.out.mono HW.out.2.2.size)⟩
                      · have HOK := hid (show fixOkB cs.length (colsOf cs) f = true by simp only [fixOkB, h1, h2, h3]; rfl)
                        rw [h3] at hV
                        clear h1 h2 h3
                        refine wp_region_quiet_xt (by kernel_rfl) (by kernel_rfl) ?_
                        repeat (go_big_quiet_step ((first | (go_at_call 27; with_reducible exact Calls.xt (Calls.same_below (hR.out _))) | (go_at_call 27; with_reducible exact Calls.xt (Calls.same_below (hL.out _))) | (go_at_call 34; exact Calls.xt (KCx.out _)) | (go_at_call 27; with_reducible exact Calls.xt (Calls.same_below (hV.out _))))))
                        refine wpQuiet_nil ?_
                        intro W3 hw3
                        replace hw3 := of_xt hw3
                        have HW3 := hid (HZ.out.trans (hw3.mono HZ.out.size))
                        clear hw3 e1 e2 e3 e4 e5 e6 KCx
                        go_wp2
                        go_roundw
                        case rel =>
                          refine ⟨k + 1, hlt, by go_num, HW3.out, fun r g hr hg => ?_⟩
                          by_cases e : r = k
                          · subst e
                            rw [HF.out] at hg
                            injection hg with hg
                            subst hg
                            exact HOK.out
                          · exact HR.out.2 r g (by omega) hg
                        case measure => first | (simp [intOf]; done) | (simp [intOf]; omega)
                · have hkI : decide ((k : Int) < (fs.length : Int)) = false := by simp; omega
                  have HFX := hid (show ∀ f ∈ fs, fixOkB cs.length (colsOf cs) f = true from fun f hf => by
                    obtain ⟨r, hr⟩ := List.getElem?_of_mem hf
                    exact HR.out.2 r f (by have := (List.getElem?_eq_some_iff.1 hr).1; omega) hr)
                  have HE := hid (chk_fine (b := b) LIM.out HBB.out HC0.out HROWS.out HFX.out)
                  have HBX := hid hbr
                  clear hbr hrk hTr
                  go_wp2
                  go_ret
                  exact ⟨ret_int HE.out.symm, HW.out.2.2.trans (HBX.out.mono HW.out.2.2.size)⟩
end Go.Proofs.Ytgoianldiomdoaa
/- The laws' tests of a table: short, Thin, fault, ready. -/
namespace Go.Proofs.Ytgoianldiomdoaa
open Go.RowKit Go.Shelf

def shortB (l : List (List Int)) : Bool := (l.take 9).all (fun xs => decide (xs.length ≤ 7)) && decide (l.length ≤ 8)
def thinB (cs : List (List Int)) (fs : List Fx) : Bool := shortB cs && decide (fs.length ≤ 13)
def readyB (b : Int) (cs : List (List Int)) (fs : List Fx) : Bool := thinB cs fs && (chkE b cs fs == 0)

set_option maxRecDepth 100000 in
set_option maxHeartbeats 1000000 in
theorem short_any (A : Option Addr) (c : Nat) (cs : List (List Int)) (w : World) (h : IsRows w w.heap.size A cs) (hl : cs.length ≤ c) (hm : c ≤ maxLen) :
    Calls Try.prog 40 #[.slice A cs.length c] w fun e w' => e = .returned (.bool (shortB cs)) ∧ Below w.heap.size w w' := by
  unfold maxLen at hm
  have HI := hid h
  clear h
  go_enter Try.func40, Try.ntmps40
  go_wp2
  go_loop [3] (fun i => ∃ k : Nat, k ≤ cs.length ∧ k ≤ 9 ∧ i = .int .i64 k ∧ ∀ (r : Nat) (xs : List Int), r < k → cs[r]? = some xs → xs.length ≤ 7) (fun i => cs.length - (intOf i).toNat)
  case atStart => exact ⟨0, Nat.zero_le _, Nat.zero_le _, rfl, fun r xs hr => absurd hr (Nat.not_lt_zero _)⟩
  case round =>
    obtain ⟨k, hk, hk9, rfl, hgk⟩ := hrel
    have HG := hid hgk
    clear hgk
    by_cases hlt : k < cs.length ∧ k < 9
    · obtain ⟨hl1, hl9⟩ := hlt
      have hkI : (k : Int) < (cs.length : Int) := by omega
      have hk9I : (k : Int) < 9 := by omega
      obtain ⟨x, hx⟩ : ∃ x, cs[k]? = some x := ⟨_, List.getElem?_eq_getElem hl1⟩
      obtain ⟨a, A', c', rfl, hab, hac, q1, q2, q3⟩ := HI.out k x hx
      have HX := hid hx
      unfold maxLen at q2
      clear hx q3 hab
      by_cases h7 : 7 < x.length
      · have h7I : (7 : Int) < (x.length : Int) := by omega
        have HE := hid (show shortB cs = false by
          unfold shortB
          have : (cs.take 9).all (fun xs => decide (xs.length ≤ 7)) = false := by
            rw [List.all_eq_false]
            exact ⟨x, List.mem_of_getElem? (i := k) (by rw [List.getElem?_take, if_pos hl9]; exact HX.out), by simp; omega⟩
          rw [this]; rfl)
        clear h7
        go_wp2
        go_ret
        exact ⟨ret_bool HE.out.symm, Below.refl _ _⟩
      · have h7I : decide ((7 : Int) < (x.length : Int)) = false := by simp; omega
        have H7 := hid h7
        clear h7
        go_wp2
        go_round
        case rel =>
          refine ⟨k + 1, by omega, by omega, by go_num, fun r xs hr hxs => ?_⟩
          by_cases e : r = k
          · subst e
            rw [HX.out] at hxs
            injection hxs with hxs
            subst hxs
            have := H7.out
            omega
          · exact HG.out r xs (by omega) hxs
        case measure => first | (simp [intOf]; done) | (simp [intOf]; omega)
    · have HE := hid (show shortB cs = decide (cs.length ≤ 8) by
        unfold shortB
        have : (cs.take 9).all (fun xs => decide (xs.length ≤ 7)) = true := List.all_eq_true.2 fun xs hx => by
          obtain ⟨r, hr⟩ := List.getElem?_of_mem hx
          rw [List.getElem?_take] at hr
          split at hr
          · rename_i h9
            have hrl := (List.getElem?_eq_some_iff.1 hr).1
            simpa using HG.out r xs (by omega) hr
          · cases hr
        rw [this]; rfl)
      have HN := hid hlt
      have h8 : decide ((cs.length : Int) ≤ 8) = decide (cs.length ≤ 8) := by
        by_cases h : cs.length ≤ 8
        · rw [decide_eq_true h, decide_eq_true (by omega)]
        · rw [decide_eq_false h, decide_eq_false (by omega)]
      have H8 := hid h8
      clear hlt h8
      by_cases hl1 : k < cs.length
      · have hkI : (k : Int) < (cs.length : Int) := by omega
        have hk9I : decide ((k : Int) < 9) = false := by have := HN.out; simp; omega
        have HH := hid (show decide ((cs.length : Int) ≤ 8) = false by have := HN.out; simp; omega)
        go_wp2
        go_ret
        exact ⟨ret_bool (by rw [HE.out]; first | exact H8.out | (have := H8.out; simp_all)), Below.refl _ _⟩
      · have hkI : decide ((k : Int) < (cs.length : Int)) = false := by simp; omega
        go_wp2
        go_ret
        exact ⟨ret_bool (by rw [HE.out]; first | exact H8.out | (have := H8.out; simp_all)), Below.refl _ _⟩

set_option maxRecDepth 100000 in
set_option maxHeartbeats 1000000 in
theorem thin_any (b : Value) (A : Option Addr) (c : Nat) (cs : List (List Int)) (A2 : Option Addr) (c2 : Nat) (fs : List Fx) (w : World) (h : TIn A c cs A2 c2 fs w) :
    Calls Try.prog 15 #[.agg #[b, .slice A cs.length c, .slice A2 fs.length c2]] w fun e w' => e = .returned (.bool (thinB cs fs)) ∧ Below w.heap.size w w' := by
  have hB := below_box (w := w) #[b, .slice A cs.length c, .slice A2 fs.length c2] 25
  have hT := Blk.new w 25 #[b, .slice A cs.length c, .slice A2 fs.length c2]
  have K := hid (short_any A c cs _ (h.at_ hB).ic h.l1 h.m1)
  have HB := hid hB
  have hl2 := h.l2
  have hm2 := h.m2
  unfold maxLen at hm2
  obtain ⟨t0, t1, t2⟩ := hT.c3
  have HT := hid hT
  clear h hB hT
  go_enter Try.func15, Try.ntmps15
  go_wp2_with fail
  refine K.out.mono ?_
  rintro e w2 ⟨rfl, hb2⟩
  clear t0 t1 t2
  have h2 := (HT.out.keep hb2).c3
  obtain ⟨t0, t1, t2⟩ := h2
  have h13 : decide ((fs.length : Int) ≤ 13) = decide (fs.length ≤ 13) := by
    by_cases h : fs.length ≤ 13
    · rw [decide_eq_true h, decide_eq_true (by omega)]
    · rw [decide_eq_false h, decide_eq_false (by omega)]
  have H13 := hid h13
  have HB2 := hid (HB.out.trans (hb2.mono HB.out.size))
  have hlt := (HT.out.keep hb2).lt
  clear h13 hb2 K
  cases hs : shortB cs
  · have HE := hid (show thinB cs fs = false by unfold thinB; rw [hs]; rfl)
    clear hs
    go_wp2
    go_ret
    exact ⟨ret_bool HE.out.symm, HB2.out⟩
  · have HE := hid (show thinB cs fs = decide (fs.length ≤ 13) by unfold thinB; rw [hs]; rfl)
    clear hs
    go_wp2
    go_ret
    exact ⟨ret_bool (by rw [HE.out]; first | exact H13.out | (have := H13.out; simp_all)), HB2.out⟩

set_option maxRecDepth 100000 in
set_option maxHeartbeats 1000000 in
theorem lfault_any (b : Int) (A : Option Addr) (c : Nat) (cs : List (List Int)) (A2 : Option Addr) (c2 : Nat) (fs : List Fx) (w : World) (h : TIn A c cs A2 c2 fs w) :
    Calls Try.prog 22 #[.agg #[.int .i64 b, .slice A cs.length c, .slice A2 fs.length c2]] w fun e w' => e = .returned (.int .i64 (chkE b cs fs)) ∧ Below w.heap.size w w' := by
  have hB := below_box (w := w) #[.int .i64 b, .slice A cs.length c, .slice A2 fs.length c2] 25
  have hT := Blk.new w 25 #[.int .i64 b, .slice A cs.length c, .slice A2 fs.length c2]
  have K := hid (fault_any b A c cs A2 c2 fs _ (h.at_ hB))
  have HB := hid hB
  obtain ⟨t0, t1, t2⟩ := hT.c3
  clear h hB hT
  go_enter Try.func22, Try.ntmps22
  go_wp2_with fail
  refine K.out.mono ?_
  rintro e w2 ⟨rfl, hb2⟩
  have HB2 := hid (HB.out.trans (hb2.mono HB.out.size))
  clear hb2 K t0 t1 t2
  go_wp2
  go_ret
  exact ⟨rfl, HB2.out⟩

set_option maxRecDepth 100000 in
set_option maxHeartbeats 1000000 in
theorem ready_any (b : Int) (A : Option Addr) (c : Nat) (cs : List (List Int)) (A2 : Option Addr) (c2 : Nat) (fs : List Fx) (w : World) (h : TIn A c cs A2 c2 fs w) :
    Calls Try.prog 33 #[.agg #[.int .i64 b, .slice A cs.length c, .slice A2 fs.length c2]] w fun e w' => e = .returned (.bool (readyB b cs fs)) ∧ Below w.heap.size w w' := by
  have hB := below_box (w := w) #[.int .i64 b, .slice A cs.length c, .slice A2 fs.length c2] 25
  have hT := Blk.new w 25 #[.int .i64 b, .slice A cs.length c, .slice A2 fs.length c2]
  have K := hid (thin_any (.int .i64 b) A c cs A2 c2 fs _ (h.at_ hB))
  have HB := hid hB
  obtain ⟨t0, t1, t2⟩ := hT.c3
  have HT := hid hT
  have HH := hid h
  clear h hB hT
  go_enter Try.func33, Try.ntmps33
  go_wp2_with fail
  refine K.out.mono ?_
  rintro e w2 ⟨rfl, hb2⟩
  have HB2 := hid (HB.out.trans (hb2.mono HB.out.size))
  have KF := hid (lfault_any b A c cs A2 c2 fs w2 (HH.out.at_ HB2.out))
  clear t0 t1 t2
  obtain ⟨t0, t1, t2⟩ := (HT.out.keep hb2).c3
  clear hb2 K
  cases hs : thinB cs fs
  · have HE := hid (show readyB b cs fs = false by unfold readyB; rw [hs]; rfl)
    clear hs
    go_wp2
    go_ret
    exact ⟨ret_bool HE.out.symm, HB2.out⟩
  · have HE := hid (show readyB b cs fs = (chkE b cs fs == 0) by unfold readyB; rw [hs]; rfl)
    clear hs
    go_wp2_with fail
    refine KF.out.mono ?_
    rintro e w3 ⟨rfl, hb3⟩
    have HB3 := hid (HB2.out.trans (hb3.mono HB2.out.size))
    clear hb3 KF t0 t1 t2
    go_wp2
    go_ret
    exact ⟨ret_bool (by rw [HE.out]), HB3.out⟩
end Go.Proofs.Ytgoianldiomdoaa
/- The laws' copies: of rows. -/
namespace Go.Proofs.Ytgoianldiomdoaa
open Go.RowKit Go.Shelf

set_option maxRecDepth 10000 in
set_option maxHeartbeats 400000 in
theorem list_all (A : Option Addr) (c : Nat) (xs : List Int) (w : World) (h : IsInts w w.heap.size A xs) (hl : xs.length ≤ 1000000) :
    Calls Try.prog 30 #[.slice A xs.length c] w (GivesInts xs w) := by
  cases A with
  | some a => exact list_any (some a) c xs w h (fun e => by cases e) hl
  | none =>
    obtain ⟨i0, hi0, hz0, hz1, hz2⟩ := info_parts int_info
    have hx : xs = [] := by
      cases xs with
      | nil => rfl
      | cons x l => obtain ⟨a, e, _⟩ := h 0 x rfl; cases e
    subst hx
    have hr : (Builtin.append_ #[56, 56] 56 #[.slice none 0 0, .slice none 0 c]).run Try.prog w = .ok (.slice none 0 0) w := by
      exact run_append_nothing (P := Try.prog) w 56 56 56 3 i0 Try.underlying56 hi0 none 0 0 (Nat.le_refl _) (.slice none 0 c) (Src.ofNil w Try.underlying56 c)
    go_enter Try.func30, Try.ntmps30
    go_wp2
    go_ret
    exact ⟨none, 0, rfl, Nat.le_refl _, Nat.zero_le _, (fun k x hk => by simp at hk), (fun a e => by cases e), fun _ => rfl, Below.refl _ _⟩

def GivesRows (cs : List (List Int)) (w : World) (e : Ending) (w' : World) : Prop :=
  ∃ A c, e = .returned (.slice A cs.length c) ∧ Rows_ w.heap.size (.slice A cs.length c) cs.length cs w' ∧ Below w.heap.size w w'

set_option maxRecDepth 100000 in
set_option maxHeartbeats 1000000 in
theorem rows_any (A : Option Addr) (c : Nat) (cs : List (List Int)) (w : World) (h : IsRows w w.heap.size A cs) (hl : cs.length ≤ c) (hm : c ≤ maxLen) (hs : cs.length ≤ 1000) (hx : ∀ xs ∈ cs, xs.length ≤ 1000) :
    Calls Try.prog 39 #[.slice A cs.length c] w (GivesRows cs w) := by
  unfold maxLen at hm
  have HI := hid h
  have HX := hid hx
  have HR := hid (show Rows_ w.heap.size (.slice none 0 0) 0 cs w from Rows_.zero)
  clear h hx
  go_enter Try.func39, Try.ntmps39
  go_wp2
  go_loopw [3, 4] (fun v i wr => ∃ k : Nat, k ≤ cs.length ∧ i = .int .i64 k ∧ Rows_ w.heap.size v k cs wr ∧ Below w.heap.size w wr) (fun _ i _ => cs.length - (intOf i).toNat)
  case atStart => exact ⟨0, Nat.zero_le _, rfl, HR.out, Below.refl _ _⟩
  case round =>
    obtain ⟨k, hk, rfl, hr, hb⟩ := hrel
    clear HR
    by_cases hlt : k < cs.length
    · have hkI : (k : Int) < (cs.length : Int) := by omega
      obtain ⟨x, hxk⟩ : ∃ x, cs[k]? = some x := ⟨_, List.getElem?_eq_getElem hlt⟩
      obtain ⟨a, A', c', rfl, hab, hac, q1, q2, q3⟩ := (HI.out.at_ hb) k x hxk
      have hx4 := HX.out x (List.mem_of_getElem? hxk)
      have HXK := hid hxk
      have HRR := hid hr
      have HB := hid hb
      have K := hid (list_all A' c' x wr q3 (by omega))
      clear hab hxk hr hb q3 q2
      go_wp2_with fail
      refine K.out.mono ?_
      rintro e w5 ⟨A5, c5, rfl, g1, g2, g3, g4, g5, hb5⟩
      obtain ⟨i0, hi0, hz0, hz1, hz2⟩ := info_parts rows_info
      obtain ⟨vs, ho, hv⟩ := HRR.out.below hb5
      have HV := hid (And.intro hv (And.intro g1 (And.intro g2 (And.intro g3 (And.intro g4 g5)))))
      have HO := hid (ho.alloc (.cells #[.slice A5 x.length c5] 56))
      have HB5 := hid (HB.out.trans (hb5.mono HB.out.size))
      have hbase := HB.out.size
      have hbase5 := hb5.size
      clear ho hv g1 g2 g3 g4 g5 hb5 hac
      go_wp2_with (at_builtin; refine wpList_append_own_at _ rfl _ _ 22 rfl w.heap.size 56 i0 (.slice none 0 0) 1 24 Try.underlying22 hi0 hz0 hz1 hz2 rfl (by decide) u3 k vs rfl HO.out ⟨w5.heap.size, 0, none⟩ 1 1 [.slice A5 x.length c5] rfl rfl (by intro q u hq; cases q with | zero => simp at hq; subst hq; exact (World.cell?_alloc_new _ _ _ _) | succ q => simp at hq) (by intro u hu; simp at hu; subst hu; rfl) (by simp only [maxLen]; omega) (by omega) (by simp; omega) ?_; intro v' w6 hown' hgrow _ _)
      have hown := HO.out
      have hba : Below w5.heap.size w5 (w5.alloc (.cells #[.slice A5 x.length c5] 56)) := (Below.refl _ _).alloc (Nat.le_refl _) _
      have b5 := HB5.out.trans (hba.mono HB5.out.size)
      have b6 := below_row b5 hown (Nat.le_refl _) hgrow (by simp; omega)
      have r6 : Rows_ w.heap.size v' (k + 1) cs w6 := by
        obtain ⟨hv, g1, g2, g3, g4, g5⟩ := HV.out
        refine ⟨_, hown', fun i y hi hy => ?_⟩
        by_cases hij : i < k
        · obtain ⟨Ai, ci, q1, q2⟩ := hv i y hij hy
          have : vs.length = k := by have := hown.1; omega
          exact ⟨Ai, ci, by rw [List.getElem?_append_left (by omega)]; exact q1, (q2.below hba).row hown (by decide) hgrow⟩
        · obtain rfl : i = k := by omega
          rw [HXK.out] at hy
          injection hy with hy
          subst hy
          have : vs.length = i := by have := hown.1; omega
          refine ⟨A5, c5, by rw [List.getElem?_append_right (by omega), this]; simp, Good.row (Good.below ⟨g3, fun a e => ⟨(g4 a e).2, id⟩, g1, g2, g5⟩ hba) hown (by decide) hgrow⟩
      have HN := hid (And.intro r6 b6)
      clear HRR HB HV HO HB5 hown hba b5 b6 r6 hown' hgrow K
      go_wp2
      go_roundw
      case rel => exact ⟨k + 1, by omega, by go_num, HN.out⟩
      case measure => first | (simp [intOf]; done) | (simp [intOf]; omega)
    · have hkI : decide ((k : Int) < (cs.length : Int)) = false := by simp; omega
      obtain rfl : k = cs.length := by omega
      obtain ⟨A5, c5, rfl⟩ := hr.shape
      have HN := hid (show GivesRows cs w (.returned (.slice A5 cs.length c5)) wr from ⟨A5, c5, rfl, hr, hb⟩)
      clear hb hr
      go_wp2
      go_ret
      exact HN.out
end Go.Proofs.Ytgoianldiomdoaa
/- The law's table for the program: a copy. -/
namespace Go.Proofs.Ytgoianldiomdoaa
open Go.RowKit Go.Shelf

theorem fix_info : (Try.prog.info? 94).map (fun i => (i.zero, i.size, i.bytes)) = some (some (.agg #[.int .i64 0, .int .i64 0, .int .i64 0]), 3, 24) := by kernel_rfl
def fxCells (f : Fx) : List Value := [.int .i64 f.row, .int .i64 f.col, .int .i64 f.val]
def fxs (fs : List Fx) : List Value := fs.flatMap fxCells
theorem fxs_len : ∀ fs : List Fx, (fxs fs).length = fs.length * 3
  | [] => rfl
  | f :: fs => by
    have := fxs_len fs
    simp only [fxs, List.flatMap_cons, List.length_append, List.length_cons] at this ⊢
    rw [this]; simp [fxCells]; omega
theorem fxs_snoc (fs : List Fx) (f : Fx) : fxs (fs ++ [f]) = fxs fs ++ fxCells f := by simp [fxs]
theorem fxs_at : ∀ (fs : List Fx) (k : Nat) (f : Fx), fs[k]? = some f → (fxs fs)[k * 3]? = some (.int .i64 f.row) ∧ (fxs fs)[k * 3 + 1]? = some (.int .i64 f.col) ∧ (fxs fs)[k * 3 + 2]? = some (.int .i64 f.val)
  | [], k, f, h => by simp at h
  | g :: fs, 0, f, h => by
    simp at h
    subst h
    exact ⟨rfl, rfl, rfl⟩
  | g :: fs, k + 1, f, h => by
    have := fxs_at fs k f (by simpa using h)
    have e : fxs (g :: fs) = fxCells g ++ fxs fs := rfl
    rw [e]
    refine ⟨?_, ?_, ?_⟩
    · rw [List.getElem?_append_right (by simp [fxCells]; omega), show (k + 1) * 3 - (fxCells g).length = k * 3 by simp [fxCells]; omega]; exact this.1
    · rw [List.getElem?_append_right (by simp [fxCells]; omega), show (k + 1) * 3 + 1 - (fxCells g).length = k * 3 + 1 by simp [fxCells]; omega]; exact this.2.1
    · rw [List.getElem?_append_right (by simp [fxCells]; omega), show (k + 1) * 3 + 2 - (fxCells g).length = k * 3 + 2 by simp [fxCells]; omega]; exact this.2.2
section
variable {W W' : World} {base e size n : Nat} {v2 : Value} {vs2 : List Value}
theorem Rows_.row {b0 j : Nat} {v : Value} {rows : List (List Int)} (h : Rows_ b0 v j rows W) (ho : W.ownsRow base e size v2 n vs2) (he : 56 ≠ e) (he2 : 3 ≠ e) (hg : W.grownBy W' v2.ownBlock) : Rows_ b0 v j rows W' := by
  obtain ⟨vs, hov, hv⟩ := h
  refine ⟨vs, hov.kept hg ?_, fun i x hi hx => ?_⟩
  · rcases hov.2 with ⟨rfl, _⟩ | ⟨g, cap, cur, rfl, _, hgc, _⟩
    · exact .inl rfl
    · exact .inr fun e' => own_not ho (z := g) (fun cs hc => by
        rw [hgc] at hc
        injection hc with hc
        injection hc with _ ht
        exact he ht) e'.symm
  · obtain ⟨A, c, g1, g2⟩ := hv i x hi hx
    exact ⟨A, c, g1, g2.row ho he2 hg⟩
theorem own_fixes {fs : List Fx} {v : Value} (h : W.ownsRow base 94 3 v fs.length (fxs fs)) : ∃ A c, v = .slice A fs.length c ∧ IsFixes W W.heap.size A fs ∧ fs.length ≤ c ∧ c ≤ maxLen := by
  rcases h.2 with ⟨rfl, h0⟩ | ⟨g, cap, cur, rfl, hb, hg, h1, h2, h3, h4⟩
  · have : fs = [] := List.eq_nil_of_length_eq_zero h0
    subst this
    exact ⟨none, 0, rfl, (fun k x hk => by simp at hk), Nat.le_refl 0, Nat.zero_le maxLen⟩
  · refine ⟨_, cap, rfl, (fun k f hk => ?_), h1, h2⟩
    obtain ⟨c0, c1, c2⟩ := fxs_at fs k f hk
    have ha : (⟨g, 0, none⟩ : Addr).add (k * 3) = ⟨g, k * 3, none⟩ := by unfold Addr.add; split <;> simp_all
    refine ⟨_, rfl, (Array.getElem?_eq_some_iff.1 hg).1, h.cells (g := g) rfl (k * 3) _ c0, ?_, ?_⟩
    · have := h.cells (g := g) rfl (k * 3 + 1) _ c1
      rw [show (⟨g, 0, none⟩ : Addr).add (k * 3 + 1) = ⟨g, k * 3 + 1, none⟩ by unfold Addr.add; split <;> simp_all] at this
      rw [ha]; exact this
    · have := h.cells (g := g) rfl (k * 3 + 2) _ c2
      rw [show (⟨g, 0, none⟩ : Addr).add (k * 3 + 2) = ⟨g, k * 3 + 2, none⟩ by unfold Addr.add; split <;> simp_all] at this
      rw [ha]; exact this
end
/-- when k fixes are copied -/
structure TabI (b : Int) (A : Option Addr) (c : Nat) (cs : List (List Int)) (A2 : Option Addr) (c2 : Nat) (fs : List Fx) (Ar : Option Addr) (cr Bo : Nat) (w : World) (k : Nat) (v : Value) (W : World) : Prop where
  ib : Blk W w.heap.size 25 #[.int .i64 b, .slice A cs.length c, .slice A2 fs.length c2]
  i2 : Blk W (w.heap.size + 1) 33 #[.int .i64 0, .slice none 0 0, .slice none 0 0]
  io : Blk W Bo 33 #[.int .i64 b, .slice Ar cs.length cr, v]
  rows : ∃ b0, Rows_ b0 (.slice Ar cs.length cr) cs.length cs W
  fx : W.ownsRow w.heap.size 94 3 v k (fxs (fs.take k))
  below : Below w.heap.size w W
def GivesTable (b : Int) (cs : List (List Int)) (fs : List Fx) (w : World) (e : Ending) (w' : World) : Prop :=
  ∃ A c A2 c2, e = .returned (.agg #[.int .i64 b, .slice A cs.length c, .slice A2 fs.length c2]) ∧ TIn A c cs A2 c2 fs w' ∧ Below w.heap.size w w'

set_option maxRecDepth 100000 in
set_option maxHeartbeats 4000000 in
theorem table_any (b : Int) (A : Option Addr) (c : Nat) (cs : List (List Int)) (A2 : Option Addr) (c2 : Nat) (fs : List Fx) (w : World) (h : TIn A c cs A2 c2 fs w) (hs : cs.length ≤ 1000) (hx : ∀ xs ∈ cs, xs.length ≤ 1000) (hf : fs.length ≤ 1000) :
    Calls Try.prog 19 #[.agg #[.int .i64 b, .slice A cs.length c, .slice A2 fs.length c2]] w (GivesTable b cs fs w) := by
  have hb1 := below_box (w := w) #[.int .i64 b, .slice A cs.length c, .slice A2 fs.length c2] 25
  have hb2 := hb1.alloc (by simp) (.cells #[.int .i64 0, .slice none 0 0, .slice none 0 0] 33)
  have hT := (Blk.new w 25 #[.int .i64 b, .slice A cs.length c, .slice A2 fs.length c2]).alloc (.cells #[.int .i64 0, .slice none 0 0, .slice none 0 0] 33)
  have h2 := Blk.new (w.alloc (.cells #[.int .i64 b, .slice A cs.length c, .slice A2 fs.length c2] 25)) 33 #[.int .i64 0, .slice none 0 0, .slice none 0 0]
  rw [World.size_alloc] at h2
  have HT := hid h
  have HX := hid hx
  have H1 := hid (And.intro hT (And.intro h2 hb2))
  have hm1 := h.m1
  have hm2 := h.m2
  have hl1 := h.l1
  have hl2 := h.l2
  unfold maxLen at hm1 hm2
  clear h hx hb1 hb2 hT h2
  go_enter Try.func19, Try.ntmps19
  go_wp2
  refine gen (p := Code.wp _ _ _ _) (fun W => Blk W w.heap.size 25 #[.int .i64 b, .slice A cs.length c, .slice A2 fs.length c2] ∧ Blk W (w.heap.size + 1) 33 #[.int .i64 0, .slice none 0 0, .slice none 0 0] ∧ Below w.heap.size w W) H1.out ?_
  intro W1 hW1
  have HW := hid hW1
  clear hW1 H1
  have hl2W := HW.out.2.1.lt
  refine (wpIn_wide (n := 0)).1 ?_
  refine wpIn_region_each 7 (fun i v W' => match i with
      | 0 => v = .pointer (some ⟨w.heap.size, 0, none⟩) | 1 => v = .int .i64 b | 2 => v = .pointer (some ⟨w.heap.size, 1, none⟩) | 3 => v = .slice A cs.length c
      | 4 => ∃ A' c' b0, v = .slice A' cs.length c' ∧ Rows_ b0 (.slice A' cs.length c') cs.length cs W'
      | 5 => ∃ A' c' b0, v = .agg #[.int .i64 b, .slice A' cs.length c', .slice none 0 0] ∧ Rows_ b0 (.slice A' cs.length c') cs.length cs W'
      | 6 => ∃ g, v = .pointer (some ⟨g, 0, none⟩) ∧ w.heap.size + 2 ≤ g ∧ Blk W' g 33 #[.int .i64 0, .slice none 0 0, .slice none 0 0] | _ => True) (fun A B => Below A.heap.size A B) (fun _ _ => True) (by kernel_rfl) (by kernel_rfl) ?_ (fun h k => h.trans (k.mono h.size)) ⟨rfl, rfl, rfl, Nat.le_refl _, fun _ _ => rfl⟩ trivial (by kernel_rfl) ?_ ?_
  · intro i v W1 W2 hb h
    match i, h with
    | 0, h => exact h
    | 1, h => exact h
    | 2, h => exact h
    | 3, h => exact h
    | 4, h =>
      obtain ⟨A', c', b0, h1, h2⟩ := h
      exact ⟨A', c', b0, h1, h2.below hb⟩
    | 5, h =>
      obtain ⟨A', c', b0, h1, h2⟩ := h
      exact ⟨A', c', b0, h1, h2.below hb⟩
    | 6, h =>
      obtain ⟨g, h1, h2, h3⟩ := h
      exact ⟨g, h1, h2, h3.keep hb⟩
    | i + 7, h => trivial
  · refine ⟨?_, ?_, ?_, ?_, ?_, ?_, ?_, trivial⟩
    · -- 0
      intro li a1 W2 hA K hK
      have e1 := hA.par 1 (by kernel_rfl)
      refine opStep none 0 rfl rfl (fun c hc => by cases hc) ?_
      go_simp
      exact hK _ _ rfl (Below.refl _ _) trivial
    · -- 1
      intro li a1 W2 hA K hK
      have e6 : a1.tmps.getD 6 undef = .pointer (some ⟨w.heap.size, 0, none⟩) := hA.val 0 6 (by kernel_rfl) (by kernel_rfl)
      obtain ⟨q1, q2, q3⟩ := (HW.out.1.keep hA.st).c3
      refine opStep none 0 rfl rfl (fun c hc => by cases hc) ?_
      go_simp
      exact hK _ _ rfl (Below.refl _ _) trivial
    · -- 2
      intro li a1 W2 hA K hK
      have e1 := hA.par 1 (by kernel_rfl)
      refine opStep none 0 rfl rfl (fun c hc => by cases hc) ?_
      go_simp
      exact hK _ _ rfl (Below.refl _ _) trivial
    · -- 3
      intro li a1 W2 hA K hK
      have e8 : a1.tmps.getD 8 undef = .pointer (some ⟨w.heap.size, 1, none⟩) := hA.val 2 8 (by kernel_rfl) (by kernel_rfl)
      obtain ⟨q1, q2, q3⟩ := (HW.out.1.keep hA.st).c3
      refine opStep none 0 rfl rfl (fun c hc => by cases hc) ?_
      go_simp
      exact hK _ _ rfl (Below.refl _ _) trivial
    · -- 4
      intro li a1 W2 hA K hK
      have e9 : a1.tmps.getD 9 undef = .slice A cs.length c := hA.val 3 9 (by kernel_rfl) (by kernel_rfl)
      have hst := hA.st
      have hbW := HW.out.2.2.trans (hst.mono HW.out.2.2.size)
      refine opStep none 0 rfl rfl (fun c hc => by cases hc) ?_
      go_simp
      refine (rows_any A c cs W2 (HT.out.at_ hbW).ic hl1 (by unfold maxLen; exact hm1) hs HX.out).mono ?_
      rintro e W3 ⟨A', c', rfl, hr, hb3⟩
      exact hK _ _ ⟨A', c', _, rfl, hr⟩ hb3 trivial
    · -- 5
      intro li a1 W2 hA K hK
      have e7 : a1.tmps.getD 7 undef = .int .i64 b := hA.val 1 7 (by kernel_rfl) (by kernel_rfl)
      obtain ⟨A', c', b0, e10, hr⟩ := hA.val 4 10 (by kernel_rfl) (by kernel_rfl)
      have e7' := e7
      have e10' := e10
      rw [Array.getD_eq_getD_getElem?] at e7' e10'
      refine opStep none 0 rfl rfl (fun c hc => by cases hc) ?_
      go_simp
      exact hK _ _ ⟨A', c', b0, rfl, hr⟩ (Below.refl _ _) trivial
    · -- 6
      intro li a1 W2 hA K hK
      have hst := hA.st.size
      refine opStep none 0 rfl rfl (fun c hc => by cases hc) ?_
      go_simp
      exact hK _ _ ⟨_, rfl, by omega, Blk.new _ _ _⟩ ((Below.refl _ _).alloc (Nat.le_refl _) _) trivial
  · intro li a1 W2 hD
    obtain ⟨A', c', b0, e11, hr⟩ := hD.val 5 11 (by kernel_rfl) (by kernel_rfl)
    obtain ⟨Bo, e3, hBo, hbo⟩ := hD.val 6 3 (by kernel_rfl) (by kernel_rfl)
    obtain ⟨q1, q2, q3⟩ := hbo.c3
    have f0 := hbo.frozen 0
    have f1 := hbo.frozen 1
    have f2 := hbo.frozen 2
    have hgl := hbo.lt
    refine tail_store (i := 7) (W' := set3 W2 Bo (.int .i64 b) (.slice A' cs.length c') (.slice none 0 0)) none 0 rfl rfl rfl (fun c hc => by cases hc) (by unfold set3; go_simp) ?_
    have e := hD.act [6, 7, 8, 9, 10, 11, 3] (by kernel_rfl)
    have hst := hD.st
    have hg3 := set3_grown W2 Bo (.int .i64 b) (.slice A' cs.length c') (.slice none 0 0)
    have hb3 := set3_blk hbo (.int .i64 b) (.slice A' cs.length c') (.slice none 0 0)
    have hk3 : Keep (fun q => q = Bo) W2 _ := Keep.of_grown hg3 rfl
    have hws := HW.out.2.2.size
    have HN := hid (show TabI b A c cs A2 c2 fs A' c' Bo w 0 (.slice none 0 0) (set3 W2 Bo (.int .i64 b) (.slice A' cs.length c') (.slice none 0 0)) from
      ⟨hk3.blk (HW.out.1.keep hst) (by omega), hk3.blk (HW.out.2.1.keep hst) (by omega), hb3, ⟨b0, hr.grown hg3 (blk_not hbo (by decide)) (blk_not hbo (by decide))⟩, World.ownsRow_nil _ _ _ _, (HW.out.2.2.trans (hst.mono hws)).grown hg3 (by have := hst.size; omega) (fun k hk => by cases hk; omega)⟩)
    have HBO := hid hBo
    have f3 : (fun i => a1.tmps.getD i undef) 3 = .pointer (some ⟨Bo, 0, none⟩) := e3
    clear hD e11 hr e3 hbo q1 q2 q3 f0 f1 f2 hgl hst hg3 hb3 hk3 hws HW hl2W hBo
    generalize set3 W2 Bo (.int .i64 b) (.slice A' cs.length c') (.slice none 0 0) = W3 at *
    generalize (fun i => a1.tmps.getD i undef) = g at e f3
    refine wpListIn_nil ?_
    rw [e]
    clear e
    simp only [mix, List.contains_cons, List.contains_nil, Nat.reduceAdd, Nat.reduceBEq, Bool.or_false, Bool.or_true, cond_true, cond_false, f3]
    go_wp2
    clear f3
    go_loopw [4] (fun i wr => ∃ (k : Nat) (v : Value), k ≤ fs.length ∧ i = .int .i64 k ∧ TabI b A c cs A2 c2 fs A' c' Bo w k v wr) (fun i _ => fs.length - (intOf i).toNat)
    case atStart => exact ⟨0, _, Nat.zero_le _, rfl, HN.out⟩
    case round =>
      obtain ⟨k, v, hk, rfl, hi⟩ := hrel
      clear HN
      have HH := hid hi
      obtain ⟨t0, t1, t2⟩ := hi.ib.c3
      obtain ⟨s0, s1, s2⟩ := hi.io.c3
      have htl := hi.ib.lt
      have hol := hi.io.lt
      by_cases hlt : k < fs.length
      · have hkI : (k : Int) < (fs.length : Int) := by omega
        obtain ⟨f, hfk⟩ : ∃ f, fs[k]? = some f := ⟨_, List.getElem?_eq_getElem hlt⟩
        obtain ⟨a, rfl, p0, p1, p2, p3⟩ := (HT.out.at_ hi.below).ix k f hfk
        have HF := hid hfk
        obtain ⟨i0, hi0, hz0, hz1, hz2⟩ := info_parts fix_info
        have hb1 := (Below.refl wr.heap.size wr).alloc (Nat.le_refl _) (.cells #[.int .i64 f.row, .int .i64 f.col, .int .i64 f.val] 64)
        have hb2 := hb1.alloc (by simp) (.cells #[.int .i64 f.row, .int .i64 f.col, .int .i64 f.val] 94)
        have HO := hid ((hi.fx.alloc (.cells #[.int .i64 f.row, .int .i64 f.col, .int .i64 f.val] 64)).alloc (.cells #[.int .i64 f.row, .int .i64 f.col, .int .i64 f.val] 94))
        have HB := hid hb2
        have hws := hi.below.size
        have hxb := (Blk.new wr 64 #[.int .i64 f.row, .int .i64 f.col, .int .i64 f.val])
        obtain ⟨x0, x1, x2⟩ := hxb.c3
        have hnb := (Blk.new (wr.alloc (.cells #[.int .i64 f.row, .int .i64 f.col, .int .i64 f.val] 64)) 94 #[.int .i64 f.row, .int .i64 f.col, .int .i64 f.val])
        rw [World.size_alloc] at hnb
        have HNEW := hid (show ∀ (j : Nat) (u : Value), (fxCells f)[j]? = some u → ((wr.alloc (.cells #[.int .i64 f.row, .int .i64 f.col, .int .i64 f.val] 64)).alloc (.cells #[.int .i64 f.row, .int .i64 f.col, .int .i64 f.val] 94)).cell? ((⟨wr.heap.size + 1, 0, none⟩ : Addr).add j) = some u from fun j u hj => by
          rw [add_blk]
          obtain ⟨n0, n1, n2⟩ := hnb.c3
          match j, hj with
          | 0, hj => injection hj with hj; subst hj; exact n0
          | 1, hj => injection hj with hj; subst hj; exact n1
          | 2, hj => injection hj with hj; subst hj; exact n2
          | j + 3, hj => simp [fxCells] at hj)
        have hone : ∀ u ∈ fxCells f, u.oneCell' = true := fun u hu => by
          simp only [fxCells, List.mem_cons, List.not_mem_nil, or_false] at hu
          rcases hu with rfl | rfl | rfl <;> rfl
        clear hi hfk p0 hb1 hb2 hxb hnb
        go_wp2_with (at_builtin; refine wpList_append_own_at _ rfl (.tmp 25) (.tmp 33) 31 rfl w.heap.size 94 i0 (.agg #[.int .i64 0, .int .i64 0, .int .i64 0]) 3 24 Try.underlying31 hi0 hz0 hz1 hz2 rfl (by decide) v k _ rfl HO.out ⟨wr.heap.size + 1, 0, none⟩ 1 1 (fxCells f) rfl rfl HNEW.out hone (by simp only [maxLen]; omega) (by omega) (by simp; omega) ?_; intro v' w6 hown' hgrow _ _; obtain ⟨g6, cap6, rfl⟩ := Go.ownsRow_succ hown'; have hio6 := ((HH.out.io.alloc (.cells #[.int .i64 f.row, .int .i64 f.col, .int .i64 f.val] 64)).alloc (.cells #[.int .i64 f.row, .int .i64 f.col, .int .i64 f.val] 94)).row HO.out (by decide) hgrow; obtain ⟨_, _, w2c⟩ := hio6.c3; have wf2 := hio6.frozen 2; have wl2 := hio6.lt)
        have hg7 := grown_of_set w6 ⟨Bo, 2, none⟩ (.slice (some ⟨g6, 0, none⟩) (k + 1) cap6)
        have hk7 : Keep (fun q => q = Bo) w6 _ := Keep.of_grown hg7 rfl
        have hbo := HBO.out
        have hfx' : w6.ownsRow w.heap.size 94 3 (.slice (some ⟨g6, 0, none⟩) (k + 1) cap6) (k + 1) (fxs (fs.take (k + 1))) := by
          obtain ⟨hk', e⟩ := List.getElem?_eq_some_iff.1 HF.out
          rw [List.take_succ_eq_append_getElem hk', fxs_snoc, e]
          exact hown'
        have HN := hid (show TabI b A c cs (some a) c2 fs A' c' Bo w (k + 1) (.slice (some ⟨g6, 0, none⟩) (k + 1) cap6) (w6.setCell ⟨Bo, 2, none⟩ (.slice (some ⟨g6, 0, none⟩) (k + 1) cap6)) from by
          obtain ⟨b0, hr⟩ := HH.out.rows
          exact ⟨hk7.blk (((HH.out.ib.alloc _).alloc _).row HO.out (by decide) hgrow) (by omega), hk7.blk (((HH.out.i2.alloc _).alloc _).row HO.out (by decide) hgrow) (by omega), hio6.set_ 2 (.slice (some ⟨g6, 0, none⟩) (k + 1) cap6),
            ⟨b0, ((hr.below HB.out).row HO.out (by decide) (by decide) hgrow).grown hg7 (blk_not hio6 (by decide)) (blk_not hio6 (by decide))⟩, hfx'.kept hg7 (own_ne hfx' (blk_not hio6 (by decide))),
            (below_row (HH.out.below.trans (HB.out.mono hws)) HO.out (Nat.le_refl _) hgrow (by simp; omega)).setCell (p := ⟨Bo, 2, none⟩) (by show w.heap.size ≤ Bo; omega) _⟩)
        clear hg7 hk7 hfx' hio6 hown' hgrow HO HB HNEW HH w2c wf2 wl2 hbo
        go_wp2
        go_roundw
        case rel => exact ⟨k + 1, _, by omega, by go_num, HN.out⟩
        case measure => first | (simp [intOf]; done) | (simp [intOf]; omega)
      · have hkI : decide ((k : Int) < (fs.length : Int)) = false := by simp; omega
        obtain rfl : k = fs.length := by omega
        have hfx := hi.fx
        rw [List.take_length] at hfx
        obtain ⟨A3, c3, rfl, g1, g2, g3⟩ := own_fixes hfx
        obtain ⟨b0, hr⟩ := hi.rows
        obtain ⟨A4, c4, e4, r1, r2, r3, r4, r5⟩ := hr.out
        injection e4 with e4 _ e4'
        subst e4 e4'
        obtain ⟨y0, y1, y2⟩ := hi.i2.c3
        have z0 := hi.i2.frozen 0
        have z1 := hi.i2.frozen 1
        have z2 := hi.i2.frozen 2
        have hil := hi.i2.lt
        have HQ := hid (And.intro g1 (And.intro g2 g3))
        have HR := hid (And.intro r1 (And.intro r2 r3))
        have hb3 := set3_blk hi.i2 (.int .i64 b) (.slice A' cs.length c') (.slice A3 fs.length c3)
        obtain ⟨v0, v1, v2⟩ := hb3.c3
        unfold set3 at v0 v1 v2
        have hg3 := set3_grown wr (w.heap.size + 1) (.int .i64 b) (.slice A' cs.length c') (.slice A3 fs.length c3)
        have hr3 := hr.grown hg3 (blk_not hi.i2 (by decide)) (blk_not hi.i2 (by decide))
        have hf3 := hfx.kept hg3 (own_ne hfx (blk_not hi.i2 (by decide)))
        obtain ⟨A6, c6, e6, k1, k2, k3, _, _⟩ := hr3.out
        injection e6 with e6 _ e6'
        subst e6 e6'
        obtain ⟨A7, c7, e7, k4, k5, k6⟩ := own_fixes hf3
        injection e7 with e7 _ e7'
        subst e7 e7'
        have HFIN := hid (show TIn A' c' cs A3 c3 fs (set3 wr (w.heap.size + 1) (.int .i64 b) (.slice A' cs.length c') (.slice A3 fs.length c3)) ∧ Below w.heap.size w (set3 wr (w.heap.size + 1) (.int .i64 b) (.slice A' cs.length c') (.slice A3 fs.length c3)) from
          ⟨⟨k1, k4, k2, k3, k5, k6, HT.out.k⟩, hi.below.grown hg3 hi.below.size (fun k hk => by cases hk; omega)⟩)
        clear hr3 hf3 k1 k2 k3 k4 k5 k6 hg3 hb3
        clear hi hfx g1 g2 g3 hr r1 r2 r3 r4 r5
        go_wp2
        refine bodyPost_ret (v := .agg #[.int .i64 b, .slice A' cs.length c', .slice A3 fs.length c3]) (by simp [results, Try.results19, go_sem, v0, v1, v2]) rfl ?_
        exact ⟨A', c', A3, c3, rfl, HFIN.out⟩
end Go.Proofs.Ytgoianldiomdoaa
/- Opening an argument that is a table. -/
namespace Go.Proofs.Ytgoianldiomdoaa
open Go.ChangeShapes Go.WideShapes Go.ChangeAt Go.RowKit Go.Deep Go.Joins

instance : Inhabited Fx := ⟨⟨0, 0, 0⟩⟩
section
variable {H : Type} {enc : TypeId × Value → H} {W : World} {n : Nat} {v : Value} {y : DataW H × List MemPlace}
set_option maxRecDepth 100000 in
theorem trod_rows (h : DataW.trod enc Try.prog W 0 (fun _ => true) true n 22 [v] = some y) :
    ∃ A c cs, v = .slice A (cs : List (List Int)).length c ∧ IsRows W W.heap.size A cs ∧ cs.length ≤ c ∧ c ≤ maxLen ∧ colsOf cs ≤ maxLen := by
  rcases open_int_rows Try.underlying22 Try.underlying56 Try.underlying3 (by kernel_rfl) (by kernel_rfl) h with ⟨e, _⟩ | ⟨a, len, cap, A, L, C, Z, e, _, hl, hm, _, hr⟩
  · injection e with e
    subst e
    exact ⟨none, 0, [], rfl, (fun r xs hr => by simp at hr), Nat.le_refl 0, Nat.zero_le maxLen, Nat.zero_le maxLen⟩
  · injection e with e
    subst e
    have hlen : ∀ r, r < cap → ((Z r).take (L r)).length = L r := fun r hr' => by
      obtain ⟨_, h1, _, h3, _⟩ := hr r hr'
      rw [List.length_take, h3]; omega
    refine ⟨some a, cap, (List.range len).map fun r => (Z r).take (L r), by simp, fun r xs hx => ?_, by simpa using hl, hm, ?_⟩
    · rw [List.getElem?_map] at hx
      cases hrr : (List.range len)[r]? with
      | none => rw [hrr] at hx; cases hx
      | some r' =>
        obtain ⟨hrl, e⟩ := List.getElem?_eq_some_iff.1 hrr
        simp at hrl
        have : r' = r := by rw [← e]; simp
        subst this
        rw [hrr] at hx
        simp only [Option.map_some] at hx
        injection hx with hx
        subst hx
        obtain ⟨h0, h1, h2, h3, _, h5, h6⟩ := hr r' (by omega)
        refine ⟨a, A r', C r', rfl, by have := block_lt_of_cell h0; rwa [block_of_add] at this, by rw [hlen r' (by omega)]; exact h0, by rw [hlen r' (by omega)]; exact h1, h2, fun i x hi => ?_⟩
        rw [List.getElem?_take] at hi
        split at hi
        · rename_i hil
          cases hA : A r' with
          | none => have := h5 hA; omega
          | some a' =>
            have hc := (h6 a' hA).2 i (by omega)
            rw [show (Z r').getD i 0 = x by simp [List.getD, hi]] at hc
            exact ⟨a', rfl, by have := block_lt_of_cell hc; rwa [block_of_add] at this, hc⟩
        · cases hi
    · cases len with
      | zero => exact Nat.zero_le maxLen
      | succ m =>
        obtain ⟨_, h1, h2, h3, _⟩ := hr 0 (by omega)
        rw [List.range_succ_eq_map]
        show ((Z 0).take (L 0)).length ≤ maxLen
        rw [hlen 0 (by omega)]
        exact Nat.le_trans h1 h2
set_option maxRecDepth 100000 in
theorem trod_fix {a : Addr} {cs : List Value} {x : DataW H × List MemPlace} (hc : W.cells? 0 a 3 = some cs) (h : DataW.trod enc Try.prog W 0 (fun _ => true) true n 64 cs = some x) :
    ∃ f : Fx, W.cell? a = some (.int .i64 f.row) ∧ W.cell? ⟨a.block, a.off + 1, none⟩ = some (.int .i64 f.col) ∧ W.cell? ⟨a.block, a.off + 2, none⟩ = some (.int .i64 f.val) := by
  obtain ⟨y0, y1, y2, m, _, hl, h0, h1, h2⟩ := trod_struct3 Try.underlying64 h
  obtain ⟨_, hlen, hcell⟩ := World.cells?_some hc
  match cs, hlen with
  | [c0, c1, c2], _ =>
    have k : Try.prog.cellsOf 3 = 1 := by kernel_rfl
    simp only [k, List.drop_zero, List.drop_succ_cons, List.take_succ_cons, List.take_zero] at h0 h1 h2
    obtain ⟨n0, e0, _, _⟩ := DataW.trod_int Try.underlying3 h0
    obtain ⟨n1, e1, _, _⟩ := DataW.trod_int Try.underlying3 h1
    obtain ⟨n2, e2, _, _⟩ := DataW.trod_int Try.underlying3 h2
    injection e0 with e0
    injection e1 with e1
    injection e2 with e2
    subst e0 e1 e2
    refine ⟨⟨n0, n1, n2⟩, ?_, ?_, ?_⟩
    · have := hcell 0 (by omega); simpa [Addr.add] using this
    · have := hcell 1 (by omega); simpa [Addr.add] using this
    · have := hcell 2 (by omega); simpa [Addr.add] using this
set_option maxRecDepth 100000 in
theorem trod_fixes (h : DataW.trod enc Try.prog W 0 (fun _ => true) true n 23 [v] = some y) :
    ∃ A c fs, v = .slice A (fs : List Fx).length c ∧ IsFixes W W.heap.size A fs ∧ fs.length ≤ c ∧ c ≤ maxLen := by
  rcases open_slice Try.underlying23 h with ⟨e, _⟩ | ⟨a, len, cap, m, n', D, Pl, e, _, hl, hm, hmm, _, hr⟩
  · injection e with e
    subst e
    exact ⟨none, 0, [], rfl, (fun r xs hr => by simp at hr), Nat.le_refl 0, Nat.zero_le maxLen⟩
  · injection e with e
    subst e
    simp only [if_true] at hmm
    have k : Try.prog.cellsOf 64 = 3 := by kernel_rfl
    obtain ⟨F, hF⟩ := choose_lt (α := Fx) (n := m) (p := fun i f => W.cell? (a.add (i * 3)) = some (.int .i64 f.row) ∧ W.cell? ⟨(a.add (i * 3)).block, (a.add (i * 3)).off + 1, none⟩ = some (.int .i64 f.col) ∧ W.cell? ⟨(a.add (i * 3)).block, (a.add (i * 3)).off + 2, none⟩ = some (.int .i64 f.val)) (fun i hi => by
      obtain ⟨cs', h1, h2⟩ := hr i hi
      rw [k] at h1
      exact trod_fix h1 h2)
    refine ⟨some a, cap, (List.range len).map F, by simp, fun r f hx => ?_, by simpa using hl, hm⟩
    rw [List.getElem?_map] at hx
    cases hrr : (List.range len)[r]? with
    | none => rw [hrr] at hx; cases hx
    | some r' =>
      obtain ⟨hrl, e⟩ := List.getElem?_eq_some_iff.1 hrr
      simp at hrl
      have : r' = r := by rw [← e]; simp
      subst this
      rw [hrr] at hx
      simp only [Option.map_some] at hx
      injection hx with hx
      subst hx
      obtain ⟨h0, h1, h2⟩ := hF r' (by omega)
      exact ⟨a, rfl, by have := block_lt_of_cell h0; rwa [block_of_add] at this, h0, h1, h2⟩
set_option maxRecDepth 100000 in
/-- a table, as an argument -/
theorem open_table {r : Reach} {b0 : Nat} {d : DataW H} {ps : List MemPlace} (hval : Value.okWide Try.prog W r b0 25 v) (hd : DataW.Trod enc Try.prog W 0 (fun _ => true) true 25 v d ps) :
    ∃ b A c cs A2 c2 fs, v = .agg #[.int .i64 b, .slice A (cs : List (List Int)).length c, .slice A2 (fs : List Fx).length c2] ∧ TIn A c cs A2 c2 fs W := by
  obtain ⟨v0, v1, v2, y0, y1, y2, m, rfl, _, _, h0, h1, h2⟩ := open_agg3 Try.underlying25 (by kernel_rfl) (by kernel_rfl) hval hd
  obtain ⟨b, e0, _, _⟩ := DataW.trod_int Try.underlying3 h0
  injection e0 with e0
  subst e0
  obtain ⟨A, c, cs, rfl, r1, r2, r3, r4⟩ := trod_rows h1
  obtain ⟨A2, c2, fs, rfl, f1, f2, f3⟩ := trod_fixes h2
  exact ⟨b, A, c, cs, A2, c2, fs, rfl, ⟨r1, f1, r2, r3, f2, f3, r4⟩⟩
end
end Go.Proofs.Ytgoianldiomdoaa
/- The numbers of the best rounding are neighbours. -/
namespace Go.Proofs.Ytgoianldiomdoaa

theorem low_near {b x : Int} (hb : 2 ≤ b) : lowOf b x % b = 0 ∧ 1 - b ≤ lowOf b x - x ∧ lowOf b x - x ≤ b - 1 := by
  have h1 := Int.emod_nonneg x (show b ≠ 0 by omega)
  have h2 := Int.emod_lt_of_pos x (show 0 < b by omega)
  unfold lowOf
  refine ⟨?_, by omega, by omega⟩
  rw [Int.sub_emod, Int.emod_emod, Int.sub_self]; rfl
theorem high_near {b x : Int} (hb : 2 ≤ b) : highOf b x % b = 0 ∧ 1 - b ≤ highOf b x - x ∧ highOf b x - x ≤ b - 1 := by
  have h := low_near (x := x + b - 1) hb
  have h1 := Int.emod_nonneg (x + b - 1) (show b ≠ 0 by omega)
  have e : lowOf b (x + b - 1) = x + b - 1 - (x + b - 1) % b := rfl
  unfold highOf
  exact ⟨h.1, by omega, by omega⟩
theorem cands_near {b : Int} (hb : 2 ≤ b) : ∀ {xs : List Int}, ∀ l ∈ cands b xs, ∀ (i : Nat) (x v : Int), xs[i]? = some x → l[i]? = some v → v % b = 0 ∧ 1 - b ≤ v - x ∧ v - x ≤ b - 1
  | [], l, _ => fun i x v hx _ => by simp at hx
  | n :: ns, l, h => fun i x v hx hv => by
    simp only [cands, List.mem_append, List.mem_map] at h
    rcases h with ⟨l', h', rfl⟩ | h
    · cases i with
      | zero => simp at hx hv; subst hx hv; exact low_near hb
      | succ i => exact cands_near hb l' h' i x v (by simpa using hx) (by simpa using hv)
    · split at h
      · cases h
      · obtain ⟨l', h', rfl⟩ := List.mem_map.1 h
        cases i with
        | zero => simp at hx hv; subst hx hv; exact high_near hb
        | succ i => exact cands_near hb l' h' i x v (by simpa using hx) (by simpa using hv)
/-- the first list of a table that has a rounding -/
theorem spec_first {b : Int} {cs : List (List Int)} {fs : List Fx} {k : Nat} {s : S4} (h : (spec b cs fs (k + 1) s).ways ≠ 0) :
    (spec b cs fs (k + 1) s).first ∈ outsAt b cs fs (k + 1) ∧ (spec b cs fs k (plusS s (spec b cs fs (k + 1) s).first)).ways ≠ 0 := by
  have hall : ∀ (ls : List (List Int)) (acc : Rst), (∀ l ∈ ls, l ∈ outsAt b cs fs (k + 1)) → (acc.ways ≠ 0 → acc.first ∈ outsAt b cs fs (k + 1) ∧ (spec b cs fs k (plusS s acc.first)).ways ≠ 0) →
      ((ls.foldl (fun acc l => stepR (rowAt cs (k + 1)) (spec b cs fs k (plusS s l)) acc l) acc).ways ≠ 0 → (ls.foldl (fun acc l => stepR (rowAt cs (k + 1)) (spec b cs fs k (plusS s l)) acc l) acc).first ∈ outsAt b cs fs (k + 1) ∧
        (spec b cs fs k (plusS s (ls.foldl (fun acc l => stepR (rowAt cs (k + 1)) (spec b cs fs k (plusS s l)) acc l) acc).first)).ways ≠ 0) := by
    intro ls
    induction ls with
    | nil => intro acc _ h; exact h
    | cons l ls ih =>
      intro acc hl h
      rw [List.foldl_cons]
      refine ih _ (fun l' hl' => hl l' (List.mem_cons_of_mem _ hl')) ?_
      unfold stepR
      by_cases hz : ((spec b cs fs k (plusS s l)).ways == 0) = true
      · rw [if_pos hz]; exact h
      · rw [if_neg hz]
        have hz' : (spec b cs fs k (plusS s l)).ways ≠ 0 := by simpa using hz
        split
        · intro _; exact ⟨hl l (by simp), hz'⟩
        · rename_i hn
          intro _
          refine h ?_
          simp only [Bool.or_eq_true, not_or] at hn
          simpa using hn.1
  have := hall (outsAt b cs fs (k + 1)) ⟨0, 0, []⟩ (fun l hl => hl) (fun h => absurd rfl h)
  exact this h
theorem ways_at {b : Int} {cs : List (List Int)} {fs : List Fx} (h : (spec b cs fs cs.length zeroS).ways ≠ 0) : ∀ j, j ≤ cs.length → (spec b cs fs (cs.length - j) (sAt b cs fs j)).ways ≠ 0
  | 0, _ => h
  | j + 1, hj => by
    have ih := ways_at h j (by omega)
    obtain ⟨k, hk⟩ : ∃ k, cs.length - j = k + 1 := ⟨cs.length - j - 1, by omega⟩
    show (spec b cs fs (cs.length - (j + 1)) (plusS (sAt b cs fs j) (spec b cs fs (cs.length - j) (sAt b cs fs j)).first)).ways ≠ 0
    rw [hk] at ih ⊢
    rw [show cs.length - (j + 1) = k by omega]
    exact (spec_first ih).2
/-- each number of the best rounding is a neighbour of its cell -/
theorem best_near {b : Int} {cs : List (List Int)} {fs : List Fx} (hb : 2 ≤ b) (h : (spec b cs fs cs.length zeroS).ways ≠ 0) {j : Nat} {xs cells : List Int} (hx : (bestOf b cs fs cs.length zeroS)[j]? = some xs) (hc : cs[j]? = some cells) :
    xs.length = cells.length ∧ ∀ (i : Nat) (x v : Int), cells[i]? = some x → xs[i]? = some v → v % b = 0 ∧ 1 - b ≤ v - x ∧ v - x ≤ b - 1 := by
  have hj := (List.getElem?_eq_some_iff.1 hc).1
  have hg := bestOf_get (b := b) (cs := cs) (fs := fs) j 0 cs.length (by omega) hj
  simp only [Nat.zero_add] at hg
  have e0 : sAt b cs fs 0 = zeroS := rfl
  rw [e0, hx] at hg
  injection hg with hg
  subst hg
  have hw := ways_at h j (by omega)
  obtain ⟨k, hk⟩ : ∃ k, cs.length - j = k + 1 := ⟨cs.length - j - 1, by omega⟩
  rw [hk] at hw ⊢
  have hm := (outs_mem (spec_first hw).1).1
  have hr : rowAt cs (k + 1) = cells := by
    have := rowAt_get (cs := cs) (k := k) (by omega)
    rw [show cs.length - (k + 1) = j by omega, hc] at this
    injection this with this
    exact this.symm
  rw [hr] at hm
  exact ⟨cands_len _ hm, fun i x v hx hv => cands_near hb _ hm i x v hx hv⟩
end Go.Proofs.Ytgoianldiomdoaa
/- A statement whose order is open: the law, with a phase that sees the activation. -/
namespace Go.Proofs.Ytgoianldiomdoaa
open Go.RowKit

structure Known2 (ops : Array Oper) (n : Nat) (R : Nat → Value → World → Prop) (St : World → World → Prop) (G : Array Bool → Act → World → Prop) (a : Act) (w : World) (listed : Array Bool) (a' : Act) (W : World) : Prop where
  inv : HeadInv .any ops n listed
  st : St w W
  ph : G listed a' W
  defers : a'.defers = a.defers
  size : a'.tmps.size = a.tmps.size
  rest : ∀ d, (∀ i, i < n → (ops[i]?).bind (·.dst) ≠ some d) → a'.tmps.getD d undef = a.tmps.getD d undef
  rel : ∀ i, i < n → listed.getD i false = true → ∀ d, (ops[i]?).bind (·.dst) = some d → R i (a'.tmps.getD d undef) W

theorem wpAnyIn_rel2 {F : Fence} {m : Nat} {P : Program} {ops : Array Oper} {n : Nat} {Q : Exit → Act → World → Prop} {a : Act} {w : World} {R : Nat → Value → World → Prop} {St : World → World → Prop} {G : Array Bool → Act → World → Prop}
    (hB : relB ops n = true) (hR : ∀ i v W W', St W W' → R i v W → R i v W') (hT : ∀ {A B C : World}, St A B → St B C → St A C)
    (hds : ∀ i, i < n → ∀ d, (ops[i]?).bind (·.dst) = some d → d < a.tmps.size)
    (hstep : ∀ i o (listed : Array Bool) (a' : Act) (W : World), i < n → ops[i]? = some o → listed.size = ops.size → listed.getD i false = false →
      (∀ j oj, ops[j]? = some oj → listed.getD j false = true → ∀ e ∈ oj.after, Region.binds .any e = true → listed.getD e.on false = true) →
      G listed a' W → St w W → a'.defers = a.defers → a'.tmps.size = a.tmps.size →
      (∀ d, (∀ i, i < n → (ops[i]?).bind (·.dst) ≠ some d) → a'.tmps.getD d undef = a.tmps.getD d undef) →
      (∀ j, (∃ e, e ∈ o.after ∧ Region.binds .any e = true ∧ e.on = j) → listed.getD j false = true ∧ ∀ d, (ops[j]?).bind (·.dst) = some d → R j (a'.tmps.getD d undef) W) →
      ∀ K : Act → World → Prop, (∀ v W', R i v W' → St W W' → G (listed.setIfInBounds i true) (a'.put o.dst v) W' → K (a'.put o.dst v) W') → wpOpIn F m P ops Q i K a' W)
    (hend : ∀ (listed : Array Bool) (a' : Act) (W : World), (∀ i, i < n → listed.getD i false = true) → G listed a' W → St w W → a'.defers = a.defers → a'.tmps.size = a.tmps.size →
      (∀ d, (∀ i, i < n → (ops[i]?).bind (·.dst) ≠ some d) → a'.tmps.getD d undef = a.tmps.getD d undef) →
      (∀ i, i < n → ∀ d, (ops[i]?).bind (·.dst) = some d → R i (a'.tmps.getD d undef) W) → wpListIn F m P ops Q (ops.toList.drop n) a' W) :
    ∀ (f : Nat) (listed : Array Bool) (a' : Act) (W : World), (unlistedOf n listed).length = f → Known2 ops n R St G a w listed a' W → wpAnyIn F m P .any ops Q (f + (ops.size - n)) listed a' W := by
  simp only [relB, Bool.and_eq_true, decide_eq_true_eq] at hB
  obtain ⟨⟨⟨⟨⟨hdeps, hdst⟩, hn⟩, hs⟩, hc⟩, hseq⟩ := hB
  intro f
  induction f with
  | zero =>
    intro listed a' W hf hk
    have hnone : ∀ i, i < n → listed.getD i false = true := by
      intro i hi
      cases hl : listed.getD i false with
      | true => rfl
      | false =>
        have : i ∈ unlistedOf n listed := List.mem_filter.2 ⟨List.mem_range.2 hi, by simp [hl]⟩
        rw [List.eq_nil_of_length_eq_zero hf] at this
        cases this
    have hcan : listed = Array.replicate n true ++ Array.replicate (ops.size - n) false := by
      apply Array.ext
      · simp [hk.inv.size]; omega
      · intro i h1 h2
        by_cases hi : i < n
        · have := hnone i hi
          rw [Array.getElem_append_left (by simpa using hi)]
          simpa [Array.getD_eq_getD_getElem?, h1] using this
        · have := hk.inv.tail i (by omega) (by rw [← hk.inv.size]; exact h1)
          rw [Array.getElem_append_right (by simpa using hi)]
          simpa [Array.getD_eq_getD_getElem?, h1] using this
    have hl : (ops.toList.drop n).length = ops.size - n := by simp
    rw [Nat.zero_add, ← hl]
    refine wpAnyIn_of_seq (ops.toList.drop n) n listed a' W (fun j => by simp [List.getElem?_drop]) (by rw [hl, hcan]; exact hseq) ?_
    exact hend listed a' W hnone hk.ph hk.st hk.defers hk.size hk.rest (fun i hi d hd => hk.rel i hi (hnone i hi) d hd)
  | succ f ih =>
    intro listed a' W hf hk
    have hne : unlistedOf n listed ≠ [] := fun h => by rw [h] at hf; cases hf
    obtain ⟨i0, hi0⟩ := List.exists_mem_of_ne_nil _ hne
    have hi0n : i0 < n := List.mem_range.1 (List.mem_filter.1 hi0).1
    have hi0f : listed.getD i0 false = false := by simpa using (List.mem_filter.1 hi0).2
    have hhead : ∀ i ∈ Region.ready .any ops listed, i < n := by
      intro i hi
      rcases Nat.lt_or_ge i n with h | h
      · exact h
      · exact absurd hi (tail_waits hs hc hn hk.inv (n - i0) i0 rfl hi0n (getD_in (by rw [hk.inv.size]; omega) hi0f) i h)
    have hready : Region.ready .any ops listed ≠ [] := by
      have key : ∀ m i, i ≤ m → i < n → listed.getD i false = false → ∃ j, j ∈ Region.ready .any ops listed := by
        intro m
        induction m with
        | zero =>
          intro i hi hin hl
          obtain rfl : i = 0 := by omega
          have ho : ops[0]? = some (ops[0]'(by omega)) := Array.getElem?_eq_getElem _
          exact ⟨0, mem_ready.2 ⟨getD_in (by rw [hk.inv.size]; omega) hl, _, ho, fun e he hb => absurd (depsB_spec hdeps ho he hb) (Nat.not_lt_zero _)⟩⟩
        | succ m ihm =>
          intro i hi hin hl
          have ho : ops[i]? = some (ops[i]'(by omega)) := Array.getElem?_eq_getElem _
          by_cases hall : ∀ e ∈ (ops[i]'(by omega)).after, Region.binds .any e = true → listed.getD e.on false = true
          · exact ⟨i, mem_ready.2 ⟨getD_in (by rw [hk.inv.size]; omega) hl, _, ho, hall⟩⟩
          · simp only [Classical.not_forall] at hall
            obtain ⟨e, he, hb, hnl⟩ := hall
            have hlt := depsB_spec hdeps ho he hb
            exact ihm e.on (by omega) (by omega) (by simpa using hnl)
      obtain ⟨j, hj⟩ := key i0 i0 (Nat.le_refl _) hi0n hi0f
      exact List.ne_nil_of_mem hj
    rw [show f + 1 + (ops.size - n) = (f + (ops.size - n)) + 1 by omega]
    refine ⟨fun h => absurd h hready, fun i hi => ?_⟩
    have hin := hhead i hi
    obtain ⟨hlt, o, ho, hall⟩ := mem_ready.1 hi
    have hif : listed.getD i false = false := getD_both hlt
    refine hstep i o listed a' W hin ho hk.inv.size hif hk.inv.closed hk.ph hk.st hk.defers hk.size hk.rest (fun j ⟨e, he, hb, hj⟩ => by
      subst hj
      exact ⟨hall e he hb, fun d hd => hk.rel e.on (by have := depsB_spec hdeps ho he hb; omega) (hall e he hb) d hd⟩) _ ?_
    intro v W' hv hst hg
    refine ih _ _ _ ?_ ⟨hk.inv.set hi hin, hT hk.st hst, hg, by rw [put_defers]; exact hk.defers, by rw [put_size]; exact hk.size, fun d hd => ?_, fun j hj hl d hd => ?_⟩
    · have hsz : i < listed.size := by rw [hk.inv.size]; omega
      have : (unlistedOf n (listed.setIfInBounds i true)) = (unlistedOf n listed).filter (fun j => !(j == i)) := by
        unfold unlistedOf
        rw [List.filter_filter]
        apply List.filter_congr
        intro j _
        by_cases hji : j = i
        · subst hji; rw [getD_set_eq hsz]; simp
        · rw [getD_set_oth (fun h => hji h.symm)]; simp [hji]
      rw [this]
      have hnd : (unlistedOf n listed).Nodup := List.Nodup.sublist List.filter_sublist List.nodup_range
      have hmem : i ∈ unlistedOf n listed := List.mem_filter.2 ⟨List.mem_range.2 hin, by simp [hif]⟩
      have he : (unlistedOf n listed).filter (fun j => !(j == i)) = (unlistedOf n listed).erase i := by
        rw [hnd.erase_eq_filter]; rfl
      rw [he, List.length_erase_of_mem hmem, hf]; rfl
    · have hne' : o.dst ≠ some d := by
        have := hd i hin
        rw [ho] at this
        exact this
      cases hod : o.dst with
      | none => simpa [Act.put, hod] using hk.rest d hd
      | some d' =>
        rw [put_getD_other (by rintro rfl; exact hne' hod)]
        exact hk.rest d hd
    · by_cases hji : j = i
      · subst hji
        rw [ho] at hd
        have hod : o.dst = some d := hd
        rw [hod, put_getD_same (by rw [hk.size]; exact hds j hj d (by rw [ho]; exact hod))]
        exact hv
      · rw [getD_set_oth (fun h => hji h.symm)] at hl
        have hR' := hR j _ _ _ hst (hk.rel j hj hl d hd)
        cases hod : o.dst with
        | none => simpa [Act.put, hod] using hR'
        | some d' =>
          rw [put_getD_other (by
            rintro rfl
            exact dstsB_spec hdst hin hj (fun h => hji h.symm) (by rw [ho]; exact hod) hd)]
          exact hR'

theorem wpIn_region_rel2 {F : Fence} {m : Nat} {P : Program} {id : Nat} {Q : Exit → Act → World → Prop} {a : Act} {w : World} {l : List Oper} (n : Nat) (R : Nat → Value → World → Prop) (St : World → World → Prop) (G : Array Bool → Act → World → Prop) (hm : P.follows .mixedOrders = true)
    (hB : relB l.toArray n = true) (hR : ∀ i v W W', St W W' → R i v W → R i v W') (hT : ∀ {A B C : World}, St A B → St B C → St A C) (h0 : St w { w with drawn := w.drawn + 1 }) (hG : G (Array.replicate l.length false) a { w with drawn := w.drawn + 1 })
    (hds : (List.range n).all (fun i => (((l.toArray[i]?).bind (·.dst)).all fun d => decide (d < a.tmps.size))) = true)
    (hstep : ∀ i o (listed : Array Bool) (a' : Act) (W : World), i < n → l[i]? = some o → listed.size = l.length → listed.getD i false = false →
      (∀ j oj, l[j]? = some oj → listed.getD j false = true → ∀ e ∈ oj.after, Region.binds .any e = true → listed.getD e.on false = true) →
      G listed a' W → St w W → a'.defers = a.defers → a'.tmps.size = a.tmps.size →
      (∀ d, (∀ i, i < n → (l.toArray[i]?).bind (·.dst) ≠ some d) → a'.tmps.getD d undef = a.tmps.getD d undef) →
      (∀ j, (∃ e, e ∈ o.after ∧ Region.binds .any e = true ∧ e.on = j) → listed.getD j false = true ∧ ∀ d, (l.toArray[j]?).bind (·.dst) = some d → R j (a'.tmps.getD d undef) W) →
      ∀ K : Act → World → Prop, (∀ v W', R i v W' → St W W' → G (listed.setIfInBounds i true) (a'.put o.dst v) W' → K (a'.put o.dst v) W') → wpOpIn F m P l.toArray Q i K a' W)
    (hend : ∀ (listed : Array Bool) (a' : Act) (W : World), (∀ i, i < n → listed.getD i false = true) → G listed a' W → St w W → a'.defers = a.defers → a'.tmps.size = a.tmps.size →
      (∀ d, (∀ i, i < n → (l.toArray[i]?).bind (·.dst) ≠ some d) → a'.tmps.getD d undef = a.tmps.getD d undef) →
      (∀ i, i < n → ∀ d, (l.toArray[i]?).bind (·.dst) = some d → R i (a'.tmps.getD d undef) W) → wpListIn F m P l.toArray Q (l.drop n) a' W) :
    (Code.region id l.toArray true).wpIn F m P Q a w := by
  refine wpIn_region_any hm ?_
  have hn : n < l.toArray.size := by
    simp only [relB, Bool.and_eq_true, decide_eq_true_eq] at hB
    exact hB.1.1.1.2
  have hu : (unlistedOf n (Array.replicate l.toArray.size false)).length = n := by
    have : unlistedOf n (Array.replicate l.toArray.size false) = List.range n := by
      unfold unlistedOf
      rw [List.filter_eq_self]
      intro i _
      rw [getD_replicate_false]; rfl
    rw [this, List.length_range]
  have hds' : ∀ i, i < n → ∀ d, (l.toArray[i]?).bind (·.dst) = some d → d < a.tmps.size := by
    intro i hi d hd
    have := List.all_eq_true.1 hds i (List.mem_range.2 hi)
    rw [hd] at this
    simpa using this
  have H := wpAnyIn_rel2 (F := F) (m := m) (P := P) (ops := l.toArray) (n := n) (Q := Q) (a := a) (w := w) (R := R) (St := St) (G := G) hB hR hT hds' (fun i o listed a' W hi ho hs h1 h2 => hstep i o listed a' W hi (by simpa using ho) (by simpa using hs) h1 (fun j oj hj => h2 j oj (by simpa using hj)))
    (fun listed a' W h0 h1 h2 h3 h4 h5 h6 => by simpa using hend listed a' W h0 h1 h2 h3 h4 h5 h6) n (Array.replicate l.toArray.size false) a { w with drawn := w.drawn + 1 } hu
    ⟨⟨by simp, fun j oj _ hl => (by rw [getD_replicate_false] at hl; cases hl), fun t _ ht => getD_in (by simpa using ht) (getD_replicate_false _ _)⟩, h0, by simpa using hG, rfl, rfl, fun _ _ => rfl, fun i _ hl => by rw [getD_replicate_false] at hl; cases hl⟩
  rwa [show n + (l.toArray.size - n) = l.toArray.size by omega] at H

structure At2 (l : List Oper) (n : Nat) (R : Nat → Value → World → Prop) (St : World → World → Prop) (G : Array Bool → Act → World → Prop) (a : Act) (w : World) (i : Nat) (o : Oper) (listed : Array Bool) (a' : Act) (W : World) : Prop where
  lsize : listed.size = l.length
  new : listed.getD i false = false
  closed : ∀ j oj, l[j]? = some oj → listed.getD j false = true → ∀ e ∈ oj.after, Region.binds .any e = true → listed.getD e.on false = true
  ph : G listed a' W
  st : St w W
  defers : a'.defers = a.defers
  size : a'.tmps.size = a.tmps.size
  rest : ∀ d, (∀ i, i < n → (l.toArray[i]?).bind (·.dst) ≠ some d) → a'.tmps.getD d undef = a.tmps.getD d undef
  dep : ∀ j, (∃ e, e ∈ o.after ∧ Region.binds .any e = true ∧ e.on = j) → listed.getD j false = true ∧ ∀ d, (l.toArray[j]?).bind (·.dst) = some d → R j (a'.tmps.getD d undef) W

structure Done2 (l : List Oper) (n : Nat) (R : Nat → Value → World → Prop) (St : World → World → Prop) (G : Array Bool → Act → World → Prop) (a : Act) (w : World) (listed : Array Bool) (a' : Act) (W : World) : Prop where
  all : ∀ i, i < n → listed.getD i false = true
  ph : G listed a' W
  st : St w W
  defers : a'.defers = a.defers
  size : a'.tmps.size = a.tmps.size
  rest : ∀ d, (∀ i, i < n → (l.toArray[i]?).bind (·.dst) ≠ some d) → a'.tmps.getD d undef = a.tmps.getD d undef
  dep : ∀ i, i < n → ∀ d, (l.toArray[i]?).bind (·.dst) = some d → R i (a'.tmps.getD d undef) W

section
variable {l : List Oper} {n : Nat} {R : Nat → Value → World → Prop} {St : World → World → Prop} {G : Array Bool → Act → World → Prop} {a : Act} {w : World} {i : Nat} {o : Oper} {listed : Array Bool} {a' : Act} {W : World}
theorem At2.val (h : At2 l n R St G a w i o listed a' W) (j d : Nat) (hj : edgeB o j = true) (hd : dstB l j d = true) : R j (a'.tmps.getD d undef) W := by
  refine (h.dep j (edgeB_spec hj)).2 d ?_
  simpa [dstB] using hd
theorem At2.has (h : At2 l n R St G a w i o listed a' W) (j : Nat) (hj : edgeB o j = true) : listed.getD j false = true := (h.dep j (edgeB_spec hj)).1
theorem At2.past (h : At2 l n R St G a w i o listed a' W) {j : Nat} (hl : listed.getD j false = true) (k : Nat) (hj : ((l[j]?).map fun o => edgeB o k).getD false = true) : listed.getD k false = true := by
  cases ho : l[j]? with
  | none => rw [ho] at hj; cases hj
  | some oj =>
    rw [ho] at hj
    obtain ⟨e, he, hb, hk⟩ := edgeB_spec (show edgeB oj k = true from hj)
    rw [← hk]
    exact h.closed j oj ho hl e he hb
theorem At2.par (h : At2 l n R St G a w i o listed a' W) (d : Nat) (hd : parB l n d = true) : a'.tmps.getD d undef = a.tmps.getD d undef := h.rest d (parB_spec hd)
theorem Done2.val (h : Done2 l n R St G a w listed a' W) (j d : Nat) (hj : decide (j < n) = true) (hd : dstB l j d = true) : R j (a'.tmps.getD d undef) W := by
  refine h.dep j (of_decide_eq_true hj) d ?_
  simpa [dstB] using hd
theorem Done2.par (h : Done2 l n R St G a w listed a' W) (d : Nat) (hd : parB l n d = true) : a'.tmps.getD d undef = a.tmps.getD d undef := h.rest d (parB_spec hd)
end
theorem wpIn_region_each2 {F : Fence} {m : Nat} {P : Program} {id : Nat} {Q : Exit → Act → World → Prop} {a : Act} {w : World} {l : List Oper} (n : Nat) (R : Nat → Value → World → Prop) (St : World → World → Prop) (G : Array Bool → Act → World → Prop) (hm : P.follows .mixedOrders = true)
    (hB : relB l.toArray n = true) (hR : ∀ i v W W', St W W' → R i v W → R i v W') (hT : ∀ {A B C : World}, St A B → St B C → St A C) (h0 : St w { w with drawn := w.drawn + 1 }) (hG : G (Array.replicate l.length false) a { w with drawn := w.drawn + 1 })
    (hds : (List.range n).all (fun i => (((l.toArray[i]?).bind (·.dst)).all fun d => decide (d < a.tmps.size))) = true)
    (hstep : AllI (fun i o => ∀ (listed : Array Bool) (a' : Act) (W : World), At2 l n R St G a w i o listed a' W →
      ∀ K : Act → World → Prop, (∀ v W', R i v W' → St W W' → G (listed.setIfInBounds i true) (a'.put o.dst v) W' → K (a'.put o.dst v) W') → wpOpIn F m P l.toArray Q i K a' W) 0 (l.take n))
    (hend : ∀ (listed : Array Bool) (a' : Act) (W : World), Done2 l n R St G a w listed a' W → wpListIn F m P l.toArray Q (l.drop n) a' W) :
    (Code.region id l.toArray true).wpIn F m P Q a w := by
  refine wpIn_region_rel2 n R St G hm hB hR hT h0 hG hds ?_ ?_
  · intro i o listed a' W hi ho h1 h2 h3 h4 h5 h6 h7 h8 h9 K hK
    have := hstep.get (i := i) (o := o) (by rw [List.getElem?_take_of_lt hi]; exact ho)
    rw [Nat.zero_add] at this
    exact this listed a' W ⟨h1, h2, h3, h4, h5, h6, h7, h8, h9⟩ K hK
  · intro listed a' W h1 h2 h3 h4 h5 h6 h7
    exact hend listed a' W ⟨h1, h2, h3, h4, h5, h6, h7⟩
section
variable {l : List Oper} {n : Nat} {R : Nat → Value → World → Prop} {St : World → World → Prop} {G : Array Bool → Act → World → Prop} {a : Act} {w : World} {li : Array Bool} {a' : Act} {W : World}
theorem Done2.act (h : Done2 l n R St G a w li a' W) (ds : List Nat) (hds : dstsIn l n ds = true) :
    a' = { tmps := (mix ds (fun i => a'.tmps.getD i undef) 0 a.tmps.toList).toArray, defers := a.defers } := by
  refine act_mix ds h.size h.defers fun i hi hc => h.rest i fun k hk e => ?_
  have h1 := List.all_eq_true.1 hds k (List.mem_range.2 hk)
  rw [e] at h1
  simp only [Option.all_some] at h1
  rw [h1] at hc
  cases hc
theorem Done2.act_then (h : Done2 l n R St G a w li a' W) (ds : List Nat) (hds : dstsIn l n ds = true) {a4 : Act} {d : Nat} (hs : a4.tmps.size = a'.tmps.size) (hd : a4.defers = a'.defers) (ho : ∀ d', d' ≠ d → a4.tmps.getD d' undef = a'.tmps.getD d' undef) (hdd : ds.contains d = true) :
    a4 = { tmps := (mix ds (fun i => a4.tmps.getD i undef) 0 a.tmps.toList).toArray, defers := a.defers } := by
  refine act_mix ds (hs.trans h.size) (hd.trans h.defers) fun i hi hc => (ho i (fun e => by rw [e, hdd] at hc; cases hc)).trans (h.rest i fun k hk e => ?_)
  have h1 := List.all_eq_true.1 hds k (List.mem_range.2 hk)
  rw [e] at h1
  simp only [Option.all_some] at h1
  rw [h1] at hc
  cases hc
theorem Done2.keeps (h : Done2 l n R St G a w li a' W) {ds : List Nat} (hds : dstsIn l n ds = true) : ∀ i, ds.contains i = false → a'.tmps.getD i undef = a.tmps.getD i undef := fun i hc => h.rest i fun k hk e => by
  have h1 := List.all_eq_true.1 hds k (List.mem_range.2 hk)
  rw [e] at h1
  simp only [Option.all_some] at h1
  rw [h1] at hc
  cases hc
end

end Go.Proofs.Ytgoianldiomdoaa
