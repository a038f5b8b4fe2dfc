/- For every table, fix and cell, a further fix leaves no more roundings, and a fix of a cell to each of its neighbours divides them: the statement RoundFixed. No condition. -/
import Derived.Test.YtgoianldiomdoaaG12
import Derived.Deep.DeepCutAuto
import Derived.SizedLaws
namespace Go.Proofs.Ytgoianldiomdoaa
open Go.RowKit Go.Shelf

/-- a table in its box, with one fix more -/
structure FB (b : Int) (A : Option Addr) (c : Nat) (cs : List (List Int)) (fs : List Fx) (f : Fx) (Bx : Nat) (A3 : Option Addr) (c3 : Nat) (W : World) : Prop where
  bx : Blk W Bx 25 #[.int .i64 b, .slice A cs.length c, .slice A3 (fs.length + 1) c3]
  own : ∃ base, W.ownsRow base 64 3 (.slice A3 (fs.length + 1) c3) (fs.length + 1) (fxs (fs ++ [f]))
theorem ways_wrap {b : Int} {cs : List (List Int)} {fs : List Fx} (ok : TOk b cs fs) : 0 ≤ (spec b cs fs cs.length zeroS).ways ∧ (spec b cs fs cs.length zeroS).ways ≤ 1048576 := by
  have h := (bnd_spec ok cs.length (Nat.le_refl _) zeroS).1
  have h1 := h.w1
  have h2 := h.w2
  have h3 := ok.okc.n2
  generalize (spec b cs fs cs.length zeroS).ways = x at *
  clear h
  generalize cs.length = n at *
  rcases (by omega : n = 0 ∨ n = 1 ∨ n = 2 ∨ n = 3 ∨ n = 4 ∨ n = 5) with rfl | rfl | rfl | rfl | rfl | rfl <;> omega
theorem FB.at_ {b : Int} {A : Option Addr} {c : Nat} {cs : List (List Int)} {fs : List Fx} {f : Fx} {Bx : Nat} {A3 : Option Addr} {c3 : Nat} {W W' : World} (h : FB b A c cs fs f Bx A3 c3 W) (hb : Below W.heap.size W W') : FB b A c cs fs f Bx A3 c3 W' :=
  ⟨h.bx.keep hb, ex_of h.own fun _ ho => row_kept (vo := .slice none 0 0) ho (grown_of_below hb _) (.inl rfl)⟩
theorem FB.tin {b : Int} {A : Option Addr} {c : Nat} {cs : List (List Int)} {A2 : Option Addr} {c2 : Nat} {fs : List Fx} {f : Fx} {Bx : Nat} {A3 : Option Addr} {c3 : Nat} {W : World} (h : FB b A c cs fs f Bx A3 c3 W) (ht : TIn A c cs A2 c2 fs W) : TIn A c cs A3 c3 (fs ++ [f]) W := by
  obtain ⟨base, ho⟩ := h.own
  have hl : (fs ++ [f]).length = fs.length + 1 := by simp
  rw [← hl] at ho
  obtain ⟨A', c', e, g1, g2, g3⟩ := own_rfixes ho
  injection e with e _ e'
  subst e e'
  exact ⟨ht.ic, g1, ht.l1, ht.m1, g2, g3, ht.k⟩

set_option maxRecDepth 100000 in
set_option maxHeartbeats 600000 in
theorem fixed_any (b : Int) (A : Option Addr) (c : Nat) (cs : List (List Int)) (A2 : Option Addr) (c2 : Nat) (fs : List Fx) (f : Fx) (q : Int) (w : World) (h : TIn A c cs A2 c2 fs w) (hs : fs.length * 24 ≤ 140737488351232) (hq0 : 0 ≤ q) (hq1 : q ≤ 255) :
    Calls Try.prog 6 #[.agg #[.int .i64 b, .slice A cs.length c, .slice A2 fs.length c2], .agg #[.int .i64 f.row, .int .i64 f.col, .int .i64 f.val], .int .u8 q] w fun e w' => e = .returned (.bool true) ∧ Below w.heap.size w w' := by
  have HH := hid h
  have HFL := hid (show (fs ++ [f]).length = fs.length + 1 by simp)
  clear h
  go_enter Try.func6, Try.ntmps6
  go_wp2
  refine gen (p := Code.wp _ _ _ _) (fun W => Below w.heap.size w W ∧ Blk W w.heap.size 25 #[.int .i64 b, .slice A cs.length c, .slice A2 fs.length c2] ∧ Blk W (w.heap.size + 1) 64 #[.int .i64 f.row, .int .i64 f.col, .int .i64 f.val] ∧ Blk W (w.heap.size + 2) 25 #[.int .i64 b, .slice A cs.length c, .slice A2 fs.length c2]) ?_ ?_
  · have h1 := (Below.refl w.heap.size w).alloc (Nat.le_refl _) (.cells #[.int .i64 b, .slice A cs.length c, .slice A2 fs.length c2] 25)
    have h2 := h1.alloc (by simp) (.cells #[.int .i64 f.row, .int .i64 f.col, .int .i64 f.val] 64)
    have h3 := h2.alloc (by simp; omega) (.cells #[.int .i64 b, .slice A cs.length c, .slice A2 fs.length c2] 25)
    have k1 := ((Blk.new w 25 #[.int .i64 b, .slice A cs.length c, .slice A2 fs.length c2]).alloc (.cells #[.int .i64 f.row, .int .i64 f.col, .int .i64 f.val] 64)).alloc (.cells #[.int .i64 b, .slice A cs.length c, .slice A2 fs.length c2] 25)
    have k2 := (Blk.new (w.alloc (.cells #[.int .i64 b, .slice A cs.length c, .slice A2 fs.length c2] 25)) 64 #[.int .i64 f.row, .int .i64 f.col, .int .i64 f.val]).alloc (.cells #[.int .i64 b, .slice A cs.length c, .slice A2 fs.length c2] 25)
    have k3 := Blk.new ((w.alloc (.cells #[.int .i64 b, .slice A cs.length c, .slice A2 fs.length c2] 25)).alloc (.cells #[.int .i64 f.row, .int .i64 f.col, .int .i64 f.val] 64)) 25 #[.int .i64 b, .slice A cs.length c, .slice A2 fs.length c2]
    simp only [World.size_alloc] at k2 k3
    exact ⟨h3, k1, k2, k3⟩
  rintro W1 ⟨hb1, k1, k2, k3⟩
  obtain ⟨Bx, hBx⟩ : ∃ Bx, Bx = w.heap.size + 1 + 1 := ⟨_, rfl⟩
  rw [show w.heap.size + 2 = Bx by omega] at k3
  rw [← hBx]
  have hbxl : w.heap.size + 2 ≤ Bx := by omega
  have HBXE := hid hBx
  clear hBx
  have HB1 := hid hb1
  have HT1 := hid k1
  have HF1 := hid k2
  have HBX := hid k3
  have HIX := hid (HH.out.at_ hb1).ix
  have HTB := hid (fun (W2 : World) (hW : Below W1.heap.size W1 W2) => (k1.keep hW).c3)
  have HFB := hid (fun (W2 : World) (hW : Below W1.heap.size W1 W2) => (k2.keep hW).c3)
  clear hb1 k1 k2 k3
  refine (wpIn_wide (n := 0)).1 ?_
  refine wpIn_region_each 6 (fun i v W' => match i with | 0 => ∃ g0, v = .slice (some ⟨g0, 0, none⟩) 0 0 ∧ W1.heap.size ≤ g0 ∧ Blk W' g0 64 #[] | 1 => v = .pointer (some ⟨w.heap.size, 2, none⟩) | 2 => v = .slice A2 fs.length c2 | 3 => ∃ v3, v = v3 ∧ W'.ownsRow W1.heap.size 64 3 v3 fs.length (fxs fs) | 4 => v = .agg #[.int .i64 f.row, .int .i64 f.col, .int .i64 f.val] | 5 => ∃ gl, v = .slice (some ⟨gl, 0, none⟩) 1 1 ∧ Blk W' gl 64 #[.int .i64 f.row, .int .i64 f.col, .int .i64 f.val] | _ => True) (fun A B => Below A.heap.size A B) (fun _ _ => True) (by kernel_rfl) (by kernel_rfl) ?_ (fun h k => h.trans (k.mono h.size)) ⟨rfl, rfl, rfl, Nat.le_refl _, fun _ _ => rfl⟩ trivial (by kernel_rfl) ?_ ?_
  · intro i v W1 W2 hb h
    match i, h with
    | 0, h =>
      obtain ⟨g0, rfl, h1⟩ := h
      exact ⟨_, rfl, h1.1, h1.2.keep hb⟩
    | 1, h => exact h
    | 2, h => exact h
    | 3, h =>
      obtain ⟨v3, rfl, h1⟩ := h
      exact ⟨_, rfl, row_kept (vo := .slice none 0 0) h1 (grown_of_below hb _) (.inl rfl)⟩
    | 4, h => exact h
    | 5, h =>
      obtain ⟨gl, rfl, h1⟩ := h
      exact ⟨_, rfl, h1.keep hb⟩
    | i + 6, h => trivial
  · refine ⟨?_, ?_, ?_, ?_, ?_, ?_, trivial⟩
    · -- 0
      intro li a1 W2 hA K hK
      refine opStep none 0 rfl rfl (fun c hc => by cases hc) ?_
      go_simp
      exact hK _ _ ⟨_, rfl, by have := hA.st.size; omega, Blk.new _ _ _⟩ ((Below.refl _ _).alloc (Nat.le_refl _) _) trivial
    · -- 1
      intro li a1 W2 hA K hK
      have e3 := hA.par 3 (by kernel_rfl)
      refine opStep none 0 rfl rfl (fun c hc => by cases hc) ?_
      go_simp
      exact hK _ _ rfl (Below.refl _ _) trivial
    · -- 2
      intro li a1 W2 hA K hK
      have e29 : a1.tmps.getD 29 undef = .pointer (some ⟨w.heap.size, 2, none⟩) := hA.val 1 29 (by kernel_rfl) (by kernel_rfl)
      obtain ⟨_, _, q1⟩ := HTB.out W2 hA.st
      refine opStep none 0 rfl rfl (fun c hc => by cases hc) ?_
      go_simp
      exact hK _ _ rfl (Below.refl _ _) trivial
    · -- 3
      intro li a1 W2 hA K hK
      obtain ⟨g0, e28, h28⟩ := hA.val 0 28 (by kernel_rfl) (by kernel_rfl)
      have e30 : a1.tmps.getD 30 undef = .slice A2 fs.length c2 := hA.val 2 30 (by kernel_rfl) (by kernel_rfl)
      obtain ⟨v', w', hrun, ho', hb'⟩ := copy_fixes (c2 := c2) (HIX.out.at_ hA.st) h28.2 h28.1 hs
      refine opValue none 0 rfl rfl (fun c hc => by cases hc) (v := v') (W' := w') (by simp [execOp, resolve, invoke, builtin, Act.eval, e28, e30, hrun, Result.andThen]) ?_
      exact hK v' w' ⟨v', rfl, ho'⟩ hb' trivial
    · -- 4
      intro li a1 W2 hA K hK
      have e4 := hA.par 4 (by kernel_rfl)
      obtain ⟨q1, q2, q3⟩ := HFB.out W2 hA.st
      refine opStep none 0 rfl rfl (fun c hc => by cases hc) ?_
      go_simp
      exact hK _ _ rfl (Below.refl _ _) trivial
    · -- 5
      intro li a1 W2 hA K hK
      have e32 : a1.tmps.getD 32 undef = .agg #[.int .i64 f.row, .int .i64 f.col, .int .i64 f.val] := hA.val 4 32 (by kernel_rfl) (by kernel_rfl)
      have e32' := e32
      rw [Array.getD_eq_getD_getElem?] at e32'
      refine opStep none 0 rfl rfl (fun c hc => by cases hc) ?_
      go_simp
      exact hK _ _ ⟨_, rfl, Blk.new _ _ _⟩ ((Below.refl _ _).alloc (Nat.le_refl _) _) trivial
  · intro li a1 W2 hD
    obtain ⟨v3, e31, h31⟩ := hD.val 3 31 (by kernel_rfl) (by kernel_rfl)
    obtain ⟨gl, e33, hgl⟩ := hD.val 5 33 (by kernel_rfl) (by kernel_rfl)
    have ep := hD.par 7 (by kernel_rfl)
    have hst := hD.st
    have hs2 := hst.size
    obtain ⟨i0, hi0, hz0, hz1, hz2⟩ := info_parts rfix_info
    obtain ⟨v', w7, hrun, hr7, hg7, _, hf7⟩ := run_append_own_at (P := Try.prog) W2 _ 23 23 64 i0 (.agg #[.int .i64 0, .int .i64 0, .int .i64 0]) 3 24 Try.underlying23 hi0 hz0 hz1 hz2 rfl (by decide) v3 fs.length _ h31 ⟨gl, 0, none⟩ 1 1 (fxCells ⟨f.row, f.col, f.val⟩) rfl (fx_at (f := ⟨f.row, f.col, f.val⟩) hgl) (fx_cells _) (by simp only [maxLen]; omega) (by omega) (by omega)
    obtain ⟨z7, z8, z9, z10, z11, z12⟩ := fix_done (f := ⟨f.row, f.col, f.val⟩) HBX.out hst h31 hg7 hr7
    have HZ := hid (And.intro z8 (And.intro z9 (And.intro z10 (And.intro z11 z12))))
    obtain ⟨g6, cap6, rfl⟩ := Go.ownsRow_succ hr7
    obtain ⟨y0, y1, y2⟩ := z7.c3
    have yf := z7.frozen 2
    have yl := z7.lt
    have hkp2 := hD.keeps (ds := [28, 29, 30, 31, 32, 33, 34, 35]) (by kernel_rfl)
    have hds := hD.size
    have hsz : a1.tmps.size = 207 := hD.size
    have hdd := hD.defers
    clear hst hr7 hg7 hf7 hgl z7 z8 z9 z10 z11 z12
    refine tail_val (i := 6) (v := .slice (some ⟨g6, 0, none⟩) (fs.length + 1) cap6) (W' := w7) none 0 rfl rfl rfl (fun c hc => by cases hc) (by simp [execOp, resolve, invoke, builtin, Act.eval, e31, e33, hrun, Result.andThen]) (by rw [hsz]; decide) ?_
    intro a3 s3 d3 f3 o3
    have hkp3 := keeps_then hkp2 o3 (by decide)
    have ep' : a3.tmps.getD 7 undef = .pointer (some ⟨Bx, 0, none⟩) := (o3 7 (by decide)).trans ep
    refine tail_val (i := 7) (v := .pointer (some ⟨Bx, 2, none⟩)) (W' := w7) none 0 rfl rfl rfl (fun c hc => by cases hc) (by go_simp) (by rw [s3, hsz]; decide) ?_
    intro a4 s4 d4 f4 o4
    have hkp4 := keeps_then hkp3 o4 (by decide)
    have ea : a4.tmps.getD 34 undef = .slice (some ⟨g6, 0, none⟩) (fs.length + 1) cap6 := (o4 34 (by decide)).trans f3
    refine tail_store (i := 8) (W' := w7.setCell ⟨Bx, 2, none⟩ (.slice (some ⟨g6, 0, none⟩) (fs.length + 1) cap6)) none 0 rfl rfl rfl (fun c hc => by cases hc) (by go_simp) ?_
    have e := act_mix [28, 29, 30, 31, 32, 33, 34, 35] (s4.trans (s3.trans hds)) (d4.trans (d3.trans hdd)) (fun i _ hc => hkp4 i hc)
    generalize (fun i => a4.tmps.getD i undef) = g' at e
    refine wpListIn_nil ?_
    rw [e]
    clear e hD hkp2 hkp3 hkp4 s3 s4 d3 d4 f3 f4 o3 o4 e31 e33 ep ep' ea hds hdd hsz y0 y1 y2 yf yl hi0 hz0 hz1 hz2 hrun
    simp only [mix, List.contains_cons, List.contains_nil, Nat.reduceAdd, Nat.reduceBEq, Bool.or_false, Bool.or_true, cond_true, cond_false]
    generalize w7.setCell ⟨Bx, 2, none⟩ (.slice (some ⟨g6, 0, none⟩) (fs.length + 1) cap6) = W8 at *
    obtain ⟨z8, ⟨A3, c3, e3, g1⟩, z10, z11, z12⟩ := HZ.out
    rw [e3] at z8
    have HFX := hid (show FB b A c cs fs f Bx A3 c3 W8 from ⟨z8, _, g1⟩)
    have HB0 := hid (z11 w HB1.out (by omega))
    have HT0 := hid (z10 _ _ _ HT1.out (by omega))
    clear z8 e3 g1 z10 z11 z12 HZ HIX HTB HFB HBX HF1 HT1 HB1
    obtain ⟨t0, t1, t2⟩ := HT0.out.c3
    have XB0 := hid (HFX.out.bx)
    obtain ⟨s0, s1, s2⟩ := XB0.out.c3
    have Z0 := hid (Below.refl W8.heap.size W8)
    obtain ⟨ra, hra⟩ : ∃ ra, readyB b cs fs = ra := ⟨_, rfl⟩
    obtain ⟨rb, hrb⟩ : ∃ rb, readyB b cs (fs ++ [f]) = rb := ⟨_, rfl⟩
    have HRA := hid hra
    have HRB := hid hrb
    clear hra hrb
    have K1 := hid (ready_any b A c cs A2 c2 fs W8 (HH.out.at_ HB0.out))
    rw [HRA.out] at K1
    go_wp2_with fail
    refine K1.out.mono ?_
    rintro e w1 ⟨rfl, hb⟩
    have HB1 := hid (HB0.out.trans (hb.mono HB0.out.size))
    have HT1 := hid (HT0.out.keep hb)
    have Z1 := hid (Z0.out.trans (hb.mono Z0.out.size))
    have XB1 := hid (XB0.out.keep hb)
    clear hb K1 t0 t1 t2 s0 s1 s2
    obtain ⟨t0, t1, t2⟩ := HT1.out.c3
    obtain ⟨s0, s1, s2⟩ := XB1.out.c3
    cases ra
    · have K2 := hid (awake_any w1)
      go_wp2_with fail
      refine K2.out.mono ?_
      rintro e w2 ⟨rfl, hb⟩
      have HB2 := hid (HB1.out.trans (hb.mono HB1.out.size))
      have HT2 := hid (HT1.out.keep hb)
      have Z2 := hid (Z1.out.trans (hb.mono Z1.out.size))
      have XB2 := hid (XB1.out.keep hb)
      clear hb K2 t0 t1 t2 s0 s1 s2
      obtain ⟨t0, t1, t2⟩ := HT2.out.c3
      obtain ⟨s0, s1, s2⟩ := XB2.out.c3
      clear t0 t1 t2 s0 s1 s2
      go_wp2
      go_ret
      exact ⟨rfl, HB2.out⟩
    · have TX := hid (HFX.out.tin (HH.out.at_ (show Below w.heap.size w W8 from HB0.out)))
      have K2 := hid (ready_any b A c cs A3 c3 (fs ++ [f]) w1 (TX.out.at_ Z1.out))
      rw [HFL.out, HRB.out] at K2
      go_wp2_with fail
      refine K2.out.mono ?_
      rintro e w2 ⟨rfl, hb⟩
      have HB2 := hid (HB1.out.trans (hb.mono HB1.out.size))
      have HT2 := hid (HT1.out.keep hb)
      have Z2 := hid (Z1.out.trans (hb.mono Z1.out.size))
      have XB2 := hid (XB1.out.keep hb)
      clear hb K2 t0 t1 t2 s0 s1 s2
      obtain ⟨t0, t1, t2⟩ := HT2.out.c3
      obtain ⟨s0, s1, s2⟩ := XB2.out.c3
      cases rb
      · have K3 := hid (awake_any w2)
        go_wp2_with fail
        refine K3.out.mono ?_
        rintro e w3 ⟨rfl, hb⟩
        have HB3 := hid (HB2.out.trans (hb.mono HB2.out.size))
        have HT3 := hid (HT2.out.keep hb)
        have Z3 := hid (Z2.out.trans (hb.mono Z2.out.size))
        have XB3 := hid (XB2.out.keep hb)
        clear hb K3 t0 t1 t2 s0 s1 s2
        obtain ⟨t0, t1, t2⟩ := HT3.out.c3
        obtain ⟨s0, s1, s2⟩ := XB3.out.c3
        clear t0 t1 t2 s0 s1 s2
        go_wp2
        go_ret
        exact ⟨rfl, HB3.out⟩
      · have HCK := hid (ready_chk HRA.out)
        have HCX2 := hid (ready_chk HRB.out)
        have OK := hid (chk_ok HCK.out)
        have hn5 := OK.out.okc.n2
        have hn1 := OK.out.okc.n1
        have hc4 := OK.out.okc.c2
        have hc1 := OK.out.okc.c1
        have hf100 := OK.out.n
        have hb1 := OK.out.okc.b1
        have hb2 := OK.out.okc.b2
        have h10 := chk_ten HCX2.out
        rw [HFL.out] at h10
        have HCX := hid (fun (xs : List Int) (hx : xs ∈ cs) => show xs.length ≤ 1000 by have := OK.out.okc.row xs hx; omega)
        have hmore := more_le HCX2.out HCK.out
        have hdec : (berr b cs (fs ++ [f]) = 9) ∨ (berr b cs (fs ++ [f]) = 0 ∧ berr b cs fs = 0 ∧ bchg b cs fs ≤ bchg b cs (fs ++ [f])) := by
          unfold berr bchg
          by_cases hw : (spec b cs (fs ++ [f]) cs.length zeroS).ways = 0
          · left; rw [if_pos hw]
          · right
            obtain ⟨h1, h2⟩ := hmore.2 hw
            rw [if_neg hw, if_neg h1, if_neg h1, if_neg hw]
            exact ⟨rfl, rfl, h2⟩
        have hkm := hmore.1
        have HSW := hid (fun r c (hr : r < cs.length) (hc : c < colsOf cs) => split_ways (r := r) (c := c) HCK.out hr hc h10)
        obtain ⟨kw, hkw⟩ : ∃ kw, (spec b cs fs cs.length zeroS).ways = kw := ⟨_, rfl⟩
        obtain ⟨mw, hmw⟩ : ∃ mw, (spec b cs (fs ++ [f]) cs.length zeroS).ways = mw := ⟨_, rfl⟩
        obtain ⟨ba, hba⟩ : ∃ ba, bchg b cs fs = ba := ⟨_, rfl⟩
        obtain ⟨ea, hea⟩ : ∃ ea, berr b cs fs = ea := ⟨_, rfl⟩
        obtain ⟨bx, hbx⟩ : ∃ bx, bchg b cs (fs ++ [f]) = bx := ⟨_, rfl⟩
        obtain ⟨ex, hex⟩ : ∃ ex, berr b cs (fs ++ [f]) = ex := ⟨_, rfl⟩
        rw [hkw, hmw] at hkm
        rw [hba, hea, hbx, hex] at hdec
        have HKW := hid hkw
        have HMW := hid hmw
        have HBA := hid hba
        have HEA := hid hea
        have HBX := hid hbx
        have HEX := hid hex
        have HDEC := hid hdec
        clear hmore hkw hmw hba hea hbx hex hdec
        have K3 := hid (table_any b A c cs A2 c2 fs w2 (HH.out.at_ HB2.out) (by omega) HCX.out (by omega))
        go_wp2_with fail
        refine K3.out.mono ?_
        rintro e w3 ⟨P1, p1, Q1, q1, rfl, hti, hb⟩
        have HB3 := hid (HB2.out.trans (hb.mono HB2.out.size))
        have HT3 := hid (HT2.out.keep hb)
        have Z3 := hid (Z2.out.trans (hb.mono Z2.out.size))
        have XB3 := hid (XB2.out.keep hb)
        have TI1 := hid hti
        clear hti
        clear hb K3 t0 t1 t2 s0 s1 s2
        obtain ⟨t0, t1, t2⟩ := HT3.out.c3
        obtain ⟨s0, s1, s2⟩ := XB3.out.c3
        have K4 := hid (best_gen b P1 p1 cs Q1 q1 fs w3 TI1.out HCK.out)
        rw [HBA.out, HEA.out] at K4
        go_wp2_with fail
        refine K4.out.mono ?_
        rintro e w4 ⟨A5, n5, c5, rfl, hb⟩
        have HB4 := hid (HB3.out.trans (hb.mono HB3.out.size))
        have HT4 := hid (HT3.out.keep hb)
        have Z4 := hid (Z3.out.trans (hb.mono Z3.out.size))
        have XB4 := hid (XB3.out.keep hb)
        clear hb K4 t0 t1 t2 s0 s1 s2
        obtain ⟨t0, t1, t2⟩ := HT4.out.c3
        obtain ⟨s0, s1, s2⟩ := XB4.out.c3
        have K5 := hid (table_any b A c cs A3 c3 (fs ++ [f]) w4 (TX.out.at_ Z4.out) (by omega) HCX.out (by rw [HFL.out]; omega))
        unfold GivesTable at K5
        rw [HFL.out] at K5
        go_wp2_with fail
        refine K5.out.mono ?_
        rintro e w5 ⟨P2, p2, Q2, q2, rfl, hti, hb⟩
        have HB5 := hid (HB4.out.trans (hb.mono HB4.out.size))
        have HT5 := hid (HT4.out.keep hb)
        have Z5 := hid (Z4.out.trans (hb.mono Z4.out.size))
        have XB5 := hid (XB4.out.keep hb)
        have TI2 := hid hti
        clear hti
        clear hb K5 t0 t1 t2 s0 s1 s2
        obtain ⟨t0, t1, t2⟩ := HT5.out.c3
        obtain ⟨s0, s1, s2⟩ := XB5.out.c3
        have K6 := hid (best_gen b P2 p2 cs Q2 q2 (fs ++ [f]) w5 TI2.out HCX2.out)
        rw [HBX.out, HEX.out, HFL.out] at K6
        go_wp2_with fail
        refine K6.out.mono ?_
        rintro e w6 ⟨A6, n6, c6, rfl, hb⟩
        have HB6 := hid (HB5.out.trans (hb.mono HB5.out.size))
        have HT6 := hid (HT5.out.keep hb)
        have Z6 := hid (Z5.out.trans (hb.mono Z5.out.size))
        have XB6 := hid (XB5.out.keep hb)
        clear hb K6 t0 t1 t2 s0 s1 s2
        obtain ⟨t0, t1, t2⟩ := HT6.out.c3
        obtain ⟨s0, s1, s2⟩ := XB6.out.c3
        have K7 := hid (table_any b A c cs A2 c2 fs w6 (HH.out.at_ HB6.out) (by omega) HCX.out (by omega))
        go_wp2_with fail
        refine K7.out.mono ?_
        rintro e w7 ⟨P3, p3, Q3, q3, rfl, hti, hb⟩
        have HB7 := hid (HB6.out.trans (hb.mono HB6.out.size))
        have HT7 := hid (HT6.out.keep hb)
        have Z7 := hid (Z6.out.trans (hb.mono Z6.out.size))
        have XB7 := hid (XB6.out.keep hb)
        have TI3 := hid hti
        clear hti
        clear hb K7 t0 t1 t2 s0 s1 s2
        obtain ⟨t0, t1, t2⟩ := HT7.out.c3
        obtain ⟨s0, s1, s2⟩ := XB7.out.c3
        have KW := ways_any b P3 p3 cs Q3 q3 fs w7 TI3.out
        rw [if_pos HCK.out, HKW.out] at KW
        have KW := hid KW
        have K8 := hid (KW.out)
        go_wp2_with fail
        refine K8.out.mono ?_
        rintro e w8 ⟨rfl, hb⟩
        have HB8 := hid (HB7.out.trans (hb.mono HB7.out.size))
        have HT8 := hid (HT7.out.keep hb)
        have Z8 := hid (Z7.out.trans (hb.mono Z7.out.size))
        have XB8 := hid (XB7.out.keep hb)
        clear hb K8 t0 t1 t2 KW s0 s1 s2
        obtain ⟨t0, t1, t2⟩ := HT8.out.c3
        obtain ⟨s0, s1, s2⟩ := XB8.out.c3
        have K9 := hid (table_any b A c cs A3 c3 (fs ++ [f]) w8 (TX.out.at_ Z8.out) (by omega) HCX.out (by rw [HFL.out]; omega))
        unfold GivesTable at K9
        rw [HFL.out] at K9
        go_wp2_with fail
        refine K9.out.mono ?_
        rintro e w9 ⟨P4, p4, Q4, q4, rfl, hti, hb⟩
        have HB9 := hid (HB8.out.trans (hb.mono HB8.out.size))
        have HT9 := hid (HT8.out.keep hb)
        have Z9 := hid (Z8.out.trans (hb.mono Z8.out.size))
        have XB9 := hid (XB8.out.keep hb)
        have TI4 := hid hti
        clear hti
        clear hb K9 t0 t1 t2 s0 s1 s2
        obtain ⟨t0, t1, t2⟩ := HT9.out.c3
        obtain ⟨s0, s1, s2⟩ := XB9.out.c3
        have KW := ways_any b P4 p4 cs Q4 q4 (fs ++ [f]) w9 TI4.out
        rw [if_pos HCX2.out, HMW.out, HFL.out] at KW
        have KW := hid KW
        have K10 := hid (KW.out)
        go_wp2_with fail
        refine K10.out.mono ?_
        rintro e w10 ⟨rfl, hb⟩
        have HB10 := hid (HB9.out.trans (hb.mono HB9.out.size))
        have HT10 := hid (HT9.out.keep hb)
        have Z10 := hid (Z9.out.trans (hb.mono Z9.out.size))
        have XB10 := hid (XB9.out.keep hb)
        clear hb K10 t0 t1 t2 KW s0 s1 s2
        obtain ⟨t0, t1, t2⟩ := HT10.out.c3
        obtain ⟨s0, s1, s2⟩ := XB10.out.c3
        have hkm2 : decide (kw < mw) = false := decide_eq_false (by omega)
        clear t0 t1 t2 s0 s1 s2
        go_upto_region 9 with (fail)
        go_cut [94] (fun v wx => v = .bool false ∧ wx = w10)
        case first =>
          obtain ⟨hd⟩ : Nonempty (ex = 9 ∨ (ex = 0 ∧ ea = 0 ∧ ba ≤ bx)) := ⟨HDEC.out⟩
          rcases hd with rfl | ⟨rfl, rfl, hle⟩
          · go_wp2
            go_meet
            all_goals (first | exact ⟨rfl, rfl⟩ | rfl | trivial)
          · have hle2 : decide (bx < ba) = false := decide_eq_false (by omega)
            go_wp2
            go_meet
            all_goals (first | exact ⟨rfl, rfl⟩ | rfl | trivial)
        case rest =>
          obtain ⟨rfl, hcw⟩ := hcut
          have hcw2 := hcw.symm
          subst hcw2
          go_wp2
          obtain ⟨r, hr⟩ : ∃ r : Nat, q % (cs.length : Int) = (r : Int) := Int.eq_ofNat_of_zero_le (Int.emod_nonneg _ (by omega))
          obtain ⟨cc, hcc⟩ : ∃ cc : Nat, q / 8 % (colsOf cs : Int) = (cc : Int) := Int.eq_ofNat_of_zero_le (Int.emod_nonneg _ (by omega))
          have hr1 := Int.emod_lt_of_pos q (show (0 : Int) < (cs.length : Int) by omega)
          have hcc1 := Int.emod_lt_of_pos (q / 8) (show (0 : Int) < (colsOf cs : Int) by omega)
          have hrI : (r : Int) < (cs.length : Int) := by omega
          have hcI : (cc : Int) < (colsOf cs : Int) := by omega
          have hrn : r < cs.length := by omega
          have hcn : cc < colsOf cs := by omega
          have hq81 : 0 ≤ q / 8 := by omega
          have hn0 : ¬ (cs.length : Int) = 0 := by omega
          have hm0 : ¬ (colsOf cs : Int) = 0 := by omega
          obtain ⟨q8, hq8⟩ : ∃ q8, q / 8 = q8 := ⟨_, rfl⟩
          rw [hq8] at hcc hcc1 hq81
          have htm1 : q.tmod (cs.length : Int) = (r : Int) := by rw [Int.tmod_eq_emod_of_nonneg hq0]; exact hr
          have htd : q.tdiv 8 = q8 := by rw [Int.tdiv_eq_ediv_of_nonneg hq0]; exact hq8
          have htm2 : q8.tmod (colsOf cs : Int) = (cc : Int) := by rw [Int.tmod_eq_emod_of_nonneg hq81]; exact hcc
          have hq82 : q8 ≤ 255 := by omega
          have T1 := hid (show ∀ y, Calls Try.prog 34 #[.agg #[.int .i64 b, .slice A cs.length c, .slice A2 fs.length c2]] (xt w10 y) fun e w' => e = .returned (.int .i64 (colsOf cs)) ∧ Below (xt w10 y).heap.size (xt w10 y) w' from
            fun y => rcols_any (.int .i64 b) _ A c cs _ ((HH.out.at_ HB10.out).ic.at_ (below_xt w10 y)))
          obtain ⟨t0, t1, t2⟩ := xt_c3 HT10.out
          clear hr1 hcc1
          refine wp_region_quiet_xt (by kernel_rfl) (by kernel_rfl) ?_
          repeat (go_big_quiet_step ((go_at_call 34; with_reducible exact Calls.xt (T1.out _))))
          refine wpQuiet_nil ?_
          intro W11 hw11
          replace hw11 := of_xt hw11
          clear t0 t1 t2 htm1 htm2 htd hr hcc hq8
          have HB11 := hid (HB10.out.trans (hw11.mono HB10.out.size))
          have HT11 := hid (HT10.out.keep hw11)
          clear hw11
          obtain ⟨t0, t1, t2⟩ := HT11.out.c3
          obtain ⟨ys, hys⟩ : ∃ ys, cs[r]? = some ys := ⟨_, List.getElem?_eq_getElem hrn⟩
          have hyl := OK.out.okc.row ys (List.mem_of_getElem? hys)
          have hyb := OK.out.okc.cell ys (List.mem_of_getElem? hys)
          obtain ⟨a, A1, c1, rfl, p1, p2, p3, p4, p5⟩ := (HH.out.at_ HB11.out).ic r ys hys
          rw [hyl] at p2 p3
          have hm1 := HH.out.m1
          have hl1 := HH.out.l1
          unfold maxLen at p4 hm1
          obtain ⟨y, hy⟩ : ∃ y, ys[cc]? = some y := ⟨_, List.getElem?_eq_getElem (by omega)⟩
          obtain ⟨ae, rfl, u1, u2⟩ := p5 cc y hy
          obtain ⟨hy1, hy2⟩ := hyb y (List.mem_of_getElem? hy)
          have HY := hid (show cellA cs r cc = y by unfold cellA; rw [show cs.getD r [] = ys by rw [List.getD, hys]; rfl, List.getD, hy]; rfl)
          have htl := HT11.out.lt
          clear p5 hys hyl hyb hy
          go_wp2
          clear p2 u2
          go_cut [21, 22] (fun l h wx => ∃ Bl Bh, l = .pointer (some ⟨Bl, 0, none⟩) ∧ h = .pointer (some ⟨Bh, 0, none⟩) ∧ Bl ≠ Bh ∧ W11.heap.size ≤ Bl ∧ W11.heap.size ≤ Bh ∧ Below W11.heap.size W11 wx ∧ Blk wx Bl 25 #[.int .i64 b, .slice (some a) cs.length c, .slice A2 fs.length c2] ∧ Blk wx Bh 25 #[.int .i64 b, .slice (some a) cs.length c, .slice A2 fs.length c2])
          case first =>
            have k0 := (Below.refl W11.heap.size W11).alloc (Nat.le_refl _) (.cells #[.int .i64 b, .slice (some a) cs.length c, .slice A2 fs.length c2] 25)
            have k1 := (k0.alloc (by simp) (.cells #[.int .i64 b, .slice (some a) cs.length c, .slice A2 fs.length c2] 25)).drew
            have k2 := ((Blk.new W11 25 #[.int .i64 b, .slice (some a) cs.length c, .slice A2 fs.length c2]).alloc (.cells #[.int .i64 b, .slice (some a) cs.length c, .slice A2 fs.length c2] 25)).drew
            have k3 := (Blk.new (W11.alloc (.cells #[.int .i64 b, .slice (some a) cs.length c, .slice A2 fs.length c2] 25)) 25 #[.int .i64 b, .slice (some a) cs.length c, .slice A2 fs.length c2]).drew
            rw [World.size_alloc] at k3
            have HK := hid (And.intro k1 (And.intro k2 k3))
            clear k0 k1 k2 k3
            go_region
            · go_wp2_with fail
              go_meet
              exact ⟨_, _, rfl, rfl, by omega, by omega, by omega, HK.out.1, HK.out.2.1, HK.out.2.2⟩
            · go_wp2_with fail
              go_meet
              exact ⟨_, _, rfl, rfl, by omega, by omega, by omega, HK.out.1, HK.out.2.2, HK.out.2.1⟩
          case rest =>
            obtain ⟨Bl, Bh, rfl, rfl, hne, hbl, hbh, hb12, k1, k2⟩ := hcut
            have HB12 := hid (HB11.out.trans (hb12.mono HB11.out.size))
            have HT12 := hid (HT11.out.keep hb12)
            have HBL := hid k1
            have HBH := hid k2
            have HNE := hid hne
            have hw11s := HB11.out.size
            clear hne hb12 k1 k2
            have hz0 := Int.emod_nonneg y (show b ≠ 0 by omega)
            have hz1 := Int.emod_lt_of_pos y (show 0 < b by omega)
            obtain ⟨u, hu⟩ : ∃ u, u = y % b := ⟨_, rfl⟩
            have HSP := hid (HSW.out r cc hrn hcn)
            have hl0 : lowOf b y = y - u := by unfold lowOf; rw [hu]
            have hh0 : y + (b - u) % b = highOf b y := by rw [hu]; exact high_as hb1
            rw [HY.out, hl0, ← hh0, ← hu] at HSP
            obtain ⟨d, hd⟩ : ∃ d, d = (b - u) % b := ⟨_, rfl⟩
            rw [← hd] at HSP
            rw [← hu] at hz0 hz1
            have hd0 := Int.emod_nonneg (b - u) (show b ≠ 0 by omega)
            have hd1 := Int.emod_lt_of_pos (b - u) (show 0 < b by omega)
            rw [← hd] at hd0 hd1
            have hb0 : (b == 0) = false := by simp; omega
            have hb00 : ¬ b = 0 := by omega
            have htm : y.tmod b = u := by rw [Int.tmod_eq_emod_of_nonneg hy1]; exact hu.symm
            have htd : (b - u).tmod b = d := by rw [Int.tmod_eq_emod_of_nonneg (by omega)]; exact hd.symm
            have hw1 : IntKind.i64.wrap u = u := IntWalk.i64_in _ (by omega)
            have hw2 : IntKind.i64.wrap (y - u) = y - u := IntWalk.i64_in _ (by omega)
            have hw3 : IntKind.i64.wrap (b - u) = b - u := IntWalk.i64_in _ (by omega)
            have hw4 : IntKind.i64.wrap d = d := IntWalk.i64_in _ (by omega)
            have hw5 : IntKind.i64.wrap (y + d) = y + d := IntWalk.i64_in _ (by omega)
            have hxb : y % b = u := hu.symm
            have HU := hid hu
            have HIX := hid (HH.out.at_ HB12.out).ix
            have HTB := hid (fun (W2 : World) (hW : Below wc.heap.size wc W2) => (HT12.out.keep hW).c3)
            have HBX := hid HBL.out
            clear hu hd hl0 hh0
            go_wp2
            refine (wpIn_wide (n := 0)).1 ?_
            refine wpIn_region_each 14 (fun i v W' => match i with | 0 => ∃ g0, v = .slice (some ⟨g0, 0, none⟩) 0 0 ∧ wc.heap.size ≤ g0 ∧ Blk W' g0 64 #[] | 1 => v = .pointer (some ⟨w.heap.size, 2, none⟩) | 2 => v = .slice A2 fs.length c2 | 3 => ∃ v3, v = v3 ∧ W'.ownsRow wc.heap.size 64 3 v3 fs.length (fxs fs) | 4 => v = .int .i64 (r : Int) | 5 => v = .int .i64 (cc : Int) | 6 => v = .int .i64 y | 7 => v = .int .i64 y | 8 => v = .pointer (some ⟨w.heap.size, 0, none⟩) | 9 => v = .int .i64 b | 10 => v = .int .i64 u | 11 => v = .int .i64 (y - u) | 12 => v = .agg #[.int .i64 (r : Int), .int .i64 (cc : Int), .int .i64 (y - u)] | 13 => ∃ gl, v = .slice (some ⟨gl, 0, none⟩) 1 1 ∧ Blk W' gl 64 #[.int .i64 (r : Int), .int .i64 (cc : Int), .int .i64 (y - u)] | _ => True) (fun A B => Below A.heap.size A B) (fun _ _ => True) (by kernel_rfl) (by kernel_rfl) ?_ (fun h k => h.trans (k.mono h.size)) ⟨rfl, rfl, rfl, Nat.le_refl _, fun _ _ => rfl⟩ trivial (by kernel_rfl) ?_ ?_
            · intro i v W1 W2 hb h
              match i, h with
              | 0, h =>
                obtain ⟨g0, rfl, h1⟩ := h
                exact ⟨_, rfl, h1.1, h1.2.keep hb⟩
              | 1, h => exact h
              | 2, h => exact h
              | 3, h =>
                obtain ⟨v3, rfl, h1⟩ := h
                exact ⟨_, rfl, row_kept (vo := .slice none 0 0) h1 (grown_of_below hb _) (.inl rfl)⟩
              | 4, h => exact h
              | 5, h => exact h
              | 6, h => exact h
              | 7, h => exact h
              | 8, h => exact h
              | 9, h => exact h
              | 10, h => exact h
              | 11, h => exact h
              | 12, h => exact h
              | 13, h =>
                obtain ⟨gl, rfl, h1⟩ := h
                exact ⟨_, rfl, h1.keep hb⟩
              | i + 14, h => trivial
            · refine ⟨?_, ?_, ?_, ?_, ?_, ?_, ?_, ?_, ?_, ?_, ?_, ?_, ?_, ?_, trivial⟩
              · -- 0
                intro li a1 W2 hA K hK
                refine opStep none 0 rfl rfl (fun c hc => by cases hc) ?_
                go_simp
                exact hK _ _ ⟨_, rfl, by have := hA.st.size; omega, Blk.new _ _ _⟩ ((Below.refl _ _).alloc (Nat.le_refl _) _) trivial
              · -- 1
                intro li a1 W2 hA K hK
                have e3 := hA.par 3 (by kernel_rfl)
                refine opStep none 0 rfl rfl (fun c hc => by cases hc) ?_
                go_simp
                exact hK _ _ rfl (Below.refl _ _) trivial
              · -- 2
                intro li a1 W2 hA K hK
                have e118 : a1.tmps.getD 118 undef = .pointer (some ⟨w.heap.size, 2, none⟩) := hA.val 1 118 (by kernel_rfl) (by kernel_rfl)
                obtain ⟨_, _, q1⟩ := HTB.out W2 hA.st
                refine opStep none 0 rfl rfl (fun c hc => by cases hc) ?_
                go_simp
                exact hK _ _ rfl (Below.refl _ _) trivial
              · -- 3
                intro li a1 W2 hA K hK
                obtain ⟨g0, e117, h117⟩ := hA.val 0 117 (by kernel_rfl) (by kernel_rfl)
                have e119 : a1.tmps.getD 119 undef = .slice A2 fs.length c2 := hA.val 2 119 (by kernel_rfl) (by kernel_rfl)
                obtain ⟨v', w', hrun, ho', hb'⟩ := copy_fixes (c2 := c2) (HIX.out.at_ hA.st) h117.2 h117.1 hs
                refine opValue none 0 rfl rfl (fun c hc => by cases hc) (v := v') (W' := w') (by simp [execOp, resolve, invoke, builtin, Act.eval, e117, e119, hrun, Result.andThen]) ?_
                exact hK v' w' ⟨v', rfl, ho'⟩ hb' trivial
              · -- 4
                intro li a1 W2 hA K hK
                have e18 := hA.par 18 (by kernel_rfl)
                refine opStep none 0 rfl rfl (fun c hc => by cases hc) ?_
                go_simp
                exact hK _ _ rfl (Below.refl _ _) trivial
              · -- 5
                intro li a1 W2 hA K hK
                have e19 := hA.par 19 (by kernel_rfl)
                refine opStep none 0 rfl rfl (fun c hc => by cases hc) ?_
                go_simp
                exact hK _ _ rfl (Below.refl _ _) trivial
              · -- 6
                intro li a1 W2 hA K hK
                have e20 := hA.par 20 (by kernel_rfl)
                refine opStep none 0 rfl rfl (fun c hc => by cases hc) ?_
                go_simp
                exact hK _ _ rfl (Below.refl _ _) trivial
              · -- 7
                intro li a1 W2 hA K hK
                have e20 := hA.par 20 (by kernel_rfl)
                refine opStep none 0 rfl rfl (fun c hc => by cases hc) ?_
                go_simp
                exact hK _ _ rfl (Below.refl _ _) trivial
              · -- 8
                intro li a1 W2 hA K hK
                have e3 := hA.par 3 (by kernel_rfl)
                refine opStep none 0 rfl rfl (fun c hc => by cases hc) ?_
                go_simp
                exact hK _ _ rfl (Below.refl _ _) trivial
              · -- 9
                intro li a1 W2 hA K hK
                have e125 : a1.tmps.getD 125 undef = .pointer (some ⟨w.heap.size, 0, none⟩) := hA.val 8 125 (by kernel_rfl) (by kernel_rfl)
                obtain ⟨q1, _, _⟩ := HTB.out W2 hA.st
                refine opStep none 0 rfl rfl (fun c hc => by cases hc) ?_
                go_simp
                exact hK _ _ rfl (Below.refl _ _) trivial
              · -- 10
                intro li a1 W2 hA K hK
                have e124 : a1.tmps.getD 124 undef = .int .i64 y := hA.val 7 124 (by kernel_rfl) (by kernel_rfl)
                have e126 : a1.tmps.getD 126 undef = .int .i64 b := hA.val 9 126 (by kernel_rfl) (by kernel_rfl)
                refine opStep none 0 rfl rfl (fun c hc => by cases hc) ?_
                go_simp
                exact hK _ _ (by first | rfl | exact congrArg (Value.int .i64) htm | (simp [htm])) (Below.refl _ _) trivial
              · -- 11
                intro li a1 W2 hA K hK
                have e123 : a1.tmps.getD 123 undef = .int .i64 y := hA.val 6 123 (by kernel_rfl) (by kernel_rfl)
                have e127 : a1.tmps.getD 127 undef = .int .i64 u := hA.val 10 127 (by kernel_rfl) (by kernel_rfl)
                refine opStep none 0 rfl rfl (fun c hc => by cases hc) ?_
                go_simp
                exact hK _ _ (by first | rfl | exact congrArg (Value.int .i64) hw2 | (simp [hw2])) (Below.refl _ _) trivial
              · -- 12
                intro li a1 W2 hA K hK
                have e121 : a1.tmps.getD 121 undef = .int .i64 (r : Int) := hA.val 4 121 (by kernel_rfl) (by kernel_rfl)
                have e122 : a1.tmps.getD 122 undef = .int .i64 (cc : Int) := hA.val 5 122 (by kernel_rfl) (by kernel_rfl)
                have e128 : a1.tmps.getD 128 undef = .int .i64 (y - u) := hA.val 11 128 (by kernel_rfl) (by kernel_rfl)
                refine opStep none 0 rfl rfl (fun c hc => by cases hc) ?_
                refine step_build3 rfl e121 e122 e128 (built_fix _ _ _) ?_
                exact hK _ _ rfl (Below.refl _ _) trivial
              · -- 13
                intro li a1 W2 hA K hK
                have e129 : a1.tmps.getD 129 undef = .agg #[.int .i64 (r : Int), .int .i64 (cc : Int), .int .i64 (y - u)] := hA.val 12 129 (by kernel_rfl) (by kernel_rfl)
                have e129' := e129
                rw [Array.getD_eq_getD_getElem?] at e129'
                refine opStep none 0 rfl rfl (fun c hc => by cases hc) ?_
                go_simp
                exact hK _ _ ⟨_, rfl, Blk.new _ _ _⟩ ((Below.refl _ _).alloc (Nat.le_refl _) _) trivial
            · intro li a1 W2 hD
              obtain ⟨v3, e120, h120⟩ := hD.val 3 120 (by kernel_rfl) (by kernel_rfl)
              obtain ⟨gl, e130, hgl⟩ := hD.val 13 130 (by kernel_rfl) (by kernel_rfl)
              have ep := hD.par 21 (by kernel_rfl)
              have hst := hD.st
              have hs2 := hst.size
              obtain ⟨i0, hi0, hz0, hz1, hz2⟩ := info_parts rfix_info
              obtain ⟨v', w7, hrun, hr7, hg7, _, hf7⟩ := run_append_own_at (P := Try.prog) W2 _ 23 23 64 i0 (.agg #[.int .i64 0, .int .i64 0, .int .i64 0]) 3 24 Try.underlying23 hi0 hz0 hz1 hz2 rfl (by decide) v3 fs.length _ h120 ⟨gl, 0, none⟩ 1 1 (fxCells ⟨(r : Int), (cc : Int), (y - u)⟩) rfl (fx_at (f := ⟨(r : Int), (cc : Int), (y - u)⟩) hgl) (fx_cells _) (by simp only [maxLen]; omega) (by omega) (by omega)
              obtain ⟨z7, z8, z9, z10, z11, z12⟩ := fix_done (f := ⟨(r : Int), (cc : Int), (y - u)⟩) HBX.out hst h120 hg7 hr7
              have HZ := hid (And.intro z8 (And.intro z9 (And.intro z10 (And.intro z11 z12))))
              obtain ⟨g6, cap6, rfl⟩ := Go.ownsRow_succ hr7
              obtain ⟨y0, y1, y2⟩ := z7.c3
              have yf := z7.frozen 2
              have yl := z7.lt
              have hkp2 := hD.keeps (ds := [117, 118, 119, 120, 121, 122, 123, 124, 125, 126, 127, 128, 129, 130, 131, 132]) (by kernel_rfl)
              have hds := hD.size
              have hsz : a1.tmps.size = 207 := hD.size
              have hdd := hD.defers
              clear hst hr7 hg7 hf7 hgl z7 z8 z9 z10 z11 z12
              refine tail_val (i := 14) (v := .slice (some ⟨g6, 0, none⟩) (fs.length + 1) cap6) (W' := w7) none 0 rfl rfl rfl (fun c hc => by cases hc) (by simp [execOp, resolve, invoke, builtin, Act.eval, e120, e130, hrun, Result.andThen]) (by rw [hsz]; decide) ?_
              intro a3 s3 d3 f3 o3
              have hkp3 := keeps_then hkp2 o3 (by decide)
              have ep' : a3.tmps.getD 21 undef = .pointer (some ⟨Bl, 0, none⟩) := (o3 21 (by decide)).trans ep
              refine tail_val (i := 15) (v := .pointer (some ⟨Bl, 2, none⟩)) (W' := w7) none 0 rfl rfl rfl (fun c hc => by cases hc) (by go_simp) (by rw [s3, hsz]; decide) ?_
              intro a4 s4 d4 f4 o4
              have hkp4 := keeps_then hkp3 o4 (by decide)
              have ea : a4.tmps.getD 131 undef = .slice (some ⟨g6, 0, none⟩) (fs.length + 1) cap6 := (o4 131 (by decide)).trans f3
              refine tail_store (i := 16) (W' := w7.setCell ⟨Bl, 2, none⟩ (.slice (some ⟨g6, 0, none⟩) (fs.length + 1) cap6)) none 0 rfl rfl rfl (fun c hc => by cases hc) (by go_simp) ?_
              have e := act_mix [117, 118, 119, 120, 121, 122, 123, 124, 125, 126, 127, 128, 129, 130, 131, 132] (s4.trans (s3.trans hds)) (d4.trans (d3.trans hdd)) (fun i _ hc => hkp4 i hc)
              generalize (fun i => a4.tmps.getD i undef) = g' at e
              refine wpListIn_nil ?_
              rw [e]
              clear e hD hkp2 hkp3 hkp4 s3 s4 d3 d4 f3 f4 o3 o4 e120 e130 ep ep' ea hds hdd hsz y0 y1 y2 yf yl hi0 hz0 hz1 hz2 hrun
              simp only [mix, List.contains_cons, List.contains_nil, Nat.reduceAdd, Nat.reduceBEq, Bool.or_false, Bool.or_true, cond_true, cond_false]
              generalize w7.setCell ⟨Bl, 2, none⟩ (.slice (some ⟨g6, 0, none⟩) (fs.length + 1) cap6) = W13 at *
              obtain ⟨z8, ⟨AL, cL, e3, g1⟩, z10, z11, z12⟩ := HZ.out
              rw [e3] at z8
              have HFBL := hid (And.intro z8 g1)
              have HB13 := hid (z11 w HB12.out (by omega))
              have HT13 := hid (z10 _ _ _ HT12.out (by have := HT11.out.lt; omega))
              have HBH13 := hid (z10 _ _ _ HBH.out (fun e => HNE.out e.symm))
              clear z8 e3 g1 z10 z11 z12 HZ HIX HTB HBX
              have HIX := hid (HH.out.at_ HB13.out).ix
              have HTB := hid (fun (W2 : World) (hW : Below W13.heap.size W13 W2) => (HT13.out.keep hW).c3)
              have HBX := hid HBH13.out
              go_wp2
              refine (wpIn_wide (n := 0)).1 ?_
              refine wpIn_region_each 20 (fun i v W' => match i with | 0 => ∃ g0, v = .slice (some ⟨g0, 0, none⟩) 0 0 ∧ W13.heap.size ≤ g0 ∧ Blk W' g0 64 #[] | 1 => v = .pointer (some ⟨w.heap.size, 2, none⟩) | 2 => v = .slice A2 fs.length c2 | 3 => ∃ v3, v = v3 ∧ W'.ownsRow W13.heap.size 64 3 v3 fs.length (fxs fs) | 4 => v = .int .i64 (r : Int) | 5 => v = .int .i64 (cc : Int) | 6 => v = .int .i64 y | 7 => v = .pointer (some ⟨w.heap.size, 0, none⟩) | 8 => v = .int .i64 b | 9 => v = .int .i64 y | 10 => v = .pointer (some ⟨w.heap.size, 0, none⟩) | 11 => v = .int .i64 b | 12 => v = .int .i64 u | 13 => v = .int .i64 (b - u) | 14 => v = .pointer (some ⟨w.heap.size, 0, none⟩) | 15 => v = .int .i64 b | 16 => v = .int .i64 d | 17 => v = .int .i64 (y + d) | 18 => v = .agg #[.int .i64 (r : Int), .int .i64 (cc : Int), .int .i64 (y + d)] | 19 => ∃ gl, v = .slice (some ⟨gl, 0, none⟩) 1 1 ∧ Blk W' gl 64 #[.int .i64 (r : Int), .int .i64 (cc : Int), .int .i64 (y + d)] | _ => True) (fun A B => Below A.heap.size A B) (fun _ _ => True) (by kernel_rfl) (by kernel_rfl) ?_ (fun h k => h.trans (k.mono h.size)) ⟨rfl, rfl, rfl, Nat.le_refl _, fun _ _ => rfl⟩ trivial (by kernel_rfl) ?_ ?_
              · intro i v W1 W2 hb h
                match i, h with
                | 0, h =>
                  obtain ⟨g0, rfl, h1⟩ := h
                  exact ⟨_, rfl, h1.1, h1.2.keep hb⟩
                | 1, h => exact h
                | 2, h => exact h
                | 3, h =>
                  obtain ⟨v3, rfl, h1⟩ := h
                  exact ⟨_, rfl, row_kept (vo := .slice none 0 0) h1 (grown_of_below hb _) (.inl rfl)⟩
                | 4, h => exact h
                | 5, h => exact h
                | 6, h => exact h
                | 7, h => exact h
                | 8, h => exact h
                | 9, h => exact h
                | 10, h => exact h
                | 11, h => exact h
                | 12, h => exact h
                | 13, h => exact h
                | 14, h => exact h
                | 15, h => exact h
                | 16, h => exact h
                | 17, h => exact h
                | 18, h => exact h
                | 19, h =>
                  obtain ⟨gl, rfl, h1⟩ := h
                  exact ⟨_, rfl, h1.keep hb⟩
                | i + 20, h => trivial
              · refine ⟨?_, ?_, ?_, ?_, ?_, ?_, ?_, ?_, ?_, ?_, ?_, ?_, ?_, ?_, ?_, ?_, ?_, ?_, ?_, ?_, trivial⟩
                · -- 0
                  intro li a1 W2 hA K hK
                  refine opStep none 0 rfl rfl (fun c hc => by cases hc) ?_
                  go_simp
                  exact hK _ _ ⟨_, rfl, by have := hA.st.size; omega, Blk.new _ _ _⟩ ((Below.refl _ _).alloc (Nat.le_refl _) _) trivial
                · -- 1
                  intro li a1 W2 hA K hK
                  have e3 := hA.par 3 (by kernel_rfl)
                  refine opStep none 0 rfl rfl (fun c hc => by cases hc) ?_
                  go_simp
                  exact hK _ _ rfl (Below.refl _ _) trivial
                · -- 2
                  intro li a1 W2 hA K hK
                  have e134 : a1.tmps.getD 134 undef = .pointer (some ⟨w.heap.size, 2, none⟩) := hA.val 1 134 (by kernel_rfl) (by kernel_rfl)
                  obtain ⟨_, _, q1⟩ := HTB.out W2 hA.st
                  refine opStep none 0 rfl rfl (fun c hc => by cases hc) ?_
                  go_simp
                  exact hK _ _ rfl (Below.refl _ _) trivial
                · -- 3
                  intro li a1 W2 hA K hK
                  obtain ⟨g0, e133, h133⟩ := hA.val 0 133 (by kernel_rfl) (by kernel_rfl)
                  have e135 : a1.tmps.getD 135 undef = .slice A2 fs.length c2 := hA.val 2 135 (by kernel_rfl) (by kernel_rfl)
                  obtain ⟨v', w', hrun, ho', hb'⟩ := copy_fixes (c2 := c2) (HIX.out.at_ hA.st) h133.2 h133.1 hs
                  refine opValue none 0 rfl rfl (fun c hc => by cases hc) (v := v') (W' := w') (by simp [execOp, resolve, invoke, builtin, Act.eval, e133, e135, hrun, Result.andThen]) ?_
                  exact hK v' w' ⟨v', rfl, ho'⟩ hb' trivial
                · -- 4
                  intro li a1 W2 hA K hK
                  have e18 := hA.par 18 (by kernel_rfl)
                  refine opStep none 0 rfl rfl (fun c hc => by cases hc) ?_
                  go_simp
                  exact hK _ _ rfl (Below.refl _ _) trivial
                · -- 5
                  intro li a1 W2 hA K hK
                  have e19 := hA.par 19 (by kernel_rfl)
                  refine opStep none 0 rfl rfl (fun c hc => by cases hc) ?_
                  go_simp
                  exact hK _ _ rfl (Below.refl _ _) trivial
                · -- 6
                  intro li a1 W2 hA K hK
                  have e20 := hA.par 20 (by kernel_rfl)
                  refine opStep none 0 rfl rfl (fun c hc => by cases hc) ?_
                  go_simp
                  exact hK _ _ rfl (Below.refl _ _) trivial
                · -- 7
                  intro li a1 W2 hA K hK
                  have e3 := hA.par 3 (by kernel_rfl)
                  refine opStep none 0 rfl rfl (fun c hc => by cases hc) ?_
                  go_simp
                  exact hK _ _ rfl (Below.refl _ _) trivial
                · -- 8
                  intro li a1 W2 hA K hK
                  have e140 : a1.tmps.getD 140 undef = .pointer (some ⟨w.heap.size, 0, none⟩) := hA.val 7 140 (by kernel_rfl) (by kernel_rfl)
                  obtain ⟨q1, _, _⟩ := HTB.out W2 hA.st
                  refine opStep none 0 rfl rfl (fun c hc => by cases hc) ?_
                  go_simp
                  exact hK _ _ rfl (Below.refl _ _) trivial
                · -- 9
                  intro li a1 W2 hA K hK
                  have e20 := hA.par 20 (by kernel_rfl)
                  refine opStep none 0 rfl rfl (fun c hc => by cases hc) ?_
                  go_simp
                  exact hK _ _ rfl (Below.refl _ _) trivial
                · -- 10
                  intro li a1 W2 hA K hK
                  have e3 := hA.par 3 (by kernel_rfl)
                  refine opStep none 0 rfl rfl (fun c hc => by cases hc) ?_
                  go_simp
                  exact hK _ _ rfl (Below.refl _ _) trivial
                · -- 11
                  intro li a1 W2 hA K hK
                  have e143 : a1.tmps.getD 143 undef = .pointer (some ⟨w.heap.size, 0, none⟩) := hA.val 10 143 (by kernel_rfl) (by kernel_rfl)
                  obtain ⟨q1, _, _⟩ := HTB.out W2 hA.st
                  refine opStep none 0 rfl rfl (fun c hc => by cases hc) ?_
                  go_simp
                  exact hK _ _ rfl (Below.refl _ _) trivial
                · -- 12
                  intro li a1 W2 hA K hK
                  have e142 : a1.tmps.getD 142 undef = .int .i64 y := hA.val 9 142 (by kernel_rfl) (by kernel_rfl)
                  have e144 : a1.tmps.getD 144 undef = .int .i64 b := hA.val 11 144 (by kernel_rfl) (by kernel_rfl)
                  refine opStep none 0 rfl rfl (fun c hc => by cases hc) ?_
                  go_simp
                  exact hK _ _ (by first | rfl | exact congrArg (Value.int .i64) htm | (simp [htm])) (Below.refl _ _) trivial
                · -- 13
                  intro li a1 W2 hA K hK
                  have e141 : a1.tmps.getD 141 undef = .int .i64 b := hA.val 8 141 (by kernel_rfl) (by kernel_rfl)
                  have e145 : a1.tmps.getD 145 undef = .int .i64 u := hA.val 12 145 (by kernel_rfl) (by kernel_rfl)
                  refine opStep none 0 rfl rfl (fun c hc => by cases hc) ?_
                  go_simp
                  exact hK _ _ (by first | rfl | exact congrArg (Value.int .i64) hw3 | (simp [hw3])) (Below.refl _ _) trivial
                · -- 14
                  intro li a1 W2 hA K hK
                  have e3 := hA.par 3 (by kernel_rfl)
                  refine opStep none 0 rfl rfl (fun c hc => by cases hc) ?_
                  go_simp
                  exact hK _ _ rfl (Below.refl _ _) trivial
                · -- 15
                  intro li a1 W2 hA K hK
                  have e147 : a1.tmps.getD 147 undef = .pointer (some ⟨w.heap.size, 0, none⟩) := hA.val 14 147 (by kernel_rfl) (by kernel_rfl)
                  obtain ⟨q1, _, _⟩ := HTB.out W2 hA.st
                  refine opStep none 0 rfl rfl (fun c hc => by cases hc) ?_
                  go_simp
                  exact hK _ _ rfl (Below.refl _ _) trivial
                · -- 16
                  intro li a1 W2 hA K hK
                  have e146 : a1.tmps.getD 146 undef = .int .i64 (b - u) := hA.val 13 146 (by kernel_rfl) (by kernel_rfl)
                  have e148 : a1.tmps.getD 148 undef = .int .i64 b := hA.val 15 148 (by kernel_rfl) (by kernel_rfl)
                  refine opStep none 0 rfl rfl (fun c hc => by cases hc) ?_
                  go_simp
                  exact hK _ _ (by first | rfl | exact congrArg (Value.int .i64) htd | (simp [htd])) (Below.refl _ _) trivial
                · -- 17
                  intro li a1 W2 hA K hK
                  have e139 : a1.tmps.getD 139 undef = .int .i64 y := hA.val 6 139 (by kernel_rfl) (by kernel_rfl)
                  have e149 : a1.tmps.getD 149 undef = .int .i64 d := hA.val 16 149 (by kernel_rfl) (by kernel_rfl)
                  refine opStep none 0 rfl rfl (fun c hc => by cases hc) ?_
                  go_simp
                  exact hK _ _ (by first | rfl | exact congrArg (Value.int .i64) hw5 | (simp [hw5])) (Below.refl _ _) trivial
                · -- 18
                  intro li a1 W2 hA K hK
                  have e137 : a1.tmps.getD 137 undef = .int .i64 (r : Int) := hA.val 4 137 (by kernel_rfl) (by kernel_rfl)
                  have e138 : a1.tmps.getD 138 undef = .int .i64 (cc : Int) := hA.val 5 138 (by kernel_rfl) (by kernel_rfl)
                  have e150 : a1.tmps.getD 150 undef = .int .i64 (y + d) := hA.val 17 150 (by kernel_rfl) (by kernel_rfl)
                  refine opStep none 0 rfl rfl (fun c hc => by cases hc) ?_
                  refine step_build3 rfl e137 e138 e150 (built_fix _ _ _) ?_
                  exact hK _ _ rfl (Below.refl _ _) trivial
                · -- 19
                  intro li a1 W2 hA K hK
                  have e151 : a1.tmps.getD 151 undef = .agg #[.int .i64 (r : Int), .int .i64 (cc : Int), .int .i64 (y + d)] := hA.val 18 151 (by kernel_rfl) (by kernel_rfl)
                  have e151' := e151
                  rw [Array.getD_eq_getD_getElem?] at e151'
                  refine opStep none 0 rfl rfl (fun c hc => by cases hc) ?_
                  go_simp
                  exact hK _ _ ⟨_, rfl, Blk.new _ _ _⟩ ((Below.refl _ _).alloc (Nat.le_refl _) _) trivial
              · intro li a1 W2 hD
                obtain ⟨v3, e136, h136⟩ := hD.val 3 136 (by kernel_rfl) (by kernel_rfl)
                obtain ⟨gl, e152, hgl⟩ := hD.val 19 152 (by kernel_rfl) (by kernel_rfl)
                have ep := hD.par 22 (by kernel_rfl)
                have hst := hD.st
                have hs2 := hst.size
                obtain ⟨i0, hi0, hz0, hz1, hz2⟩ := info_parts rfix_info
                obtain ⟨v', w7, hrun, hr7, hg7, _, hf7⟩ := run_append_own_at (P := Try.prog) W2 _ 23 23 64 i0 (.agg #[.int .i64 0, .int .i64 0, .int .i64 0]) 3 24 Try.underlying23 hi0 hz0 hz1 hz2 rfl (by decide) v3 fs.length _ h136 ⟨gl, 0, none⟩ 1 1 (fxCells ⟨(r : Int), (cc : Int), (y + d)⟩) rfl (fx_at (f := ⟨(r : Int), (cc : Int), (y + d)⟩) hgl) (fx_cells _) (by simp only [maxLen]; omega) (by omega) (by omega)
                obtain ⟨z7, z8, z9, z10, z11, z12⟩ := fix_done (f := ⟨(r : Int), (cc : Int), (y + d)⟩) HBX.out hst h136 hg7 hr7
                have HZ := hid (And.intro z8 (And.intro z9 (And.intro z10 (And.intro z11 z12))))
                obtain ⟨g6, cap6, rfl⟩ := Go.ownsRow_succ hr7
                obtain ⟨y0, y1, y2⟩ := z7.c3
                have yf := z7.frozen 2
                have yl := z7.lt
                have hkp2 := hD.keeps (ds := [133, 134, 135, 136, 137, 138, 139, 140, 141, 142, 143, 144, 145, 146, 147, 148, 149, 150, 151, 152, 153, 154]) (by kernel_rfl)
                have hds := hD.size
                have hsz : a1.tmps.size = 207 := hD.size
                have hdd := hD.defers
                clear hst hr7 hg7 hf7 hgl z7 z8 z9 z10 z11 z12
                refine tail_val (i := 20) (v := .slice (some ⟨g6, 0, none⟩) (fs.length + 1) cap6) (W' := w7) none 0 rfl rfl rfl (fun c hc => by cases hc) (by simp [execOp, resolve, invoke, builtin, Act.eval, e136, e152, hrun, Result.andThen]) (by rw [hsz]; decide) ?_
                intro a3 s3 d3 f3 o3
                have hkp3 := keeps_then hkp2 o3 (by decide)
                have ep' : a3.tmps.getD 22 undef = .pointer (some ⟨Bh, 0, none⟩) := (o3 22 (by decide)).trans ep
                refine tail_val (i := 21) (v := .pointer (some ⟨Bh, 2, none⟩)) (W' := w7) none 0 rfl rfl rfl (fun c hc => by cases hc) (by go_simp) (by rw [s3, hsz]; decide) ?_
                intro a4 s4 d4 f4 o4
                have hkp4 := keeps_then hkp3 o4 (by decide)
                have ea : a4.tmps.getD 153 undef = .slice (some ⟨g6, 0, none⟩) (fs.length + 1) cap6 := (o4 153 (by decide)).trans f3
                refine tail_store (i := 22) (W' := w7.setCell ⟨Bh, 2, none⟩ (.slice (some ⟨g6, 0, none⟩) (fs.length + 1) cap6)) none 0 rfl rfl rfl (fun c hc => by cases hc) (by go_simp) ?_
                have e := act_mix [133, 134, 135, 136, 137, 138, 139, 140, 141, 142, 143, 144, 145, 146, 147, 148, 149, 150, 151, 152, 153, 154] (s4.trans (s3.trans hds)) (d4.trans (d3.trans hdd)) (fun i _ hc => hkp4 i hc)
                generalize (fun i => a4.tmps.getD i undef) = g' at e
                refine wpListIn_nil ?_
                rw [e]
                clear e hD hkp2 hkp3 hkp4 s3 s4 d3 d4 f3 f4 o3 o4 e136 e152 ep ep' ea hds hdd hsz y0 y1 y2 yf yl hi0 hz0 hz1 hz2 hrun
                simp only [mix, List.contains_cons, List.contains_nil, Nat.reduceAdd, Nat.reduceBEq, Bool.or_false, Bool.or_true, cond_true, cond_false]
                generalize w7.setCell ⟨Bh, 2, none⟩ (.slice (some ⟨g6, 0, none⟩) (fs.length + 1) cap6) = W14 at *
                obtain ⟨z8, ⟨AH, cH, e3, g1⟩, z10, z11, z12⟩ := HZ.out
                rw [e3] at z8
                have HFBH := hid (show FB b (some a) c cs fs ⟨(r : Int), (cc : Int), y + d⟩ Bh AH cH W14 from ⟨z8, _, g1⟩)
                have HFBN := hid (show FB b (some a) c cs fs ⟨(r : Int), (cc : Int), y - u⟩ Bl AL cL W14 from ⟨z10 _ _ _ HFBL.out.1 HNE.out, _, z12 _ _ _ _ HFBL.out.2⟩)
                have HB14 := hid (z11 w HB13.out (by omega))
                have HT14 := hid (z10 _ _ _ HT13.out (by have := HT11.out.lt; omega))
                clear z8 e3 g1 z10 z11 z12 HZ HIX HTB HBX
                have hlu := lowOf_bound (show 1 < b by omega) hy1
                unfold lowOf at hlu
                rw [← HU.out] at hlu
                have hbl := chk_more (v := y - u) HCK.out hrn hcn (by omega) h10
                have hbh := chk_more (v := y + d) HCK.out hrn hcn (by omega) h10
                have HBL2 := hid hbl
                have HBH2 := hid hbh
                have hlL : (fs ++ [(⟨(r : Int), (cc : Int), y - u⟩ : Fx)]).length = fs.length + 1 := by simp
                have hlH : (fs ++ [(⟨(r : Int), (cc : Int), y + d⟩ : Fx)]).length = fs.length + 1 := by simp
                have HLL := hid hlL
                have HLH := hid hlH
                obtain ⟨lw, hlw⟩ : ∃ lw, (spec b cs (fs ++ [⟨(r : Int), (cc : Int), y - u⟩]) cs.length zeroS).ways = lw := ⟨_, rfl⟩
                obtain ⟨gw, hgw⟩ : ∃ gw, (spec b cs (fs ++ [⟨(r : Int), (cc : Int), y + d⟩]) cs.length zeroS).ways = gw := ⟨_, rfl⟩
                have hsp := HSP.out
                rw [hlw, hgw, HKW.out] at hsp
                have HLW := hid hlw
                have HGW := hid hgw
                have HSQ := hid hsp
                have hkwb := ways_wrap OK.out
                rw [HKW.out] at hkwb
                have TXL := hid (HFBN.out.tin (HH.out.at_ HB14.out))
                have TXH := hid (HFBH.out.tin (HH.out.at_ HB14.out))
                clear hbl hbh hlL hlH hlw hgw hsp
                obtain ⟨t0, t1, t2⟩ := HT14.out.c3
                have YL0 := hid (HFBN.out.bx)
                obtain ⟨l0, l1, l2⟩ := YL0.out.c3
                have YH0 := hid (HFBH.out.bx)
                obtain ⟨m0, m1, m2⟩ := YH0.out.c3
                have ZZ0 := hid (Below.refl W14.heap.size W14)
                have K41 := hid (table_any b (some a) c cs AL cL (fs ++ [⟨(r : Int), (cc : Int), y - u⟩]) W14 (TXL.out.at_ ZZ0.out) (by omega) HCX.out (by rw [HLL.out]; omega))
                unfold GivesTable at K41
                rw [HLL.out] at K41
                go_wp2_with fail
                refine K41.out.mono ?_
                rintro e w41 ⟨P40, p40, Q40, q40, rfl, hti, hb⟩
                have HB41 := hid (HB14.out.trans (hb.mono HB14.out.size))
                have HT41 := hid (HT14.out.keep hb)
                have ZZ41 := hid (ZZ0.out.trans (hb.mono ZZ0.out.size))
                have YL41 := hid (YL0.out.keep hb)
                have YH41 := hid (YH0.out.keep hb)
                have TI40 := hid hti
                clear hti
                clear hb K41 t0 t1 t2 l0 l1 l2 m0 m1 m2
                obtain ⟨t0, t1, t2⟩ := HT41.out.c3
                obtain ⟨l0, l1, l2⟩ := YL41.out.c3
                obtain ⟨m0, m1, m2⟩ := YH41.out.c3
                have KW := ways_any b P40 p40 cs Q40 q40 (fs ++ [⟨(r : Int), (cc : Int), y - u⟩]) w41 TI40.out
                rw [if_pos HBL2.out, HLW.out, HLL.out] at KW
                have KW := hid KW
                have K42 := hid (KW.out)
                go_wp2_with fail
                refine K42.out.mono ?_
                rintro e w42 ⟨rfl, hb⟩
                have HB42 := hid (HB41.out.trans (hb.mono HB41.out.size))
                have HT42 := hid (HT41.out.keep hb)
                have ZZ42 := hid (ZZ41.out.trans (hb.mono ZZ41.out.size))
                have YL42 := hid (YL41.out.keep hb)
                have YH42 := hid (YH41.out.keep hb)
                clear hb K42 t0 t1 t2 KW l0 l1 l2 m0 m1 m2
                obtain ⟨t0, t1, t2⟩ := HT42.out.c3
                obtain ⟨l0, l1, l2⟩ := YL42.out.c3
                obtain ⟨m0, m1, m2⟩ := YH42.out.c3
                have K43 := hid (table_any b (some a) c cs AH cH (fs ++ [⟨(r : Int), (cc : Int), y + d⟩]) w42 (TXH.out.at_ ZZ42.out) (by omega) HCX.out (by rw [HLH.out]; omega))
                unfold GivesTable at K43
                rw [HLH.out] at K43
                go_wp2_with fail
                refine K43.out.mono ?_
                rintro e w43 ⟨P42, p42, Q42, q42, rfl, hti, hb⟩
                have HB43 := hid (HB42.out.trans (hb.mono HB42.out.size))
                have HT43 := hid (HT42.out.keep hb)
                have ZZ43 := hid (ZZ42.out.trans (hb.mono ZZ42.out.size))
                have YL43 := hid (YL42.out.keep hb)
                have YH43 := hid (YH42.out.keep hb)
                have TI42 := hid hti
                clear hti
                clear hb K43 t0 t1 t2 l0 l1 l2 m0 m1 m2
                obtain ⟨t0, t1, t2⟩ := HT43.out.c3
                obtain ⟨l0, l1, l2⟩ := YL43.out.c3
                obtain ⟨m0, m1, m2⟩ := YH43.out.c3
                have KW := ways_any b P42 p42 cs Q42 q42 (fs ++ [⟨(r : Int), (cc : Int), y + d⟩]) w43 TI42.out
                rw [if_pos HBH2.out, HGW.out, HLH.out] at KW
                have KW := hid KW
                have K44 := hid (KW.out)
                go_wp2_with fail
                refine K44.out.mono ?_
                rintro e w44 ⟨rfl, hb⟩
                have HB44 := hid (HB43.out.trans (hb.mono HB43.out.size))
                have HT44 := hid (HT43.out.keep hb)
                have ZZ44 := hid (ZZ43.out.trans (hb.mono ZZ43.out.size))
                have YL44 := hid (YL43.out.keep hb)
                have YH44 := hid (YH43.out.keep hb)
                clear hb K44 t0 t1 t2 KW l0 l1 l2 m0 m1 m2
                obtain ⟨t0, t1, t2⟩ := HT44.out.c3
                obtain ⟨l0, l1, l2⟩ := YL44.out.c3
                obtain ⟨m0, m1, m2⟩ := YH44.out.c3
                by_cases hu0 : u = 0
                · obtain ⟨q1, q2⟩ := HSQ.out.1 hu0
                  have hlk : (lw == kw) = true := by rw [q1]; simp
                  have hgk : (gw == kw) = true := by rw [q2]; simp
                  have hu1 : (u == 0) = true := by rw [hu0]; rfl
                  clear q1 q2 hu0
                  have K45 := hid (awake_any w44)
                  go_wp2_with fail
                  refine K45.out.mono ?_
                  rintro e w45 ⟨rfl, hb⟩
                  have HB45 := hid (HB44.out.trans (hb.mono HB44.out.size))
                  have HT45 := hid (HT44.out.keep hb)
                  have ZZ45 := hid (ZZ44.out.trans (hb.mono ZZ44.out.size))
                  have YL45 := hid (YL44.out.keep hb)
                  have YH45 := hid (YH44.out.keep hb)
                  clear hb K45 t0 t1 t2 l0 l1 l2 m0 m1 m2
                  obtain ⟨t0, t1, t2⟩ := HT45.out.c3
                  obtain ⟨l0, l1, l2⟩ := YL45.out.c3
                  obtain ⟨m0, m1, m2⟩ := YH45.out.c3
                  clear t0 t1 t2 l0 l1 l2 m0 m1 m2
                  go_wp2
                  go_ret
                  exact ⟨rfl, HB45.out⟩
                · have q1 := HSQ.out.2 hu0
                  have hww : IntKind.i64.wrap (lw + gw) = kw := by rw [q1]; exact IntWalk.i64_in _ (by omega)
                  have hkk : (kw == kw) = true := by simp
                  have hu1 : (u == 0) = false := by simp; exact hu0
                  clear q1 hu0
                  have K45 := hid (awake_any w44)
                  go_wp2_with fail
                  refine K45.out.mono ?_
                  rintro e w45 ⟨rfl, hb⟩
                  have HB45 := hid (HB44.out.trans (hb.mono HB44.out.size))
                  have HT45 := hid (HT44.out.keep hb)
                  have ZZ45 := hid (ZZ44.out.trans (hb.mono ZZ44.out.size))
                  have YL45 := hid (YL44.out.keep hb)
                  have YH45 := hid (YH44.out.keep hb)
                  clear hb K45 t0 t1 t2 l0 l1 l2 m0 m1 m2
                  obtain ⟨t0, t1, t2⟩ := HT45.out.c3
                  obtain ⟨l0, l1, l2⟩ := YL45.out.c3
                  obtain ⟨m0, m1, m2⟩ := YH45.out.c3
                  clear t0 t1 t2 l0 l1 l2 m0 m1 m2
                  go_wp2
                  go_ret
                  exact ⟨rfl, HB45.out⟩
section
open Go.Deep Go.Joins Go.ChangeShapes Go.WideShapes
variable {H : Type} {enc : TypeId × Value → H} {W : World} {n : Nat} {v : Value} {y : DataW H × List MemPlace}
set_option maxRecDepth 100000 in
theorem trod_fixes_w (h : DataW.trod enc Try.prog W 0 (fun _ => true) true n 23 [v] = some y) (hw : (y.1.weights Try.prog 23).all (· ≤ reachBytes) = true) :
    ∃ A c fs, v = .slice A (fs : List Fx).length c ∧ IsFixes W W.heap.size A fs ∧ fs.length ≤ c ∧ c ≤ maxLen ∧ fs.length * 24 ≤ 140737488351232 := by
  obtain ⟨A, c, fs, e, r1, r2, r3⟩ := trod_fixes h
  refine ⟨A, c, fs, e, r1, r2, r3, ?_⟩
  rcases open_slice Try.underlying23 h with ⟨e', _⟩ | ⟨a, len, cap, m, n', D, Pl, e', _, hl, hm, hmm, hy, hr⟩
  · injection e' with e'
    rw [e] at e'
    injection e' with _ e' _
    omega
  · injection e' with e'
    rw [e] at e'
    injection e' with _ e' _
    rw [hy] at hw
    simp only [DataW.weights, Try.underlying23, List.all_cons, Bool.and_eq_true, decide_eq_true_eq, List.length_map, List.length_range] at hw
    have hb : Try.prog.bytesOf 64 = 24 := by kernel_rfl
    rw [hb] at hw
    have h1 := hw.1
    simp only [reachBytes] at h1
    rw [e']
    omega
set_option maxRecDepth 100000 in
theorem open_table_w {r : Go.Reach} {b0 : Nat} {d : DataW H} {ps : List MemPlace} (hval : Value.okWide Try.prog W r b0 25 v) (hd : DataW.Trod enc Try.prog W 0 (fun _ => true) true 25 v d ps) (hw : (d.weights Try.prog 25).all (· ≤ reachBytes) = true) :
    ∃ b A c cs A2 c2 fs, v = .agg #[.int .i64 b, .slice A (cs : List (List Int)).length c, .slice A2 (fs : List Fx).length c2] ∧ TIn A c cs A2 c2 fs W ∧ fs.length * 24 ≤ 140737488351232 := by
  obtain ⟨v0, v1, v2, y0, y1, y2, m, rfl, rfl, _, h0, h1, h2⟩ := open_agg3 Try.underlying25 (by kernel_rfl) (by kernel_rfl) hval hd
  obtain ⟨b, e0, _, _⟩ := DataW.trod_int Try.underlying3 h0
  injection e0 with e0
  subst e0
  obtain ⟨A, c, cs, rfl, r1, r2, r3, r4⟩ := trod_rows h1
  have hw2 : (y2.1.weights Try.prog 23).all (· ≤ reachBytes) = true := by
    simp only [DataW.weights, Try.underlying25, List.map_cons, List.map_nil, DataW.weightsEach, List.all_append, Bool.and_eq_true] at hw
    exact hw.2.2.1
  obtain ⟨A2, c2, fs, rfl, f1, f2, f3, f4⟩ := trod_fixes_w h2 hw2
  exact ⟨b, A, c, cs, A2, c2, fs, rfl, ⟨r1, f1, r2, r3, f2, f3, r4⟩, f4⟩
set_option maxRecDepth 100000 in
theorem open_fix {r : Go.Reach} {b0 : Nat} {d : DataW H} {ps : List MemPlace} (hval : Value.okWide Try.prog W r b0 64 v) (hd : DataW.Trod enc Try.prog W 0 (fun _ => true) true 64 v d ps) :
    ∃ f : Fx, v = .agg #[.int .i64 f.row, .int .i64 f.col, .int .i64 f.val] := by
  obtain ⟨v0, v1, v2, y0, y1, y2, m, rfl, _, _, h0, h1, h2⟩ := open_agg3 Try.underlying64 (by kernel_rfl) (by kernel_rfl) hval hd
  obtain ⟨n0, e0, _, _⟩ := DataW.trod_int Try.underlying3 h0
  obtain ⟨n1, e1, _, _⟩ := DataW.trod_int Try.underlying3 h1
  obtain ⟨n2, e2, _, _⟩ := DataW.trod_int Try.underlying3 h2
  injection e0 with e0
  injection e1 with e1
  injection e2 with e2
  subst e0 e1 e2
  exact ⟨⟨n0, n1, n2⟩, rfl⟩
end

open Go.ChangeShapes Go.WideShapes Go.ChangeAt in
set_option maxRecDepth 100000 in
theorem fixed_lifted (os : Os) (started : os.Started) (H : Type) (enc : TypeId × Value → H) :
    ReturnsInHanded {} Try.checked os 6 .any (Rows.roundFixedSpec.pre6 enc Try.prog Try.f6 Rows.roundFixedRow.domain false) (Rows.roundFixedSpec.post enc Try.prog Try.f6 false true false false) := by
  refine returnsInHanded_of_change_sized (C := Try.checked) own started (by kernel_rfl) Try.func6
    (ChangeSpec.witness6 (enc := enc) (C := Try.checked) false ⟨#[], #[.agg #[.int .i64 0, .slice none 0 0, .slice none 0 0], .agg #[.int .i64 0, .int .i64 0, .int .i64 0], .int .u8 0], []⟩ 8 (by kernel_rfl) (by kernel_rfl) (by kernel_rfl) (by kernel_rfl)) ?_
  intro W base args ds gs before hval0 hW hcnd hsz0 _
  have hval : ∀ (j : Nat) t v, Try.f6.params[j]? = some t → args[j]? = some v → Value.okWide Try.prog W .any base t v := hval0
  have hW' := hW
  have hsz : (DataW.weightsEach Try.prog (Try.f6.params.toList ++ Rows.roundFixedSpec.plain.varTypes Try.prog) (ds ++ gs)).all (· ≤ reachBytes) = true := hsz0
  clear hsz0
  obtain ⟨p, q, hA0, hV, rfl, hfz, hnd⟩ := hW
  have hA : DataW.TrodAll enc Try.prog W 0 (fun _ => true) true Try.f6.params.toList args.toList ds p := hA0
  rw [Try.params6] at hA hval hsz
  obtain ⟨v0, vs0, d0, ds0, p0, q0, hargs, rfl, rfl, h0, r0⟩ := trodAll_cons hA
  obtain ⟨v1, vs1, d1, ds1, p1, q1, rfl, rfl, rfl, h1, r1⟩ := trodAll_cons r0
  obtain ⟨v2, vs2, d2, ds2, p2, q2, rfl, rfl, rfl, h2, r2⟩ := trodAll_cons r1
  obtain ⟨rfl, rfl, rfl⟩ := trodAll_nil r2
  obtain rfl : args = #[v0, v1, v2] := by cases args; simp_all
  obtain ⟨rfl, rfl⟩ := trodVars_none hV
  have hwt : (d0.weights Try.prog 25).all (· ≤ reachBytes) = true := by
    simp only [List.cons_append, List.nil_append, DataW.weightsEach, List.all_append, Bool.and_eq_true] at hsz
    exact hsz.1
  obtain ⟨b0, A, c, cs, A2, c2, fs, rfl, ht, hs⟩ := open_table_w (hval 0 25 v0 rfl rfl) h0 hwt
  obtain ⟨f, rfl⟩ := open_fix (hval 1 64 v1 rfl rfl) h1
  obtain ⟨q, rfl, rfl, rfl, w1⟩ := open_int Try.underlying5 (hval 2 5 v2 rfl rfl) h2
  have hq : 0 ≤ q ∧ q ≤ 255 := by
    have h : decide (IntKind.u8.min ≤ q) = true ∧ decide (q ≤ IntKind.u8.max) = true := by simpa [Lit.wf] using w1
    have h1 := of_decide_eq_true h.1
    have h2 := of_decide_eq_true h.2
    have e1 : IntKind.u8.min = 0 := by decide
    have e2 : IntKind.u8.max = 255 := by decide
    omega
  refine (fixed_any b0 A c cs A2 c2 fs f q W ht hs hq.1 hq.2).mono fun e W' ⟨he, hb⟩ => ⟨_, he, ?_⟩
  exact law_post laid_out rfl rfl (by kernel_rfl) hW' rfl hb

theorem fixed_over : Rows.roundFixedRow.holds Try.pinned (OpenSpec.ofChange Rows.roundFixedSpec) :=
  OpenClaim.holds_of_wide 6 Try.f6 rfl rfl rfl rfl rfl rfl rfl ⟨rfl, rfl, rfl, rfl, rfl⟩ rfl rfl rfl rfl rfl (by kernel_rfl) Try.func6 (by kernel_rfl)
    (of_decide_eq_true (by kernel_rfl)) (by unfold Func.isWrapper; first | (rw [if_pos (by decide +kernel)]; kernel_rfl) | (rw [if_neg (by decide +kernel)]; exact ⟨rfl, rfl⟩))
    (fun os started H enc _ => fixed_lifted os started H enc)
/-- the statement -/
theorem round_fixed : Rows.RoundFixedSaid := fixed_over
#print axioms round_fixed
end Go.Proofs.Ytgoianldiomdoaa
