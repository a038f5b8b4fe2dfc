/- For every map, with a further join no more districts are not connected, and no more streets are moved: the statement BorderJoined. No condition. -/
import Derived.Test.YtoeabajigfdkaaaG1
import Derived.Test.YtoeabajigfdkaaaG3
import Derived.Test.YtoeabajigfdkaaaG17
import Derived.Test.YtoeabajigfdkaaaG18
import Derived.Test.YtoeabajigfdkaaaG23
namespace Go.Proofs.Ytoeabajigfdkaaa
open Go.RowKit Go.Shelf

theorem gr_set (W : World) (p : Addr) (u : Value) : W.grownBy (W.setCell p u) (some p.block) := ⟨rfl, rfl, rfl, by simp, fun k _ hn => Below.heap_setCell W p u k (fun e => hn (by rw [e]))⟩
/-- Best, whatever it finds -/
theorem best_all {m : MapD} {A : Option Addr} {c : Nat} {A2 : Option Addr} {c2 : Nat} {A3 : Option Addr} {c3 : Nat} {w : World} {lo hi : Int} (h : MIn m A c A2 c2 A3 c3 w) (he : askE m lo hi = 0) : Calls Try.prog 29 #[.agg #[.slice A m.old.length c, .int .i64 m.nw, .slice A2 m.ss.length c2, .slice A3 m.js.length c3], .agg #[.int .i64 lo, .int .i64 hi]] w fun e w' => ∃ y : (Option Addr × Nat × Nat) × Int × Int, e = .returned (.tuple #[.slice y.1.1 y.1.2.1 y.1.2.2, .int .i64 y.2.1, .int .i64 y.2.2]) ∧ True ∧ Below w.heap.size w w' := by
  cases hb : bestB m lo hi with
  | none => exact (best_no h he hb).mono fun e w' ⟨h1, h2⟩ => ⟨((none, 0, 0), 0, 7), h1, trivial, h2⟩
  | some p => exact (best_yes (l := p.2) (j := p.1) h he hb).mono fun e w' ⟨y, h1, _, h3⟩ => ⟨((y.1, (lst m p.2).length, y.2), (p.1 : Int), 0), h1, trivial, h3⟩
set_option maxRecDepth 100000 in
set_option maxHeartbeats 8000000 in
theorem joi_not (m : MapD) (A : Option Addr) (c : Nat) (A2 : Option Addr) (c2 : Nat) (A3 : Option Addr) (c3 : Nat) (ja jb p q : Int) (w : World) (h : MArg m A c A2 c2 A3 c3 w) (hw16 : m.js.length * 16 ≤ 140737488351232) (hp0 : 0 ≤ p) (hp1 : p ≤ 65535) (hq0 : 0 ≤ q) (hq1 : q ≤ 65535) (hr : readyM m = false) :
    Calls Try.prog 9 #[.agg #[.slice A m.old.length c, .int .i64 m.nw, .slice A2 m.ss.length c2, .slice A3 m.js.length c3], .agg #[.int .i64 ja, .int .i64 jb], .int .u16 p, .int .u16 q] w fun e w' => e = .returned (.bool true) ∧ Below w.heap.size w w' := by
  have hB := (below_box (w := w) #[.slice A m.old.length c, .int .i64 m.nw, .slice A2 m.ss.length c2, .slice A3 m.js.length c3] 26).alloc (below_box (w := w) #[.slice A m.old.length c, .int .i64 m.nw, .slice A2 m.ss.length c2, .slice A3 m.js.length c3] 26).size (.cells #[.int .i64 ja, .int .i64 jb] 63)
  have hT := (Blk.new w 26 #[.slice A m.old.length c, .int .i64 m.nw, .slice A2 m.ss.length c2, .slice A3 m.js.length c3]).alloc (.cells #[.int .i64 ja, .int .i64 jb] 63)
  have hJ := Blk.new (w.alloc (.cells #[.slice A m.old.length c, .int .i64 m.nw, .slice A2 m.ss.length c2, .slice A3 m.js.length c3] 26)) 63 #[.int .i64 ja, .int .i64 jb]
  rw [World.size_alloc] at hJ
  have hX := Blk.new ((w.alloc (.cells #[.slice A m.old.length c, .int .i64 m.nw, .slice A2 m.ss.length c2, .slice A3 m.js.length c3] 26)).alloc (.cells #[.int .i64 ja, .int .i64 jb] 63)) 26 #[.slice A m.old.length c, .int .i64 m.nw, .slice A2 m.ss.length c2, .slice A3 m.js.length c3]
  rw [World.size_alloc, World.size_alloc] at hX
  have HS0 := hid (And.intro (hB.alloc hB.size (.cells #[.slice A m.old.length c, .int .i64 m.nw, .slice A2 m.ss.length c2, .slice A3 m.js.length c3] 26)) (And.intro (hT.alloc (.cells #[.slice A m.old.length c, .int .i64 m.nw, .slice A2 m.ss.length c2, .slice A3 m.js.length c3] 26)) (And.intro (hJ.alloc (.cells #[.slice A m.old.length c, .int .i64 m.nw, .slice A2 m.ss.length c2, .slice A3 m.js.length c3] 26)) hX)))
  have HH := hid h
  obtain ⟨t0, t1, t2, t3⟩ := hT.c4
  obtain ⟨j0, j1⟩ := hJ.c2
  clear h hB hT hJ hX
  have HRD := hid hr
  clear hr
  obtain ⟨lo, hlo⟩ : ∃ lo, p % 2000 = lo := ⟨_, rfl⟩
  obtain ⟨hi, hhi⟩ : ∃ hi, min 40000 (lo + q) = hi := ⟨_, rfl⟩
  have hlo0 : 0 ≤ lo ∧ lo < 2000 := by rw [← hlo]; exact ⟨Int.emod_nonneg _ (by omega), Int.emod_lt_of_pos _ (by omega)⟩
  have HLI := hid (show 0 ≤ lo ∧ lo ≤ hi ∧ hi ≤ 40000 by omega)
  have htm : p.tmod 2000 = lo := by rw [Int.tmod_eq_emod_of_nonneg hp0]; exact hlo
  have hwp : IntKind.i64.wrap p = p := IntWalk.i64_in _ (by omega)
  have hwq : IntKind.i64.wrap q = q := IntWalk.i64_in _ (by omega)
  have hwl : IntKind.i64.wrap lo = lo := IntWalk.i64_in _ (by omega)
  have hws : IntKind.i64.wrap (lo + q) = lo + q := IntWalk.i64_in _ (by omega)
  have hite : (if lo + q < 40000 then lo + q else 40000) = hi := by rw [← hhi]; split <;> omega
  have hitv : (if lo + q < 40000 then Value.int .i64 (lo + q) else Value.int .i64 40000) = Value.int .i64 hi := by rw [← hhi]; split <;> congr 1 <;> omega
  have HSZ := hid hw16
  clear hlo hhi hw16 hlo0
  go_enter Try.func9, Try.ntmps9
  go_upto_region 2 with (fail)
  refine gen (p := Code.wp _ _ _ _) (fun W => Below w.heap.size w W ∧ Blk W w.heap.size 26 #[.slice A m.old.length c, .int .i64 m.nw, .slice A2 m.ss.length c2, .slice A3 m.js.length c3] ∧ Blk W (w.heap.size + 1) 63 #[.int .i64 ja, .int .i64 jb] ∧ Blk W (w.heap.size + 2) 26 #[.slice A m.old.length c, .int .i64 m.nw, .slice A2 m.ss.length c2, .slice A3 m.js.length c3]) HS0.out ?_
  rintro w1 hw1
  have HW1 := hid hw1
  clear hw1 HS0 t0 t1 t2 t3 j0 j1
  have HTB := hid (fun (W2 : World) (hW : Below w1.heap.size w1 W2) => (HW1.out.2.1.keep hW).c4)
  have HFB := hid (fun (W2 : World) (hW : Below w1.heap.size w1 W2) => (HW1.out.2.2.1.keep hW).c2)
  have HIX := hid (HH.out.at_ HW1.out.1).ij
  have hxl := HW1.out.2.2.2.lt
  refine (wpIn_wide (n := 0)).1 ?_
  refine wpIn_region_each 6 (fun i v W' => match i with | 0 => ∃ g0, v = .slice (some ⟨g0, 0, none⟩) 0 0 ∧ w1.heap.size ≤ g0 ∧ Blk W' g0 63 #[] | 1 => v = .pointer (some ⟨w.heap.size, 3, none⟩) | 2 => v = .slice A3 m.js.length c3 | 3 => ∃ v3, v = v3 ∧ W'.ownsRow w1.heap.size 63 2 v3 m.js.length (jnsC m.js) | 4 => v = .agg #[.int .i64 ja, .int .i64 jb] | 5 => ∃ gl, v = .slice (some ⟨gl, 0, none⟩) 1 1 ∧ Blk W' gl 63 #[.int .i64 ja, .int .i64 jb] | _ => True) (fun A B => Below A.heap.size A B) (fun _ _ => True) (by kernel_rfl) (by kernel_rfl) ?_ (fun h k => h.trans (k.mono h.size)) ⟨rfl, rfl, rfl, Nat.le_refl _, fun _ _ => rfl⟩ trivial (by kernel_rfl) ?_ ?_
  · intro i v W1 W2 hb h
    match i, h with
    | 0, h =>
      obtain ⟨g0, rfl, h1⟩ := h
      exact ⟨_, rfl, h1.1, h1.2.keep hb⟩
    | 1, h => exact h
    | 2, h => exact h
    | 3, h =>
      obtain ⟨v3, rfl, h1⟩ := h
      exact ⟨_, rfl, row_kept (vo := .slice none 0 0) h1 (grown_of_below hb _) (.inl rfl)⟩
    | 4, h => exact h
    | 5, h =>
      obtain ⟨gl, rfl, h1⟩ := h
      exact ⟨_, rfl, h1.keep hb⟩
    | i + 6, h => trivial
  · refine ⟨?_, ?_, ?_, ?_, ?_, ?_, trivial⟩
    · -- 0
      intro li a1 W2 hA K hK
      refine opStep none 0 rfl rfl (fun c hc => by cases hc) ?_
      go_simp
      exact hK _ _ ⟨_, rfl, by have := hA.st.size; omega, Blk.new _ _ _⟩ ((Below.refl _ _).alloc (Nat.le_refl _) _) trivial
    · -- 1
      intro li a1 W2 hA K hK
      have e4 := hA.par 4 (by kernel_rfl)
      refine opStep none 0 rfl rfl (fun c hc => by cases hc) ?_
      go_simp
      exact hK _ _ rfl (Below.refl _ _) trivial
    · -- 2
      intro li a1 W2 hA K hK
      have e26 : a1.tmps.getD 26 undef = .pointer (some ⟨w.heap.size, 3, none⟩) := hA.val 1 26 (by kernel_rfl) (by kernel_rfl)
      obtain ⟨_, _, _, q1⟩ := HTB.out W2 hA.st
      refine opStep none 0 rfl rfl (fun c hc => by cases hc) ?_
      go_simp
      exact hK _ _ rfl (Below.refl _ _) trivial
    · -- 3
      intro li a1 W2 hA K hK
      obtain ⟨g0, e25, h25⟩ := hA.val 0 25 (by kernel_rfl) (by kernel_rfl)
      have e27 : a1.tmps.getD 27 undef = .slice A3 m.js.length c3 := hA.val 2 27 (by kernel_rfl) (by kernel_rfl)
      obtain ⟨v', w', hrun, ho', hb'⟩ := copy_joins (c3 := c3) (HIX.out.at_ hA.st) h25.2 h25.1 HSZ.out
      refine opValue none 0 rfl rfl (fun c hc => by cases hc) (v := v') (W' := w') (by simp [execOp, resolve, invoke, builtin, Act.eval, e25, e27, hrun, Result.andThen]) ?_
      exact hK v' w' ⟨v', rfl, ho'⟩ hb' trivial
    · -- 4
      intro li a1 W2 hA K hK
      have e5 := hA.par 5 (by kernel_rfl)
      obtain ⟨q1, q2⟩ := HFB.out W2 hA.st
      refine opStep none 0 rfl rfl (fun c hc => by cases hc) ?_
      go_simp
      exact hK _ _ rfl (Below.refl _ _) trivial
    · -- 5
      intro li a1 W2 hA K hK
      have e29 : a1.tmps.getD 29 undef = .agg #[.int .i64 ja, .int .i64 jb] := hA.val 4 29 (by kernel_rfl) (by kernel_rfl)
      have e29' := e29
      rw [Array.getD_eq_getD_getElem?] at e29'
      refine opStep none 0 rfl rfl (fun c hc => by cases hc) ?_
      go_simp
      exact hK _ _ ⟨_, rfl, Blk.new _ _ _⟩ ((Below.refl _ _).alloc (Nat.le_refl _) _) trivial
  intro li a1 W2 hD
  obtain ⟨v3, e28, h28⟩ := hD.val 3 28 (by kernel_rfl) (by kernel_rfl)
  obtain ⟨gl, e30, hgl⟩ := hD.val 5 30 (by kernel_rfl) (by kernel_rfl)
  have ep := hD.par 9 (by kernel_rfl)
  have hst := hD.st
  have hs2 := hst.size
  obtain ⟨i0, hi0, hz0, hz1, hz2⟩ := info_parts qjn_info
  obtain ⟨v', w7, hrun, hr7, hg7, _, hf7⟩ := run_append_own_at (P := Try.prog) W2 _ 24 24 63 i0 (.agg #[.int .i64 0, .int .i64 0]) 2 16 Try.underlying24 hi0 hz0 hz1 hz2 rfl (by decide) v3 m.js.length _ h28 ⟨gl, 0, none⟩ 1 1 (jnC ⟨ja, jb⟩) rfl (two_blk hgl) (jnC_one _) (by simp only [maxLen]; have := HSZ.out; omega) (by have := HSZ.out; omega) (by omega)
  have hb7 := below_row' hst h28 (Nat.le_refl _) hg7 hs2
  rw [← jnsC_snoc] at hr7
  obtain ⟨js9, hjs⟩ : ∃ l, m.js ++ [(⟨ja, jb⟩ : Jn)] = l := ⟨_, rfl⟩
  have hjn : m.js.length + 1 = js9.length := by rw [← hjs]; simp
  rw [hjs] at hr7
  have HJS := hid hjs
  obtain ⟨g6, cap6, rfl, hj6, hl6, hm6, hg6, hg6l⟩ := row_jns hr7 hjn (by omega)
  have hx7 := HW1.out.2.2.2.keep hb7
  obtain ⟨y0, y1, y2, y3⟩ := hx7.c4
  have yf := hx7.frozen 3
  have yl := hx7.lt
  have hne1 : w.heap.size ≠ w.heap.size + 2 := by omega
  have HZ := hid (show Below w.heap.size w (w7.setCell ⟨w.heap.size + 2, 3, none⟩ (.slice (some ⟨g6, 0, none⟩) js9.length cap6)) ∧ Blk (w7.setCell ⟨w.heap.size + 2, 3, none⟩ (.slice (some ⟨g6, 0, none⟩) js9.length cap6)) w.heap.size 26 #[.slice A m.old.length c, .int .i64 m.nw, .slice A2 m.ss.length c2, .slice A3 m.js.length c3] ∧ Blk (w7.setCell ⟨w.heap.size + 2, 3, none⟩ (.slice (some ⟨g6, 0, none⟩) js9.length cap6)) (w.heap.size + 2) 26 #[.slice A m.old.length c, .int .i64 m.nw, .slice A2 m.ss.length c2, .slice (some ⟨g6, 0, none⟩) js9.length cap6] ∧ IsJns (w7.setCell ⟨w.heap.size + 2, 3, none⟩ (.slice (some ⟨g6, 0, none⟩) js9.length cap6)) (w7.setCell ⟨w.heap.size + 2, 3, none⟩ (.slice (some ⟨g6, 0, none⟩) js9.length cap6)).heap.size (some ⟨g6, 0, none⟩) js9 from
    ⟨(HW1.out.1.trans (hb7.mono HW1.out.1.size)).setCell (p := ⟨w.heap.size + 2, 3, none⟩) (by show w.heap.size ≤ w.heap.size + 2; omega) _, blk_off (HW1.out.2.1.keep hb7) hne1, hx7.set_ 3 _, by
      have ho8 := hr7.kept (gr_set w7 ⟨w.heap.size + 2, 3, none⟩ (.slice (some ⟨g6, 0, none⟩) js9.length cap6)) (own_ne hr7 (blk_not hx7 (by decide)))
      obtain ⟨g7, cap7, e7, hj7, _⟩ := row_jns ho8 hjn (by omega)
      injection e7 with e7
      injection e7 with e7
      injection e7 with e7
      subst e7
      exact hj7⟩)
  have HLM := hid (And.intro hl6 hm6)
  have hkp2 := hD.keeps (ds := [25, 26, 27, 28, 29, 30, 31, 32]) (by kernel_rfl)
  have hds := hD.size
  have hsz : a1.tmps.size = 127 := hD.size
  have hdd := hD.defers
  clear hst hr7 hg7 hf7 hgl hb7 hj6 hl6 hm6 hx7 hjs
  refine tail_val (i := 6) (v := .slice (some ⟨g6, 0, none⟩) js9.length cap6) (W' := w7) none 0 rfl rfl rfl (fun c hc => by cases hc) (by simp [execOp, resolve, invoke, builtin, Act.eval, e28, e30, hrun, Result.andThen]) (by rw [hsz]; decide) ?_
  intro a3 s3 d3 f3 o3
  have hkp3 := keeps_then hkp2 o3 (by decide)
  have ep' : a3.tmps.getD 9 undef = .pointer (some ⟨w.heap.size + 2, 0, none⟩) := (o3 9 (by decide)).trans ep
  refine tail_val (i := 7) (v := .pointer (some ⟨w.heap.size + 2, 3, none⟩)) (W' := w7) none 0 rfl rfl rfl (fun c hc => by cases hc) (by go_simp) (by rw [s3, hsz]; decide) ?_
  intro a4 s4 d4 f4 o4
  have hkp4 := keeps_then hkp3 o4 (by decide)
  have ea : a4.tmps.getD 31 undef = .slice (some ⟨g6, 0, none⟩) js9.length cap6 := (o4 31 (by decide)).trans f3
  refine tail_store (i := 8) (W' := w7.setCell ⟨w.heap.size + 2, 3, none⟩ (.slice (some ⟨g6, 0, none⟩) js9.length cap6)) none 0 rfl rfl rfl (fun c hc => by cases hc) (by go_simp) ?_
  have e := act_mix [25, 26, 27, 28, 29, 30, 31, 32] (s4.trans (s3.trans hds)) (d4.trans (d3.trans hdd)) (fun i _ hc => hkp4 i hc)
  generalize (fun i => a4.tmps.getD i undef) = g' at e
  refine wpListIn_nil ?_
  rw [e]
  clear e hD hkp2 hkp3 hkp4 s3 s4 d3 d4 f3 f4 o3 o4 e28 e30 ep ep' ea hds hdd hsz y0 y1 y2 y3 yf yl hi0 hz0 hz1 hz2 hrun
  simp only [mix, List.contains_cons, List.contains_nil, Nat.reduceAdd, Nat.reduceBEq, Bool.or_false, Bool.or_true, cond_true, cond_false]
  generalize w7.setCell ⟨w.heap.size + 2, 3, none⟩ (.slice (some ⟨g6, 0, none⟩) js9.length cap6) = w8 at *
  obtain ⟨x, hxe⟩ : ∃ x, joinM m ⟨ja, jb⟩ = x := ⟨_, rfl⟩
  have HXE := hid hxe
  have HB8 := hid HZ.out.1
  have HT8 := hid HZ.out.2.1
  have XB0 := hid (show Blk w8 (w.heap.size + 2) 26 #[.slice A x.old.length c, .int .i64 x.nw, .slice A2 x.ss.length c2, .slice (some ⟨g6, 0, none⟩) x.js.length cap6] by rw [← hxe, show (joinM m ⟨ja, jb⟩).js = js9 from HJS.out]; exact HZ.out.2.2.1)
  have HXA := hid (show MArg x A c A2 c2 (some ⟨g6, 0, none⟩) cap6 w8 by
    have h9 := HH.out.at_ HB8.out
    rw [← hxe]
    have ej : (joinM m ⟨ja, jb⟩).js = js9 := HJS.out
    exact ⟨⟨h9.io, h9.is, ej ▸ HZ.out.2.2.2, h9.l1, h9.m1, h9.l2, h9.m2, ej ▸ HLM.out.1, HLM.out.2⟩, h9.z1, h9.z2, (fun e => by cases e)⟩)
  have BY0 := hid (Below.refl w8.heap.size w8)
  clear hxe HZ HW1 HTB HFB HIX hjn hxl hs2 hg6 hg6l
  obtain ⟨t0, t1, t2, t3⟩ := HT8.out.c4
  obtain ⟨x0, x1, x2, x3⟩ := XB0.out.c4
  have K21 := hid (mready_any m A c A2 c2 A3 c3 w8 (HH.out.at_ HB8.out).toMIn)
  rw [HRD.out] at K21
  go_wp2_with fail
  refine K21.out.mono ?_
  rintro e w21 ⟨rfl, hb⟩
  have HB21 := hid (HB8.out.trans (hb.mono HB8.out.size))
  have HT21 := hid (HT8.out.keep hb)
  have BY21 := hid (BY0.out.trans (hb.mono BY0.out.size))
  have XB21 := hid (XB0.out.keep hb)
  clear hb K21 t0 t1 t2 t3 x0 x1 x2 x3
  obtain ⟨t0, t1, t2, t3⟩ := HT21.out.c4
  obtain ⟨x0, x1, x2, x3⟩ := XB21.out.c4
  have K22 := hid (awake_any w21)
  go_wp2_with fail
  refine K22.out.mono ?_
  rintro e w22 ⟨rfl, hb⟩
  have HB22 := hid (HB21.out.trans (hb.mono HB21.out.size))
  have HT22 := hid (HT21.out.keep hb)
  have BY22 := hid (BY21.out.trans (hb.mono BY21.out.size))
  have XB22 := hid (XB21.out.keep hb)
  clear hb K22 t0 t1 t2 t3 x0 x1 x2 x3
  obtain ⟨t0, t1, t2, t3⟩ := HT22.out.c4
  obtain ⟨x0, x1, x2, x3⟩ := XB22.out.c4
  clear t0 t1 t2 t3 x0 x1 x2 x3
  go_wp2
  go_ret
  exact ⟨rfl, HB22.out⟩

set_option maxRecDepth 100000 in
set_option maxHeartbeats 8000000 in
theorem joi_bad (m : MapD) (A : Option Addr) (c : Nat) (A2 : Option Addr) (c2 : Nat) (A3 : Option Addr) (c3 : Nat) (ja jb p q : Int) (w : World) (h : MArg m A c A2 c2 A3 c3 w) (hw16 : m.js.length * 16 ≤ 140737488351232) (hp0 : 0 ≤ p) (hp1 : p ≤ 65535) (hq0 : 0 ≤ q) (hq1 : q ≤ 65535) (hr : readyM m = true) (hx : readyM (joinM m ⟨ja, jb⟩) = false) :
    Calls Try.prog 9 #[.agg #[.slice A m.old.length c, .int .i64 m.nw, .slice A2 m.ss.length c2, .slice A3 m.js.length c3], .agg #[.int .i64 ja, .int .i64 jb], .int .u16 p, .int .u16 q] w fun e w' => e = .returned (.bool true) ∧ Below w.heap.size w w' := by
  have hB := (below_box (w := w) #[.slice A m.old.length c, .int .i64 m.nw, .slice A2 m.ss.length c2, .slice A3 m.js.length c3] 26).alloc (below_box (w := w) #[.slice A m.old.length c, .int .i64 m.nw, .slice A2 m.ss.length c2, .slice A3 m.js.length c3] 26).size (.cells #[.int .i64 ja, .int .i64 jb] 63)
  have hT := (Blk.new w 26 #[.slice A m.old.length c, .int .i64 m.nw, .slice A2 m.ss.length c2, .slice A3 m.js.length c3]).alloc (.cells #[.int .i64 ja, .int .i64 jb] 63)
  have hJ := Blk.new (w.alloc (.cells #[.slice A m.old.length c, .int .i64 m.nw, .slice A2 m.ss.length c2, .slice A3 m.js.length c3] 26)) 63 #[.int .i64 ja, .int .i64 jb]
  rw [World.size_alloc] at hJ
  have hX := Blk.new ((w.alloc (.cells #[.slice A m.old.length c, .int .i64 m.nw, .slice A2 m.ss.length c2, .slice A3 m.js.length c3] 26)).alloc (.cells #[.int .i64 ja, .int .i64 jb] 63)) 26 #[.slice A m.old.length c, .int .i64 m.nw, .slice A2 m.ss.length c2, .slice A3 m.js.length c3]
  rw [World.size_alloc, World.size_alloc] at hX
  have HS0 := hid (And.intro (hB.alloc hB.size (.cells #[.slice A m.old.length c, .int .i64 m.nw, .slice A2 m.ss.length c2, .slice A3 m.js.length c3] 26)) (And.intro (hT.alloc (.cells #[.slice A m.old.length c, .int .i64 m.nw, .slice A2 m.ss.length c2, .slice A3 m.js.length c3] 26)) (And.intro (hJ.alloc (.cells #[.slice A m.old.length c, .int .i64 m.nw, .slice A2 m.ss.length c2, .slice A3 m.js.length c3] 26)) hX)))
  have HH := hid h
  obtain ⟨t0, t1, t2, t3⟩ := hT.c4
  obtain ⟨j0, j1⟩ := hJ.c2
  clear h hB hT hJ hX
  have HRD := hid hr
  have HRX := hid hx
  clear hr hx
  obtain ⟨lo, hlo⟩ : ∃ lo, p % 2000 = lo := ⟨_, rfl⟩
  obtain ⟨hi, hhi⟩ : ∃ hi, min 40000 (lo + q) = hi := ⟨_, rfl⟩
  have hlo0 : 0 ≤ lo ∧ lo < 2000 := by rw [← hlo]; exact ⟨Int.emod_nonneg _ (by omega), Int.emod_lt_of_pos _ (by omega)⟩
  have HLI := hid (show 0 ≤ lo ∧ lo ≤ hi ∧ hi ≤ 40000 by omega)
  have htm : p.tmod 2000 = lo := by rw [Int.tmod_eq_emod_of_nonneg hp0]; exact hlo
  have hwp : IntKind.i64.wrap p = p := IntWalk.i64_in _ (by omega)
  have hwq : IntKind.i64.wrap q = q := IntWalk.i64_in _ (by omega)
  have hwl : IntKind.i64.wrap lo = lo := IntWalk.i64_in _ (by omega)
  have hws : IntKind.i64.wrap (lo + q) = lo + q := IntWalk.i64_in _ (by omega)
  have hite : (if lo + q < 40000 then lo + q else 40000) = hi := by rw [← hhi]; split <;> omega
  have hitv : (if lo + q < 40000 then Value.int .i64 (lo + q) else Value.int .i64 40000) = Value.int .i64 hi := by rw [← hhi]; split <;> congr 1 <;> omega
  have HSZ := hid hw16
  clear hlo hhi hw16 hlo0
  go_enter Try.func9, Try.ntmps9
  go_upto_region 2 with (fail)
  refine gen (p := Code.wp _ _ _ _) (fun W => Below w.heap.size w W ∧ Blk W w.heap.size 26 #[.slice A m.old.length c, .int .i64 m.nw, .slice A2 m.ss.length c2, .slice A3 m.js.length c3] ∧ Blk W (w.heap.size + 1) 63 #[.int .i64 ja, .int .i64 jb] ∧ Blk W (w.heap.size + 2) 26 #[.slice A m.old.length c, .int .i64 m.nw, .slice A2 m.ss.length c2, .slice A3 m.js.length c3]) HS0.out ?_
  rintro w1 hw1
  have HW1 := hid hw1
  clear hw1 HS0 t0 t1 t2 t3 j0 j1
  have HTB := hid (fun (W2 : World) (hW : Below w1.heap.size w1 W2) => (HW1.out.2.1.keep hW).c4)
  have HFB := hid (fun (W2 : World) (hW : Below w1.heap.size w1 W2) => (HW1.out.2.2.1.keep hW).c2)
  have HIX := hid (HH.out.at_ HW1.out.1).ij
  have hxl := HW1.out.2.2.2.lt
  refine (wpIn_wide (n := 0)).1 ?_
  refine wpIn_region_each 6 (fun i v W' => match i with | 0 => ∃ g0, v = .slice (some ⟨g0, 0, none⟩) 0 0 ∧ w1.heap.size ≤ g0 ∧ Blk W' g0 63 #[] | 1 => v = .pointer (some ⟨w.heap.size, 3, none⟩) | 2 => v = .slice A3 m.js.length c3 | 3 => ∃ v3, v = v3 ∧ W'.ownsRow w1.heap.size 63 2 v3 m.js.length (jnsC m.js) | 4 => v = .agg #[.int .i64 ja, .int .i64 jb] | 5 => ∃ gl, v = .slice (some ⟨gl, 0, none⟩) 1 1 ∧ Blk W' gl 63 #[.int .i64 ja, .int .i64 jb] | _ => True) (fun A B => Below A.heap.size A B) (fun _ _ => True) (by kernel_rfl) (by kernel_rfl) ?_ (fun h k => h.trans (k.mono h.size)) ⟨rfl, rfl, rfl, Nat.le_refl _, fun _ _ => rfl⟩ trivial (by kernel_rfl) ?_ ?_
  · intro i v W1 W2 hb h
    match i, h with
    | 0, h =>
      obtain ⟨g0, rfl, h1⟩ := h
      exact ⟨_, rfl, h1.1, h1.2.keep hb⟩
    | 1, h => exact h
    | 2, h => exact h
    | 3, h =>
      obtain ⟨v3, rfl, h1⟩ := h
      exact ⟨_, rfl, row_kept (vo := .slice none 0 0) h1 (grown_of_below hb _) (.inl rfl)⟩
    | 4, h => exact h
    | 5, h =>
      obtain ⟨gl, rfl, h1⟩ := h
      exact ⟨_, rfl, h1.keep hb⟩
    | i + 6, h => trivial
  · refine ⟨?_, ?_, ?_, ?_, ?_, ?_, trivial⟩
    · -- 0
      intro li a1 W2 hA K hK
      refine opStep none 0 rfl rfl (fun c hc => by cases hc) ?_
      go_simp
      exact hK _ _ ⟨_, rfl, by have := hA.st.size; omega, Blk.new _ _ _⟩ ((Below.refl _ _).alloc (Nat.le_refl _) _) trivial
    · -- 1
      intro li a1 W2 hA K hK
      have e4 := hA.par 4 (by kernel_rfl)
      refine opStep none 0 rfl rfl (fun c hc => by cases hc) ?_
      go_simp
      exact hK _ _ rfl (Below.refl _ _) trivial
    · -- 2
      intro li a1 W2 hA K hK
      have e26 : a1.tmps.getD 26 undef = .pointer (some ⟨w.heap.size, 3, none⟩) := hA.val 1 26 (by kernel_rfl) (by kernel_rfl)
      obtain ⟨_, _, _, q1⟩ := HTB.out W2 hA.st
      refine opStep none 0 rfl rfl (fun c hc => by cases hc) ?_
      go_simp
      exact hK _ _ rfl (Below.refl _ _) trivial
    · -- 3
      intro li a1 W2 hA K hK
      obtain ⟨g0, e25, h25⟩ := hA.val 0 25 (by kernel_rfl) (by kernel_rfl)
      have e27 : a1.tmps.getD 27 undef = .slice A3 m.js.length c3 := hA.val 2 27 (by kernel_rfl) (by kernel_rfl)
      obtain ⟨v', w', hrun, ho', hb'⟩ := copy_joins (c3 := c3) (HIX.out.at_ hA.st) h25.2 h25.1 HSZ.out
      refine opValue none 0 rfl rfl (fun c hc => by cases hc) (v := v') (W' := w') (by simp [execOp, resolve, invoke, builtin, Act.eval, e25, e27, hrun, Result.andThen]) ?_
      exact hK v' w' ⟨v', rfl, ho'⟩ hb' trivial
    · -- 4
      intro li a1 W2 hA K hK
      have e5 := hA.par 5 (by kernel_rfl)
      obtain ⟨q1, q2⟩ := HFB.out W2 hA.st
      refine opStep none 0 rfl rfl (fun c hc => by cases hc) ?_
      go_simp
      exact hK _ _ rfl (Below.refl _ _) trivial
    · -- 5
      intro li a1 W2 hA K hK
      have e29 : a1.tmps.getD 29 undef = .agg #[.int .i64 ja, .int .i64 jb] := hA.val 4 29 (by kernel_rfl) (by kernel_rfl)
      have e29' := e29
      rw [Array.getD_eq_getD_getElem?] at e29'
      refine opStep none 0 rfl rfl (fun c hc => by cases hc) ?_
      go_simp
      exact hK _ _ ⟨_, rfl, Blk.new _ _ _⟩ ((Below.refl _ _).alloc (Nat.le_refl _) _) trivial
  intro li a1 W2 hD
  obtain ⟨v3, e28, h28⟩ := hD.val 3 28 (by kernel_rfl) (by kernel_rfl)
  obtain ⟨gl, e30, hgl⟩ := hD.val 5 30 (by kernel_rfl) (by kernel_rfl)
  have ep := hD.par 9 (by kernel_rfl)
  have hst := hD.st
  have hs2 := hst.size
  obtain ⟨i0, hi0, hz0, hz1, hz2⟩ := info_parts qjn_info
  obtain ⟨v', w7, hrun, hr7, hg7, _, hf7⟩ := run_append_own_at (P := Try.prog) W2 _ 24 24 63 i0 (.agg #[.int .i64 0, .int .i64 0]) 2 16 Try.underlying24 hi0 hz0 hz1 hz2 rfl (by decide) v3 m.js.length _ h28 ⟨gl, 0, none⟩ 1 1 (jnC ⟨ja, jb⟩) rfl (two_blk hgl) (jnC_one _) (by simp only [maxLen]; have := HSZ.out; omega) (by have := HSZ.out; omega) (by omega)
  have hb7 := below_row' hst h28 (Nat.le_refl _) hg7 hs2
  rw [← jnsC_snoc] at hr7
  obtain ⟨js9, hjs⟩ : ∃ l, m.js ++ [(⟨ja, jb⟩ : Jn)] = l := ⟨_, rfl⟩
  have hjn : m.js.length + 1 = js9.length := by rw [← hjs]; simp
  rw [hjs] at hr7
  have HJS := hid hjs
  obtain ⟨g6, cap6, rfl, hj6, hl6, hm6, hg6, hg6l⟩ := row_jns hr7 hjn (by omega)
  have hx7 := HW1.out.2.2.2.keep hb7
  obtain ⟨y0, y1, y2, y3⟩ := hx7.c4
  have yf := hx7.frozen 3
  have yl := hx7.lt
  have hne1 : w.heap.size ≠ w.heap.size + 2 := by omega
  have HZ := hid (show Below w.heap.size w (w7.setCell ⟨w.heap.size + 2, 3, none⟩ (.slice (some ⟨g6, 0, none⟩) js9.length cap6)) ∧ Blk (w7.setCell ⟨w.heap.size + 2, 3, none⟩ (.slice (some ⟨g6, 0, none⟩) js9.length cap6)) w.heap.size 26 #[.slice A m.old.length c, .int .i64 m.nw, .slice A2 m.ss.length c2, .slice A3 m.js.length c3] ∧ Blk (w7.setCell ⟨w.heap.size + 2, 3, none⟩ (.slice (some ⟨g6, 0, none⟩) js9.length cap6)) (w.heap.size + 2) 26 #[.slice A m.old.length c, .int .i64 m.nw, .slice A2 m.ss.length c2, .slice (some ⟨g6, 0, none⟩) js9.length cap6] ∧ IsJns (w7.setCell ⟨w.heap.size + 2, 3, none⟩ (.slice (some ⟨g6, 0, none⟩) js9.length cap6)) (w7.setCell ⟨w.heap.size + 2, 3, none⟩ (.slice (some ⟨g6, 0, none⟩) js9.length cap6)).heap.size (some ⟨g6, 0, none⟩) js9 from
    ⟨(HW1.out.1.trans (hb7.mono HW1.out.1.size)).setCell (p := ⟨w.heap.size + 2, 3, none⟩) (by show w.heap.size ≤ w.heap.size + 2; omega) _, blk_off (HW1.out.2.1.keep hb7) hne1, hx7.set_ 3 _, by
      have ho8 := hr7.kept (gr_set w7 ⟨w.heap.size + 2, 3, none⟩ (.slice (some ⟨g6, 0, none⟩) js9.length cap6)) (own_ne hr7 (blk_not hx7 (by decide)))
      obtain ⟨g7, cap7, e7, hj7, _⟩ := row_jns ho8 hjn (by omega)
      injection e7 with e7
      injection e7 with e7
      injection e7 with e7
      subst e7
      exact hj7⟩)
  have HLM := hid (And.intro hl6 hm6)
  have hkp2 := hD.keeps (ds := [25, 26, 27, 28, 29, 30, 31, 32]) (by kernel_rfl)
  have hds := hD.size
  have hsz : a1.tmps.size = 127 := hD.size
  have hdd := hD.defers
  clear hst hr7 hg7 hf7 hgl hb7 hj6 hl6 hm6 hx7 hjs
  refine tail_val (i := 6) (v := .slice (some ⟨g6, 0, none⟩) js9.length cap6) (W' := w7) none 0 rfl rfl rfl (fun c hc => by cases hc) (by simp [execOp, resolve, invoke, builtin, Act.eval, e28, e30, hrun, Result.andThen]) (by rw [hsz]; decide) ?_
  intro a3 s3 d3 f3 o3
  have hkp3 := keeps_then hkp2 o3 (by decide)
  have ep' : a3.tmps.getD 9 undef = .pointer (some ⟨w.heap.size + 2, 0, none⟩) := (o3 9 (by decide)).trans ep
  refine tail_val (i := 7) (v := .pointer (some ⟨w.heap.size + 2, 3, none⟩)) (W' := w7) none 0 rfl rfl rfl (fun c hc => by cases hc) (by go_simp) (by rw [s3, hsz]; decide) ?_
  intro a4 s4 d4 f4 o4
  have hkp4 := keeps_then hkp3 o4 (by decide)
  have ea : a4.tmps.getD 31 undef = .slice (some ⟨g6, 0, none⟩) js9.length cap6 := (o4 31 (by decide)).trans f3
  refine tail_store (i := 8) (W' := w7.setCell ⟨w.heap.size + 2, 3, none⟩ (.slice (some ⟨g6, 0, none⟩) js9.length cap6)) none 0 rfl rfl rfl (fun c hc => by cases hc) (by go_simp) ?_
  have e := act_mix [25, 26, 27, 28, 29, 30, 31, 32] (s4.trans (s3.trans hds)) (d4.trans (d3.trans hdd)) (fun i _ hc => hkp4 i hc)
  generalize (fun i => a4.tmps.getD i undef) = g' at e
  refine wpListIn_nil ?_
  rw [e]
  clear e hD hkp2 hkp3 hkp4 s3 s4 d3 d4 f3 f4 o3 o4 e28 e30 ep ep' ea hds hdd hsz y0 y1 y2 y3 yf yl hi0 hz0 hz1 hz2 hrun
  simp only [mix, List.contains_cons, List.contains_nil, Nat.reduceAdd, Nat.reduceBEq, Bool.or_false, Bool.or_true, cond_true, cond_false]
  generalize w7.setCell ⟨w.heap.size + 2, 3, none⟩ (.slice (some ⟨g6, 0, none⟩) js9.length cap6) = w8 at *
  obtain ⟨x, hxe⟩ : ∃ x, joinM m ⟨ja, jb⟩ = x := ⟨_, rfl⟩
  have HXE := hid hxe
  have HB8 := hid HZ.out.1
  have HT8 := hid HZ.out.2.1
  have XB0 := hid (show Blk w8 (w.heap.size + 2) 26 #[.slice A x.old.length c, .int .i64 x.nw, .slice A2 x.ss.length c2, .slice (some ⟨g6, 0, none⟩) x.js.length cap6] by rw [← hxe, show (joinM m ⟨ja, jb⟩).js = js9 from HJS.out]; exact HZ.out.2.2.1)
  have HXA := hid (show MArg x A c A2 c2 (some ⟨g6, 0, none⟩) cap6 w8 by
    have h9 := HH.out.at_ HB8.out
    rw [← hxe]
    have ej : (joinM m ⟨ja, jb⟩).js = js9 := HJS.out
    exact ⟨⟨h9.io, h9.is, ej ▸ HZ.out.2.2.2, h9.l1, h9.m1, h9.l2, h9.m2, ej ▸ HLM.out.1, HLM.out.2⟩, h9.z1, h9.z2, (fun e => by cases e)⟩)
  have BY0 := hid (Below.refl w8.heap.size w8)
  clear hxe HZ HW1 HTB HFB HIX hjn hxl hs2 hg6 hg6l
  obtain ⟨t0, t1, t2, t3⟩ := HT8.out.c4
  obtain ⟨x0, x1, x2, x3⟩ := XB0.out.c4
  have HRX2 := hid (show readyM x = false by rw [← HXE.out]; exact HRX.out)
  have K21 := hid (mready_any m A c A2 c2 A3 c3 w8 (HH.out.at_ HB8.out).toMIn)
  rw [HRD.out] at K21
  go_wp2_with fail
  refine K21.out.mono ?_
  rintro e w21 ⟨rfl, hb⟩
  have HB21 := hid (HB8.out.trans (hb.mono HB8.out.size))
  have HT21 := hid (HT8.out.keep hb)
  have BY21 := hid (BY0.out.trans (hb.mono BY0.out.size))
  have XB21 := hid (XB0.out.keep hb)
  clear hb K21 t0 t1 t2 t3 x0 x1 x2 x3
  obtain ⟨t0, t1, t2, t3⟩ := HT21.out.c4
  obtain ⟨x0, x1, x2, x3⟩ := XB21.out.c4
  have K22 := hid (mready_any x A c A2 c2 (some ⟨g6, 0, none⟩) cap6 w21 (HXA.out.at_ BY21.out).toMIn)
  rw [HRX2.out] at K22
  go_wp2_with fail
  refine K22.out.mono ?_
  rintro e w22 ⟨rfl, hb⟩
  have HB22 := hid (HB21.out.trans (hb.mono HB21.out.size))
  have HT22 := hid (HT21.out.keep hb)
  have BY22 := hid (BY21.out.trans (hb.mono BY21.out.size))
  have XB22 := hid (XB21.out.keep hb)
  clear hb K22 t0 t1 t2 t3 x0 x1 x2 x3
  obtain ⟨t0, t1, t2, t3⟩ := HT22.out.c4
  obtain ⟨x0, x1, x2, x3⟩ := XB22.out.c4
  have K23 := hid (awake_any w22)
  go_wp2_with fail
  refine K23.out.mono ?_
  rintro e w23 ⟨rfl, hb⟩
  have HB23 := hid (HB22.out.trans (hb.mono HB22.out.size))
  have HT23 := hid (HT22.out.keep hb)
  have BY23 := hid (BY22.out.trans (hb.mono BY22.out.size))
  have XB23 := hid (XB22.out.keep hb)
  clear hb K23 t0 t1 t2 t3 x0 x1 x2 x3
  obtain ⟨t0, t1, t2, t3⟩ := HT23.out.c4
  obtain ⟨x0, x1, x2, x3⟩ := XB23.out.c4
  clear t0 t1 t2 t3 x0 x1 x2 x3
  go_wp2
  go_ret
  exact ⟨rfl, HB23.out⟩

set_option maxRecDepth 100000 in
set_option maxHeartbeats 8000000 in
theorem joi_none (m : MapD) (A : Option Addr) (c : Nat) (A2 : Option Addr) (c2 : Nat) (A3 : Option Addr) (c3 : Nat) (ja jb p q : Int) (w : World) (h : MArg m A c A2 c2 A3 c3 w) (hw16 : m.js.length * 16 ≤ 140737488351232) (hp0 : 0 ≤ p) (hp1 : p ≤ 65535) (hq0 : 0 ≤ q) (hq1 : q ≤ 65535) (hr : readyM m = true) (hx : readyM (joinM m ⟨ja, jb⟩) = true) (hbb : bestB m (p % 2000) (min 40000 (p % 2000 + q)) = none) :
    Calls Try.prog 9 #[.agg #[.slice A m.old.length c, .int .i64 m.nw, .slice A2 m.ss.length c2, .slice A3 m.js.length c3], .agg #[.int .i64 ja, .int .i64 jb], .int .u16 p, .int .u16 q] w fun e w' => e = .returned (.bool true) ∧ Below w.heap.size w w' := by
  have hB := (below_box (w := w) #[.slice A m.old.length c, .int .i64 m.nw, .slice A2 m.ss.length c2, .slice A3 m.js.length c3] 26).alloc (below_box (w := w) #[.slice A m.old.length c, .int .i64 m.nw, .slice A2 m.ss.length c2, .slice A3 m.js.length c3] 26).size (.cells #[.int .i64 ja, .int .i64 jb] 63)
  have hT := (Blk.new w 26 #[.slice A m.old.length c, .int .i64 m.nw, .slice A2 m.ss.length c2, .slice A3 m.js.length c3]).alloc (.cells #[.int .i64 ja, .int .i64 jb] 63)
  have hJ := Blk.new (w.alloc (.cells #[.slice A m.old.length c, .int .i64 m.nw, .slice A2 m.ss.length c2, .slice A3 m.js.length c3] 26)) 63 #[.int .i64 ja, .int .i64 jb]
  rw [World.size_alloc] at hJ
  have hX := Blk.new ((w.alloc (.cells #[.slice A m.old.length c, .int .i64 m.nw, .slice A2 m.ss.length c2, .slice A3 m.js.length c3] 26)).alloc (.cells #[.int .i64 ja, .int .i64 jb] 63)) 26 #[.slice A m.old.length c, .int .i64 m.nw, .slice A2 m.ss.length c2, .slice A3 m.js.length c3]
  rw [World.size_alloc, World.size_alloc] at hX
  have HS0 := hid (And.intro (hB.alloc hB.size (.cells #[.slice A m.old.length c, .int .i64 m.nw, .slice A2 m.ss.length c2, .slice A3 m.js.length c3] 26)) (And.intro (hT.alloc (.cells #[.slice A m.old.length c, .int .i64 m.nw, .slice A2 m.ss.length c2, .slice A3 m.js.length c3] 26)) (And.intro (hJ.alloc (.cells #[.slice A m.old.length c, .int .i64 m.nw, .slice A2 m.ss.length c2, .slice A3 m.js.length c3] 26)) hX)))
  have HH := hid h
  obtain ⟨t0, t1, t2, t3⟩ := hT.c4
  obtain ⟨j0, j1⟩ := hJ.c2
  clear h hB hT hJ hX
  have HRD := hid hr
  have HRX := hid hx
  have HTH := hid (ready_iff.1 hr).1
  have HMO := hid (cst_ok (ready_iff.1 hr).2).1
  have HN4 := hid (show m.nw.toNat ≤ 4 by have := (chk_okm (cst_ok (ready_iff.1 hr).2).1).n4; omega)
  have HB9 := hid hbb
  clear hr hx hbb
  obtain ⟨lo, hlo⟩ : ∃ lo, p % 2000 = lo := ⟨_, rfl⟩
  obtain ⟨hi, hhi⟩ : ∃ hi, min 40000 (lo + q) = hi := ⟨_, rfl⟩
  have hlo0 : 0 ≤ lo ∧ lo < 2000 := by rw [← hlo]; exact ⟨Int.emod_nonneg _ (by omega), Int.emod_lt_of_pos _ (by omega)⟩
  have HLI := hid (show 0 ≤ lo ∧ lo ≤ hi ∧ hi ≤ 40000 by omega)
  have htm : p.tmod 2000 = lo := by rw [Int.tmod_eq_emod_of_nonneg hp0]; exact hlo
  have hwp : IntKind.i64.wrap p = p := IntWalk.i64_in _ (by omega)
  have hwq : IntKind.i64.wrap q = q := IntWalk.i64_in _ (by omega)
  have hwl : IntKind.i64.wrap lo = lo := IntWalk.i64_in _ (by omega)
  have hws : IntKind.i64.wrap (lo + q) = lo + q := IntWalk.i64_in _ (by omega)
  have hite : (if lo + q < 40000 then lo + q else 40000) = hi := by rw [← hhi]; split <;> omega
  have hitv : (if lo + q < 40000 then Value.int .i64 (lo + q) else Value.int .i64 40000) = Value.int .i64 hi := by rw [← hhi]; split <;> congr 1 <;> omega
  have HSZ := hid hw16
  have hb9 := HB9.out
  rw [hlo, hhi] at hb9
  have HBB := hid hb9
  clear hb9 HB9
  clear hlo hhi hw16 hlo0
  go_enter Try.func9, Try.ntmps9
  go_upto_region 2 with (fail)
  refine gen (p := Code.wp _ _ _ _) (fun W => Below w.heap.size w W ∧ Blk W w.heap.size 26 #[.slice A m.old.length c, .int .i64 m.nw, .slice A2 m.ss.length c2, .slice A3 m.js.length c3] ∧ Blk W (w.heap.size + 1) 63 #[.int .i64 ja, .int .i64 jb] ∧ Blk W (w.heap.size + 2) 26 #[.slice A m.old.length c, .int .i64 m.nw, .slice A2 m.ss.length c2, .slice A3 m.js.length c3]) HS0.out ?_
  rintro w1 hw1
  have HW1 := hid hw1
  clear hw1 HS0 t0 t1 t2 t3 j0 j1
  have HTB := hid (fun (W2 : World) (hW : Below w1.heap.size w1 W2) => (HW1.out.2.1.keep hW).c4)
  have HFB := hid (fun (W2 : World) (hW : Below w1.heap.size w1 W2) => (HW1.out.2.2.1.keep hW).c2)
  have HIX := hid (HH.out.at_ HW1.out.1).ij
  have hxl := HW1.out.2.2.2.lt
  refine (wpIn_wide (n := 0)).1 ?_
  refine wpIn_region_each 6 (fun i v W' => match i with | 0 => ∃ g0, v = .slice (some ⟨g0, 0, none⟩) 0 0 ∧ w1.heap.size ≤ g0 ∧ Blk W' g0 63 #[] | 1 => v = .pointer (some ⟨w.heap.size, 3, none⟩) | 2 => v = .slice A3 m.js.length c3 | 3 => ∃ v3, v = v3 ∧ W'.ownsRow w1.heap.size 63 2 v3 m.js.length (jnsC m.js) | 4 => v = .agg #[.int .i64 ja, .int .i64 jb] | 5 => ∃ gl, v = .slice (some ⟨gl, 0, none⟩) 1 1 ∧ Blk W' gl 63 #[.int .i64 ja, .int .i64 jb] | _ => True) (fun A B => Below A.heap.size A B) (fun _ _ => True) (by kernel_rfl) (by kernel_rfl) ?_ (fun h k => h.trans (k.mono h.size)) ⟨rfl, rfl, rfl, Nat.le_refl _, fun _ _ => rfl⟩ trivial (by kernel_rfl) ?_ ?_
  · intro i v W1 W2 hb h
    match i, h with
    | 0, h =>
      obtain ⟨g0, rfl, h1⟩ := h
      exact ⟨_, rfl, h1.1, h1.2.keep hb⟩
    | 1, h => exact h
    | 2, h => exact h
    | 3, h =>
      obtain ⟨v3, rfl, h1⟩ := h
      exact ⟨_, rfl, row_kept (vo := .slice none 0 0) h1 (grown_of_below hb _) (.inl rfl)⟩
    | 4, h => exact h
    | 5, h =>
      obtain ⟨gl, rfl, h1⟩ := h
      exact ⟨_, rfl, h1.keep hb⟩
    | i + 6, h => trivial
  · refine ⟨?_, ?_, ?_, ?_, ?_, ?_, trivial⟩
    · -- 0
      intro li a1 W2 hA K hK
      refine opStep none 0 rfl rfl (fun c hc => by cases hc) ?_
      go_simp
      exact hK _ _ ⟨_, rfl, by have := hA.st.size; omega, Blk.new _ _ _⟩ ((Below.refl _ _).alloc (Nat.le_refl _) _) trivial
    · -- 1
      intro li a1 W2 hA K hK
      have e4 := hA.par 4 (by kernel_rfl)
      refine opStep none 0 rfl rfl (fun c hc => by cases hc) ?_
      go_simp
      exact hK _ _ rfl (Below.refl _ _) trivial
    · -- 2
      intro li a1 W2 hA K hK
      have e26 : a1.tmps.getD 26 undef = .pointer (some ⟨w.heap.size, 3, none⟩) := hA.val 1 26 (by kernel_rfl) (by kernel_rfl)
      obtain ⟨_, _, _, q1⟩ := HTB.out W2 hA.st
      refine opStep none 0 rfl rfl (fun c hc => by cases hc) ?_
      go_simp
      exact hK _ _ rfl (Below.refl _ _) trivial
    · -- 3
      intro li a1 W2 hA K hK
      obtain ⟨g0, e25, h25⟩ := hA.val 0 25 (by kernel_rfl) (by kernel_rfl)
      have e27 : a1.tmps.getD 27 undef = .slice A3 m.js.length c3 := hA.val 2 27 (by kernel_rfl) (by kernel_rfl)
      obtain ⟨v', w', hrun, ho', hb'⟩ := copy_joins (c3 := c3) (HIX.out.at_ hA.st) h25.2 h25.1 HSZ.out
      refine opValue none 0 rfl rfl (fun c hc => by cases hc) (v := v') (W' := w') (by simp [execOp, resolve, invoke, builtin, Act.eval, e25, e27, hrun, Result.andThen]) ?_
      exact hK v' w' ⟨v', rfl, ho'⟩ hb' trivial
    · -- 4
      intro li a1 W2 hA K hK
      have e5 := hA.par 5 (by kernel_rfl)
      obtain ⟨q1, q2⟩ := HFB.out W2 hA.st
      refine opStep none 0 rfl rfl (fun c hc => by cases hc) ?_
      go_simp
      exact hK _ _ rfl (Below.refl _ _) trivial
    · -- 5
      intro li a1 W2 hA K hK
      have e29 : a1.tmps.getD 29 undef = .agg #[.int .i64 ja, .int .i64 jb] := hA.val 4 29 (by kernel_rfl) (by kernel_rfl)
      have e29' := e29
      rw [Array.getD_eq_getD_getElem?] at e29'
      refine opStep none 0 rfl rfl (fun c hc => by cases hc) ?_
      go_simp
      exact hK _ _ ⟨_, rfl, Blk.new _ _ _⟩ ((Below.refl _ _).alloc (Nat.le_refl _) _) trivial
  intro li a1 W2 hD
  obtain ⟨v3, e28, h28⟩ := hD.val 3 28 (by kernel_rfl) (by kernel_rfl)
  obtain ⟨gl, e30, hgl⟩ := hD.val 5 30 (by kernel_rfl) (by kernel_rfl)
  have ep := hD.par 9 (by kernel_rfl)
  have hst := hD.st
  have hs2 := hst.size
  obtain ⟨i0, hi0, hz0, hz1, hz2⟩ := info_parts qjn_info
  obtain ⟨v', w7, hrun, hr7, hg7, _, hf7⟩ := run_append_own_at (P := Try.prog) W2 _ 24 24 63 i0 (.agg #[.int .i64 0, .int .i64 0]) 2 16 Try.underlying24 hi0 hz0 hz1 hz2 rfl (by decide) v3 m.js.length _ h28 ⟨gl, 0, none⟩ 1 1 (jnC ⟨ja, jb⟩) rfl (two_blk hgl) (jnC_one _) (by simp only [maxLen]; have := HSZ.out; omega) (by have := HSZ.out; omega) (by omega)
  have hb7 := below_row' hst h28 (Nat.le_refl _) hg7 hs2
  rw [← jnsC_snoc] at hr7
  obtain ⟨js9, hjs⟩ : ∃ l, m.js ++ [(⟨ja, jb⟩ : Jn)] = l := ⟨_, rfl⟩
  have hjn : m.js.length + 1 = js9.length := by rw [← hjs]; simp
  rw [hjs] at hr7
  have HJS := hid hjs
  obtain ⟨g6, cap6, rfl, hj6, hl6, hm6, hg6, hg6l⟩ := row_jns hr7 hjn (by omega)
  have hx7 := HW1.out.2.2.2.keep hb7
  obtain ⟨y0, y1, y2, y3⟩ := hx7.c4
  have yf := hx7.frozen 3
  have yl := hx7.lt
  have hne1 : w.heap.size ≠ w.heap.size + 2 := by omega
  have HZ := hid (show Below w.heap.size w (w7.setCell ⟨w.heap.size + 2, 3, none⟩ (.slice (some ⟨g6, 0, none⟩) js9.length cap6)) ∧ Blk (w7.setCell ⟨w.heap.size + 2, 3, none⟩ (.slice (some ⟨g6, 0, none⟩) js9.length cap6)) w.heap.size 26 #[.slice A m.old.length c, .int .i64 m.nw, .slice A2 m.ss.length c2, .slice A3 m.js.length c3] ∧ Blk (w7.setCell ⟨w.heap.size + 2, 3, none⟩ (.slice (some ⟨g6, 0, none⟩) js9.length cap6)) (w.heap.size + 2) 26 #[.slice A m.old.length c, .int .i64 m.nw, .slice A2 m.ss.length c2, .slice (some ⟨g6, 0, none⟩) js9.length cap6] ∧ IsJns (w7.setCell ⟨w.heap.size + 2, 3, none⟩ (.slice (some ⟨g6, 0, none⟩) js9.length cap6)) (w7.setCell ⟨w.heap.size + 2, 3, none⟩ (.slice (some ⟨g6, 0, none⟩) js9.length cap6)).heap.size (some ⟨g6, 0, none⟩) js9 from
    ⟨(HW1.out.1.trans (hb7.mono HW1.out.1.size)).setCell (p := ⟨w.heap.size + 2, 3, none⟩) (by show w.heap.size ≤ w.heap.size + 2; omega) _, blk_off (HW1.out.2.1.keep hb7) hne1, hx7.set_ 3 _, by
      have ho8 := hr7.kept (gr_set w7 ⟨w.heap.size + 2, 3, none⟩ (.slice (some ⟨g6, 0, none⟩) js9.length cap6)) (own_ne hr7 (blk_not hx7 (by decide)))
      obtain ⟨g7, cap7, e7, hj7, _⟩ := row_jns ho8 hjn (by omega)
      injection e7 with e7
      injection e7 with e7
      injection e7 with e7
      subst e7
      exact hj7⟩)
  have HLM := hid (And.intro hl6 hm6)
  have hkp2 := hD.keeps (ds := [25, 26, 27, 28, 29, 30, 31, 32]) (by kernel_rfl)
  have hds := hD.size
  have hsz : a1.tmps.size = 127 := hD.size
  have hdd := hD.defers
  clear hst hr7 hg7 hf7 hgl hb7 hj6 hl6 hm6 hx7 hjs
  refine tail_val (i := 6) (v := .slice (some ⟨g6, 0, none⟩) js9.length cap6) (W' := w7) none 0 rfl rfl rfl (fun c hc => by cases hc) (by simp [execOp, resolve, invoke, builtin, Act.eval, e28, e30, hrun, Result.andThen]) (by rw [hsz]; decide) ?_
  intro a3 s3 d3 f3 o3
  have hkp3 := keeps_then hkp2 o3 (by decide)
  have ep' : a3.tmps.getD 9 undef = .pointer (some ⟨w.heap.size + 2, 0, none⟩) := (o3 9 (by decide)).trans ep
  refine tail_val (i := 7) (v := .pointer (some ⟨w.heap.size + 2, 3, none⟩)) (W' := w7) none 0 rfl rfl rfl (fun c hc => by cases hc) (by go_simp) (by rw [s3, hsz]; decide) ?_
  intro a4 s4 d4 f4 o4
  have hkp4 := keeps_then hkp3 o4 (by decide)
  have ea : a4.tmps.getD 31 undef = .slice (some ⟨g6, 0, none⟩) js9.length cap6 := (o4 31 (by decide)).trans f3
  refine tail_store (i := 8) (W' := w7.setCell ⟨w.heap.size + 2, 3, none⟩ (.slice (some ⟨g6, 0, none⟩) js9.length cap6)) none 0 rfl rfl rfl (fun c hc => by cases hc) (by go_simp) ?_
  have e := act_mix [25, 26, 27, 28, 29, 30, 31, 32] (s4.trans (s3.trans hds)) (d4.trans (d3.trans hdd)) (fun i _ hc => hkp4 i hc)
  generalize (fun i => a4.tmps.getD i undef) = g' at e
  refine wpListIn_nil ?_
  rw [e]
  clear e hD hkp2 hkp3 hkp4 s3 s4 d3 d4 f3 f4 o3 o4 e28 e30 ep ep' ea hds hdd hsz y0 y1 y2 y3 yf yl hi0 hz0 hz1 hz2 hrun
  simp only [mix, List.contains_cons, List.contains_nil, Nat.reduceAdd, Nat.reduceBEq, Bool.or_false, Bool.or_true, cond_true, cond_false]
  generalize w7.setCell ⟨w.heap.size + 2, 3, none⟩ (.slice (some ⟨g6, 0, none⟩) js9.length cap6) = w8 at *
  obtain ⟨x, hxe⟩ : ∃ x, joinM m ⟨ja, jb⟩ = x := ⟨_, rfl⟩
  have HXE := hid hxe
  have HB8 := hid HZ.out.1
  have HT8 := hid HZ.out.2.1
  have XB0 := hid (show Blk w8 (w.heap.size + 2) 26 #[.slice A x.old.length c, .int .i64 x.nw, .slice A2 x.ss.length c2, .slice (some ⟨g6, 0, none⟩) x.js.length cap6] by rw [← hxe, show (joinM m ⟨ja, jb⟩).js = js9 from HJS.out]; exact HZ.out.2.2.1)
  have HXA := hid (show MArg x A c A2 c2 (some ⟨g6, 0, none⟩) cap6 w8 by
    have h9 := HH.out.at_ HB8.out
    rw [← hxe]
    have ej : (joinM m ⟨ja, jb⟩).js = js9 := HJS.out
    exact ⟨⟨h9.io, h9.is, ej ▸ HZ.out.2.2.2, h9.l1, h9.m1, h9.l2, h9.m2, ej ▸ HLM.out.1, HLM.out.2⟩, h9.z1, h9.z2, (fun e => by cases e)⟩)
  have BY0 := hid (Below.refl w8.heap.size w8)
  clear hxe HZ HW1 HTB HFB HIX hjn hxl hs2 hg6 hg6l
  obtain ⟨t0, t1, t2, t3⟩ := HT8.out.c4
  obtain ⟨x0, x1, x2, x3⟩ := XB0.out.c4
  have HRX2 := hid (show readyM x = true by rw [← HXE.out]; exact HRX.out)
  have HXT := hid (ready_iff.1 HRX2.out).1
  have HEX := hid (ask_mk (ready_iff.1 HRX2.out).2 HLI.out.1 HLI.out.2.1 HLI.out.2.2 : askE x lo hi = 0)
  have HE0 := hid (ask_mk (ready_iff.1 HRD.out).2 HLI.out.1 HLI.out.2.1 HLI.out.2.2 : askE m lo hi = 0)
  have HXO := hid (cst_ok (ready_iff.1 HRX2.out).2).1
  have K21 := hid (mready_any m A c A2 c2 A3 c3 w8 (HH.out.at_ HB8.out).toMIn)
  rw [HRD.out] at K21
  go_wp2_with fail
  refine K21.out.mono ?_
  rintro e w21 ⟨rfl, hb⟩
  have HB21 := hid (HB8.out.trans (hb.mono HB8.out.size))
  have HT21 := hid (HT8.out.keep hb)
  have BY21 := hid (BY0.out.trans (hb.mono BY0.out.size))
  have XB21 := hid (XB0.out.keep hb)
  clear hb K21 t0 t1 t2 t3 x0 x1 x2 x3
  obtain ⟨t0, t1, t2, t3⟩ := HT21.out.c4
  obtain ⟨x0, x1, x2, x3⟩ := XB21.out.c4
  have K22 := hid (mready_any x A c A2 c2 (some ⟨g6, 0, none⟩) cap6 w21 (HXA.out.at_ BY21.out).toMIn)
  rw [HRX2.out] at K22
  go_wp2_with fail
  refine K22.out.mono ?_
  rintro e w22 ⟨rfl, hb⟩
  have HB22 := hid (HB21.out.trans (hb.mono HB21.out.size))
  have HT22 := hid (HT21.out.keep hb)
  have BY22 := hid (BY21.out.trans (hb.mono BY21.out.size))
  have XB22 := hid (XB21.out.keep hb)
  clear hb K22 t0 t1 t2 t3 x0 x1 x2 x3
  obtain ⟨t0, t1, t2, t3⟩ := HT22.out.c4
  obtain ⟨x0, x1, x2, x3⟩ := XB22.out.c4
  have K23 := hid (between_any lo hi w22)
  go_wp2_with fail
  refine K23.out.mono ?_
  rintro e w23 ⟨rfl, hb⟩
  have HB23 := hid (HB22.out.trans (hb.mono HB22.out.size))
  have HT23 := hid (HT22.out.keep hb)
  have BY23 := hid (BY22.out.trans (hb.mono BY22.out.size))
  have XB23 := hid (XB22.out.keep hb)
  clear hb K23 t0 t1 t2 t3 x0 x1 x2 x3
  obtain ⟨t0, t1, t2, t3⟩ := HT23.out.c4
  obtain ⟨x0, x1, x2, x3⟩ := XB23.out.c4
  go_upto_region 6 with (fail)
  refine gen (p := Code.wp _ _ _ _) (fun W => Below w23.heap.size w23 W ∧ Blk W w23.heap.size 49 #[.int .i64 lo, .int .i64 hi]) ⟨below_box _ _, Blk.new _ _ _⟩ ?_
  rintro w24 ⟨hb, hl9⟩
  have HB24 := hid (HB23.out.trans (hb.mono HB23.out.size))
  have HT24 := hid (HT23.out.keep hb)
  have BY24 := hid (BY23.out.trans (hb.mono BY23.out.size))
  have XB24 := hid (XB23.out.keep hb)
  clear x0 x1 x2 x3
  have LB0 := hid hl9
  clear hb hl9 t0 t1 t2 t3
  generalize w23.heap.size = LN at *
  obtain ⟨t0, t1, t2, t3⟩ := HT24.out.c4
  obtain ⟨x0, x1, x2, x3⟩ := XB24.out.c4
  obtain ⟨l0, l1⟩ := LB0.out.c2
  have K25 := hid (map_thin (HH.out.at_ HB24.out) HTH.out)
  go_wp2_with fail
  refine K25.out.mono ?_
  rintro e w25 ⟨P25, Q25, R25, rfl, hm, hb⟩
  have HB25 := hid (HB24.out.trans (hb.mono HB24.out.size))
  have HT25 := hid (HT24.out.keep hb)
  have BY25 := hid (BY24.out.trans (hb.mono BY24.out.size))
  have XB25 := hid (XB24.out.keep hb)
  have LB25 := hid (LB0.out.keep hb)
  have M25 := hid hm
  clear hm
  clear hb K25 t0 t1 t2 t3 x0 x1 x2 x3 l0 l1
  obtain ⟨t0, t1, t2, t3⟩ := HT25.out.c4
  obtain ⟨x0, x1, x2, x3⟩ := XB25.out.c4
  obtain ⟨l0, l1⟩ := LB25.out.c2
  have K26 := hid (apart_good M25.out HMO.out)
  unfold GivesI0 at K26
  go_wp2_with fail
  refine K26.out.mono ?_
  rintro e w26 ⟨⟨A11, c11⟩, rfl, hy, hb⟩
  have HB26 := hid (HB25.out.trans (hb.mono HB25.out.size))
  have HT26 := hid (HT25.out.keep hb)
  have BY26 := hid (BY25.out.trans (hb.mono BY25.out.size))
  have XB26 := hid (XB25.out.keep hb)
  have LB26 := hid (LB25.out.keep hb)
  have HYA := hid hy
  clear hy
  clear hb K26 t0 t1 t2 t3 x0 x1 x2 x3 l0 l1
  obtain ⟨t0, t1, t2, t3⟩ := HT26.out.c4
  obtain ⟨x0, x1, x2, x3⟩ := XB26.out.c4
  obtain ⟨l0, l1⟩ := LB26.out.c2
  have YA_0 := hid (HYA.out)
  have K27 := hid (map_thin (HXA.out.at_ BY26.out) HXT.out)
  go_wp2_with fail
  refine K27.out.mono ?_
  rintro e w27 ⟨P27, Q27, R27, rfl, hm, hb⟩
  have HB27 := hid (HB26.out.trans (hb.mono HB26.out.size))
  have HT27 := hid (HT26.out.keep hb)
  have BY27 := hid (BY26.out.trans (hb.mono BY26.out.size))
  have XB27 := hid (XB26.out.keep hb)
  have LB27 := hid (LB26.out.keep hb)
  have YA_27 := hid (YA_0.out.at_ hb)
  have M27 := hid hm
  clear hm
  clear hb K27 t0 t1 t2 t3 x0 x1 x2 x3 l0 l1
  obtain ⟨t0, t1, t2, t3⟩ := HT27.out.c4
  obtain ⟨x0, x1, x2, x3⟩ := XB27.out.c4
  obtain ⟨l0, l1⟩ := LB27.out.c2
  have K28 := hid (apart_good M27.out HXO.out)
  unfold GivesI0 at K28
  go_wp2_with fail
  refine K28.out.mono ?_
  rintro e w28 ⟨⟨A13, c13⟩, rfl, hy, hb⟩
  have HB28 := hid (HB27.out.trans (hb.mono HB27.out.size))
  have HT28 := hid (HT27.out.keep hb)
  have BY28 := hid (BY27.out.trans (hb.mono BY27.out.size))
  have XB28 := hid (XB27.out.keep hb)
  have LB28 := hid (LB27.out.keep hb)
  have YA_28 := hid (YA_27.out.at_ hb)
  have HYB := hid hy
  clear hy
  clear hb K28 t0 t1 t2 t3 x0 x1 x2 x3 l0 l1
  obtain ⟨t0, t1, t2, t3⟩ := HT28.out.c4
  obtain ⟨x0, x1, x2, x3⟩ := XB28.out.c4
  obtain ⟨l0, l1⟩ := LB28.out.c2
  have YB_0 := hid (HYB.out)
  clear t0 t1 t2 t3 x0 x1 x2 x3 l0 l1
  go_wp2
  refine (wpIn_wide (n := 0)).1 ?_
  refine wpIn_region_each 10 (fun i v W' => match i with | 0 => v = .agg #[.slice A m.old.length c, .int .i64 m.nw, .slice A2 m.ss.length c2, .slice A3 m.js.length c3] | 1 => ∃ (y : (Option Addr × Nat) × (Option Addr × Nat) × (Option Addr × Nat)), v = .agg #[.slice y.1.1 m.old.length y.1.2, .int .i64 m.nw, .slice y.2.1.1 m.ss.length y.2.1.2, .slice y.2.2.1 m.js.length y.2.2.2] ∧ MIn m y.1.1 y.1.2 y.2.1.1 y.2.1.2 y.2.2.1 y.2.2.2 W' | 2 => v = .agg #[.int .i64 lo, .int .i64 hi] | 3 => v = .tuple #[.slice none 0 0, .int .i64 0, .int .i64 7] | 4 => v = .tuple #[.slice none 0 0, .int .i64 0, .int .i64 7] | 5 => v = .slice none 0 0 | 6 => v = .int .i64 0 | 7 => v = .int .i64 7 | 8 => v = .slice none 0 0 | 9 => v = .int .i64 0 | _ => True) (fun A B => Below A.heap.size A B) (fun _ _ => True) (by kernel_rfl) (by kernel_rfl) ?_ (fun h k => h.trans (k.mono h.size)) ⟨rfl, rfl, rfl, Nat.le_refl _, fun _ _ => rfl⟩ trivial (by kernel_rfl) ?_ ?_
  · intro i v W1 W2 hb h
    match i, h with
    | 0, h => exact h
    | 1, h =>
      obtain ⟨y, rfl, h1⟩ := h
      exact ⟨_, rfl, h1.at_ hb⟩
    | 2, h => exact h
    | 3, h => exact h
    | 4, h => exact h
    | 5, h => exact h
    | 6, h => exact h
    | 7, h => exact h
    | 8, h => exact h
    | 9, h => exact h
    | i + 10, h => trivial
  · refine ⟨?_, ?_, ?_, ?_, ?_, ?_, ?_, ?_, ?_, ?_, trivial⟩
    · -- 0
      intro li a1 W2 hA K hK
      have e4 := hA.par 4 (by kernel_rfl)
      obtain ⟨q1, q2, q3, q4⟩ := (HT28.out.keep hA.st).c4
      refine opStep none 0 rfl rfl (fun c hc => by cases hc) ?_
      go_simp
      exact hK _ _ rfl (Below.refl _ _) trivial
    · -- 1
      intro li a1 W2 hA K hK
      have e66 : a1.tmps.getD 66 undef = .agg #[.slice A m.old.length c, .int .i64 m.nw, .slice A2 m.ss.length c2, .slice A3 m.js.length c3] := hA.val 0 66 (by kernel_rfl) (by kernel_rfl)
      refine opStep none 0 rfl rfl (fun c hc => by cases hc) ?_
      go_simp
      refine (map_thin (HH.out.at_ (HB28.out.trans (hA.st.mono HB28.out.size))) HTH.out).mono ?_
      rintro e W3 ⟨P, Q, R, rfl, hy, hb3⟩
      exact hK _ _ ⟨(P, Q, R), rfl, hy⟩ hb3 trivial
    · -- 2
      intro li a1 W2 hA K hK
      have e10 := hA.par 10 (by kernel_rfl)
      obtain ⟨q1, q2⟩ := (LB28.out.keep hA.st).c2
      refine opStep none 0 rfl rfl (fun c hc => by cases hc) ?_
      go_simp
      exact hK _ _ rfl (Below.refl _ _) trivial
    · -- 3
      intro li a1 W2 hA K hK
      obtain ⟨y67, e67, h67⟩ := hA.val 1 67 (by kernel_rfl) (by kernel_rfl)
      have e68 : a1.tmps.getD 68 undef = .agg #[.int .i64 lo, .int .i64 hi] := hA.val 2 68 (by kernel_rfl) (by kernel_rfl)
      refine opStep none 0 rfl rfl (fun c hc => by cases hc) ?_
      go_simp
      refine (best_no h67 HE0.out HBB.out).mono ?_
      rintro e W3 ⟨rfl, hb3⟩
      exact hK _ _ rfl hb3 trivial
    · -- 4
      intro li a1 W2 hA K hK
      have e69 : a1.tmps.getD 69 undef = .tuple #[.slice none 0 0, .int .i64 0, .int .i64 7] := hA.val 3 69 (by kernel_rfl) (by kernel_rfl)
      refine opStep none 0 rfl rfl (fun c hc => by cases hc) ?_
      go_simp
      exact hK _ _ rfl (Below.refl _ _) trivial
    · -- 5
      intro li a1 W2 hA K hK
      have e65 : a1.tmps.getD 65 undef = .tuple #[.slice none 0 0, .int .i64 0, .int .i64 7] := hA.val 4 65 (by kernel_rfl) (by kernel_rfl)
      refine opStep none 0 rfl rfl (fun c hc => by cases hc) ?_
      go_simp
      exact hK _ _ rfl (Below.refl _ _) trivial
    · -- 6
      intro li a1 W2 hA K hK
      have e65 : a1.tmps.getD 65 undef = .tuple #[.slice none 0 0, .int .i64 0, .int .i64 7] := hA.val 4 65 (by kernel_rfl) (by kernel_rfl)
      refine opStep none 0 rfl rfl (fun c hc => by cases hc) ?_
      go_simp
      exact hK _ _ rfl (Below.refl _ _) trivial
    · -- 7
      intro li a1 W2 hA K hK
      have e65 : a1.tmps.getD 65 undef = .tuple #[.slice none 0 0, .int .i64 0, .int .i64 7] := hA.val 4 65 (by kernel_rfl) (by kernel_rfl)
      refine opStep none 0 rfl rfl (fun c hc => by cases hc) ?_
      go_simp
      exact hK _ _ rfl (Below.refl _ _) trivial
    · -- 8
      intro li a1 W2 hA K hK
      have e70 : a1.tmps.getD 70 undef = .slice none 0 0 := hA.val 5 70 (by kernel_rfl) (by kernel_rfl)
      refine opStep none 0 rfl rfl (fun c hc => by cases hc) ?_
      go_simp
      exact hK _ _ rfl (Below.refl _ _) trivial
    · -- 9
      intro li a1 W2 hA K hK
      have e71 : a1.tmps.getD 71 undef = .int .i64 0 := hA.val 6 71 (by kernel_rfl) (by kernel_rfl)
      refine opStep none 0 rfl rfl (fun c hc => by cases hc) ?_
      go_simp
      exact hK _ _ rfl (Below.refl _ _) trivial
  intro li a1 W2 hD
  have e15 : a1.tmps.getD 15 undef = .slice none 0 0 := hD.val 8 15 (by kernel_rfl) (by kernel_rfl)
  have e16 : a1.tmps.getD 16 undef = .int .i64 0 := hD.val 9 16 (by kernel_rfl) (by kernel_rfl)
  have e72 : a1.tmps.getD 72 undef = .int .i64 7 := hD.val 7 72 (by kernel_rfl) (by kernel_rfl)
  have hkp2 := hD.keeps (ds := [66, 67, 68, 69, 65, 70, 71, 72, 15, 16, 17]) (by kernel_rfl)
  have hds := hD.size
  have hsz9 : a1.tmps.size = 127 := hD.size
  have hdd := hD.defers
  have hst := hD.st
  refine tail_val (i := 10) (v := .int .i64 7) (W' := W2) none 0 rfl rfl rfl (fun c hc => by cases hc) (by go_simp) (by rw [hsz9]; decide) ?_
  intro a3 s3 d3 f3 o3
  have hkp3 := keeps_then hkp2 o3 (by decide)
  have e := act_mix [66, 67, 68, 69, 65, 70, 71, 72, 15, 16, 17] (s3.trans (hds)) (d3.trans (hdd)) (fun i _ hc => hkp3 i hc)
  have hgg0 : (fun i => a3.tmps.getD i undef) 17 = .int .i64 7 := f3
  have hgk15 : (fun i => a3.tmps.getD i undef) 15 = .slice none 0 0 := (o3 15 (by decide)).trans (e15)
  have hgk16 : (fun i => a3.tmps.getD i undef) 16 = .int .i64 0 := (o3 16 (by decide)).trans (e16)
  generalize (fun i => a3.tmps.getD i undef) = g' at e hgg0 hgk15 hgk16
  refine wpListIn_nil ?_
  rw [e]
  clear e hD hkp2 hkp3 hds hdd hsz9 s3 d3 f3 o3 e72 e15 e16
  simp only [mix, List.contains_cons, List.contains_nil, Nat.reduceAdd, Nat.reduceBEq, Bool.or_false, Bool.or_true, cond_true, cond_false, hgg0, hgk15, hgk16]
  clear hgg0 hgk15 hgk16
  have hb := hst
  clear hst
  have HB29 := hid (HB28.out.trans (hb.mono HB28.out.size))
  have HT29 := hid (HT28.out.keep hb)
  have BY29 := hid (BY28.out.trans (hb.mono BY28.out.size))
  have XB29 := hid (XB28.out.keep hb)
  have LB29 := hid (LB28.out.keep hb)
  have YA_29 := hid (YA_28.out.at_ hb)
  have YB_29 := hid (YB_0.out.at_ hb)
  clear hb
  generalize W2 = w29 at *
  obtain ⟨t0, t1, t2, t3⟩ := HT29.out.c4
  obtain ⟨x0, x1, x2, x3⟩ := XB29.out.c4
  obtain ⟨l0, l1⟩ := LB29.out.c2
  clear t0 t1 t2 t3 x0 x1 x2 x3 l0 l1
  go_wp2
  refine (wpIn_wide (n := 0)).1 ?_
  refine wpIn_region_each 10 (fun i v W' => match i with | 0 => v = .agg #[.slice A x.old.length c, .int .i64 x.nw, .slice A2 x.ss.length c2, .slice (some ⟨g6, 0, none⟩) x.js.length cap6] | 1 => ∃ (y : (Option Addr × Nat) × (Option Addr × Nat) × (Option Addr × Nat)), v = .agg #[.slice y.1.1 x.old.length y.1.2, .int .i64 x.nw, .slice y.2.1.1 x.ss.length y.2.1.2, .slice y.2.2.1 x.js.length y.2.2.2] ∧ MIn x y.1.1 y.1.2 y.2.1.1 y.2.1.2 y.2.2.1 y.2.2.2 W' | 2 => v = .agg #[.int .i64 lo, .int .i64 hi] | 3 => ∃ (y : (Option Addr × Nat × Nat) × Int × Int), v = .tuple #[.slice y.1.1 y.1.2.1 y.1.2.2, .int .i64 y.2.1, .int .i64 y.2.2] ∧ True | 4 => ∃ (y : (Option Addr × Nat × Nat) × Int × Int), v = .tuple #[.slice y.1.1 y.1.2.1 y.1.2.2, .int .i64 y.2.1, .int .i64 y.2.2] ∧ True | 5 => ∃ (y : (Option Addr × Nat × Nat) × Int × Int), v = .slice y.1.1 y.1.2.1 y.1.2.2 ∧ True | 6 => ∃ (y : (Option Addr × Nat × Nat) × Int × Int), v = .int .i64 y.2.1 ∧ True | 7 => ∃ (y : (Option Addr × Nat × Nat) × Int × Int), v = .int .i64 y.2.2 ∧ True | 8 => ∃ (y : (Option Addr × Nat × Nat) × Int × Int), v = .slice y.1.1 y.1.2.1 y.1.2.2 ∧ True | 9 => ∃ (y : (Option Addr × Nat × Nat) × Int × Int), v = .int .i64 y.2.1 ∧ True | _ => True) (fun A B => Below A.heap.size A B) (fun _ _ => True) (by kernel_rfl) (by kernel_rfl) ?_ (fun h k => h.trans (k.mono h.size)) ⟨rfl, rfl, rfl, Nat.le_refl _, fun _ _ => rfl⟩ trivial (by kernel_rfl) ?_ ?_
  · intro i v W1 W2 hb h
    match i, h with
    | 0, h => exact h
    | 1, h =>
      obtain ⟨y, rfl, h1⟩ := h
      exact ⟨_, rfl, h1.at_ hb⟩
    | 2, h => exact h
    | 3, h =>
      obtain ⟨y, rfl, h1⟩ := h
      exact ⟨_, rfl, trivial⟩
    | 4, h =>
      obtain ⟨y, rfl, h1⟩ := h
      exact ⟨_, rfl, trivial⟩
    | 5, h =>
      obtain ⟨y, rfl, h1⟩ := h
      exact ⟨_, rfl, trivial⟩
    | 6, h =>
      obtain ⟨y, rfl, h1⟩ := h
      exact ⟨_, rfl, trivial⟩
    | 7, h =>
      obtain ⟨y, rfl, h1⟩ := h
      exact ⟨_, rfl, trivial⟩
    | 8, h =>
      obtain ⟨y, rfl, h1⟩ := h
      exact ⟨_, rfl, trivial⟩
    | 9, h =>
      obtain ⟨y, rfl, h1⟩ := h
      exact ⟨_, rfl, trivial⟩
    | i + 10, h => trivial
  · refine ⟨?_, ?_, ?_, ?_, ?_, ?_, ?_, ?_, ?_, ?_, trivial⟩
    · -- 0
      intro li a1 W2 hA K hK
      have e9 := hA.par 9 (by kernel_rfl)
      obtain ⟨q1, q2, q3, q4⟩ := (XB29.out.keep hA.st).c4
      refine opStep none 0 rfl rfl (fun c hc => by cases hc) ?_
      go_simp
      exact hK _ _ rfl (Below.refl _ _) trivial
    · -- 1
      intro li a1 W2 hA K hK
      have e74 : a1.tmps.getD 74 undef = .agg #[.slice A x.old.length c, .int .i64 x.nw, .slice A2 x.ss.length c2, .slice (some ⟨g6, 0, none⟩) x.js.length cap6] := hA.val 0 74 (by kernel_rfl) (by kernel_rfl)
      refine opStep none 0 rfl rfl (fun c hc => by cases hc) ?_
      go_simp
      refine (map_thin (HXA.out.at_ (BY29.out.trans (hA.st.mono BY29.out.size))) HXT.out).mono ?_
      rintro e W3 ⟨P, Q, R, rfl, hy, hb3⟩
      exact hK _ _ ⟨(P, Q, R), rfl, hy⟩ hb3 trivial
    · -- 2
      intro li a1 W2 hA K hK
      have e10 := hA.par 10 (by kernel_rfl)
      obtain ⟨q1, q2⟩ := (LB29.out.keep hA.st).c2
      refine opStep none 0 rfl rfl (fun c hc => by cases hc) ?_
      go_simp
      exact hK _ _ rfl (Below.refl _ _) trivial
    · -- 3
      intro li a1 W2 hA K hK
      obtain ⟨y75, e75, h75⟩ := hA.val 1 75 (by kernel_rfl) (by kernel_rfl)
      have e76 : a1.tmps.getD 76 undef = .agg #[.int .i64 lo, .int .i64 hi] := hA.val 2 76 (by kernel_rfl) (by kernel_rfl)
      refine opStep none 0 rfl rfl (fun c hc => by cases hc) ?_
      go_simp
      refine (best_all h75 HEX.out).mono ?_
      rintro e W3 ⟨y, rfl, hy, hb3⟩
      exact hK _ _ ⟨y, rfl, trivial⟩ hb3 trivial
    · -- 4
      intro li a1 W2 hA K hK
      obtain ⟨y77, e77, h77⟩ := hA.val 3 77 (by kernel_rfl) (by kernel_rfl)
      refine opStep none 0 rfl rfl (fun c hc => by cases hc) ?_
      go_simp
      exact hK _ _ ⟨_, rfl, h77⟩ (Below.refl _ _) trivial
    · -- 5
      intro li a1 W2 hA K hK
      obtain ⟨y73, e73, h73⟩ := hA.val 4 73 (by kernel_rfl) (by kernel_rfl)
      refine opStep none 0 rfl rfl (fun c hc => by cases hc) ?_
      go_simp
      exact hK _ _ ⟨_, rfl, h73⟩ (Below.refl _ _) trivial
    · -- 6
      intro li a1 W2 hA K hK
      obtain ⟨y73, e73, h73⟩ := hA.val 4 73 (by kernel_rfl) (by kernel_rfl)
      refine opStep none 0 rfl rfl (fun c hc => by cases hc) ?_
      go_simp
      exact hK _ _ ⟨_, rfl, h73⟩ (Below.refl _ _) trivial
    · -- 7
      intro li a1 W2 hA K hK
      obtain ⟨y73, e73, h73⟩ := hA.val 4 73 (by kernel_rfl) (by kernel_rfl)
      refine opStep none 0 rfl rfl (fun c hc => by cases hc) ?_
      go_simp
      exact hK _ _ ⟨_, rfl, h73⟩ (Below.refl _ _) trivial
    · -- 8
      intro li a1 W2 hA K hK
      obtain ⟨y78, e78, h78⟩ := hA.val 5 78 (by kernel_rfl) (by kernel_rfl)
      refine opStep none 0 rfl rfl (fun c hc => by cases hc) ?_
      go_simp
      exact hK _ _ ⟨_, rfl, h78⟩ (Below.refl _ _) trivial
    · -- 9
      intro li a1 W2 hA K hK
      obtain ⟨y79, e79, h79⟩ := hA.val 6 79 (by kernel_rfl) (by kernel_rfl)
      refine opStep none 0 rfl rfl (fun c hc => by cases hc) ?_
      go_simp
      exact hK _ _ ⟨_, rfl, h79⟩ (Below.refl _ _) trivial
  intro li a1 W2 hD
  obtain ⟨y18, e18, h18⟩ := hD.val 8 18 (by kernel_rfl) (by kernel_rfl)
  obtain ⟨y19, e19, h19⟩ := hD.val 9 19 (by kernel_rfl) (by kernel_rfl)
  obtain ⟨y80, e80, h80⟩ := hD.val 7 80 (by kernel_rfl) (by kernel_rfl)
  have hkp2 := hD.keeps (ds := [74, 75, 76, 77, 73, 78, 79, 80, 18, 19, 20]) (by kernel_rfl)
  have hds := hD.size
  have hsz9 : a1.tmps.size = 127 := hD.size
  have hdd := hD.defers
  have hst := hD.st
  refine tail_val (i := 10) (v := .int .i64 y80.2.2) (W' := W2) none 0 rfl rfl rfl (fun c hc => by cases hc) (by go_simp) (by rw [hsz9]; decide) ?_
  intro a3 s3 d3 f3 o3
  have hkp3 := keeps_then hkp2 o3 (by decide)
  have e := act_mix [74, 75, 76, 77, 73, 78, 79, 80, 18, 19, 20] (s3.trans (hds)) (d3.trans (hdd)) (fun i _ hc => hkp3 i hc)
  have hgg0 : (fun i => a3.tmps.getD i undef) 20 = .int .i64 y80.2.2 := f3
  have hgk18 : (fun i => a3.tmps.getD i undef) 18 = .slice y18.1.1 y18.1.2.1 y18.1.2.2 := (o3 18 (by decide)).trans (e18)
  have hgk19 : (fun i => a3.tmps.getD i undef) 19 = .int .i64 y19.2.1 := (o3 19 (by decide)).trans (e19)
  generalize (fun i => a3.tmps.getD i undef) = g' at e hgg0 hgk18 hgk19
  refine wpListIn_nil ?_
  rw [e]
  clear e hD hkp2 hkp3 hds hdd hsz9 s3 d3 f3 o3 e80 h18 h19 h80 e18 e19
  simp only [mix, List.contains_cons, List.contains_nil, Nat.reduceAdd, Nat.reduceBEq, Bool.or_false, Bool.or_true, cond_true, cond_false, hgg0, hgk18, hgk19]
  clear hgg0 hgk18 hgk19
  have hb := hst
  clear hst
  have HB30 := hid (HB29.out.trans (hb.mono HB29.out.size))
  have HT30 := hid (HT29.out.keep hb)
  have BY30 := hid (BY29.out.trans (hb.mono BY29.out.size))
  have XB30 := hid (XB29.out.keep hb)
  have LB30 := hid (LB29.out.keep hb)
  have YA_30 := hid (YA_29.out.at_ hb)
  have YB_30 := hid (YB_29.out.at_ hb)
  clear hb
  generalize W2 = w30 at *
  obtain ⟨t0, t1, t2, t3⟩ := HT30.out.c4
  obtain ⟨x0, x1, x2, x3⟩ := XB30.out.c4
  obtain ⟨l0, l1⟩ := LB30.out.c2
  have hna := apTo_len m m.nw.toNat
  have hnb := apTo_len x x.nw.toNat
  have hn4z := HN4.out
  obtain ⟨La, hLa⟩ : ∃ l, apL m = l := ⟨_, rfl⟩
  obtain ⟨Lb, hLb⟩ : ∃ l, apL x = l := ⟨_, rfl⟩
  have HSUB := hid (show ∀ v, v ∈ Lb → v ∈ La from fun v hv => by rw [← hLa]; rw [← hLb, ← HXE.out] at hv; exact join_apart hv)
  have hla : La.length ≤ 4 := by rw [← hLa]; unfold apL; omega
  have hxn9 : x.nw = m.nw := by rw [← HXE.out]; rfl
  rw [hxn9] at hnb
  have hlb : Lb.length ≤ 4 := by rw [← hLb]; unfold apL; rw [hxn9]; omega
  clear hxn9
  have HYA9 := hid (show IntsAt (A11, c11) La w30 by rw [← hLa]; exact YA_30.out)
  have HYB9 := hid (show IntsAt (A13, c13) Lb w30 by rw [← hLb]; exact YB_30.out)
  rw [hLa, hLb]
  clear hna hnb hLa hLb
  go_wp2
  clear t0 t1 t2 t3 x0 x1 x2 x3 l0 l1
  go_loopw [21] (fun i W => ∃ k : Nat, k ≤ Lb.length ∧ i = .int .i64 k ∧ Below w30.heap.size w30 W) (fun i _ => Lb.length - (intOf i).toNat)
  case atStart => exact ⟨0, Nat.zero_le _, rfl, Below.refl _ _⟩
  case round =>
    obtain ⟨k, hk, rfl, hbr⟩ := hrel
    have HR := hid hbr
    clear hbr
    by_cases hlt : k < Lb.length
    · have hkI : (k : Int) < (Lb.length : Int) := by omega
      obtain ⟨v, hv⟩ : ∃ v, Lb[k]? = some v := ⟨_, List.getElem?_eq_getElem hlt⟩
      have HIN := hid (HSUB.out v (List.mem_of_getElem? hv))
      obtain ⟨b13, e13, _, fb⟩ := (HYB9.out.at_ HR.out).1 k v hv
      replace e13 : A13 = some b13 := e13
      subst e13
      have HFB := hid fb
      clear fb hv
      go_wp2
      generalize wr = wk at *
      go_loopw [22, 23] (fun u i W => ∃ j : Nat, j ≤ La.length ∧ i = .int .i64 j ∧ u = .bool ((La.take j).contains v) ∧ Below wk.heap.size wk W) (fun _ i _ => La.length - (intOf i).toNat)
      case atStart => exact ⟨0, Nat.zero_le _, rfl, rfl, Below.refl _ _⟩
      case round =>
        obtain ⟨j, hj, rfl, rfl, hbr⟩ := hrel
        have HRJ := hid hbr
        have HBJ := hid (HR.out.trans (hbr.mono HR.out.size))
        clear hbr
        by_cases hlj : j < La.length
        · have hjI : (j : Int) < (La.length : Int) := by omega
          obtain ⟨u, hu⟩ : ∃ u, La[j]? = some u := ⟨_, List.getElem?_eq_getElem hlj⟩
          have HST := hid (take_has (v := v) hu)
          obtain ⟨a11, e11, _, fa⟩ := (HYA9.out.at_ HBJ.out).1 j u hu
          replace e11 : A11 = some a11 := e11
          subst e11
          have fb := (HRJ.out.cell (World.block_lt_of_cell? _ _ HFB.out)).trans HFB.out
          clear hu
          cases hh : (La.take j).contains v
          · have HHH := hid hh
            clear hh
            go_wp2
            have s1 := xt_cell fa
            have s2 := xt_cell fb
            clear fa fb
            refine wp_region_quiet_xt (by kernel_rfl) (by kernel_rfl) ?_
            repeat (go_big_quiet_step (fail))
            refine wpQuiet_nil ?_
            intro W3 hw3
            replace hw3 := of_xt hw3
            have HNZ := hid (HRJ.out.trans (hw3.mono HRJ.out.size))
            clear hw3 s1 s2 HRJ HBJ
            go_wp2
            go_roundw
            case rel => exact ⟨j + 1, by omega, by go_num, by rw [HST.out, HHH.out]; first | rfl | (rw [Bool.false_or, Bool.beq_comm]) | (simp [eq_comm]), HNZ.out⟩
            case measure => first | (simp [intOf]; done) | (simp [intOf]; omega)
          · have HHH := hid hh
            clear hh fa fb
            go_wp2
            refine wp_region_quiet_xt (by kernel_rfl) (by kernel_rfl) ?_
            repeat (go_big_quiet_step (fail))
            refine wpQuiet_nil ?_
            intro W3 hw3
            replace hw3 := of_xt hw3
            have HNZ := hid (HRJ.out.trans (hw3.mono HRJ.out.size))
            clear hw3 HRJ HBJ
            go_wp2
            go_roundw
            case rel => exact ⟨j + 1, by omega, by go_num, by rw [HST.out, HHH.out]; rfl, HNZ.out⟩
            case measure => first | (simp [intOf]; done) | (simp [intOf]; omega)
        · have hjI : decide ((j : Int) < (La.length : Int)) = false := by simp; omega
          obtain rfl : j = La.length := by omega
          have HHH := hid (show (La.take La.length).contains v = true by rw [List.take_length]; exact List.contains_iff_mem.2 HIN.out)
          rw [HHH.out]
          have HNZ := hid HBJ.out
          clear HRJ HBJ HR
          go_wp2
          go_roundw
          case rel => exact ⟨k + 1, by omega, by go_num, HNZ.out⟩
          case measure => first | (simp [intOf]; done) | (simp [intOf]; omega)
    · have hkI : decide ((k : Int) < (Lb.length : Int)) = false := by simp; omega
      have HBR := hid (HB30.out.trans (HR.out.mono HB30.out.size))
      have HTR := hid (HT30.out.keep HR.out)
      obtain ⟨t0, t1, t2, t3⟩ := HTR.out.c4
      have K91 := hid (awake_any wr)
      go_wp2_with fail
      refine K91.out.mono ?_
      rintro e w91 ⟨rfl, hb⟩
      have HB91 := hid (HBR.out.trans (hb.mono HBR.out.size))
      have HT91 := hid (HTR.out.keep hb)
      clear hb K91 t0 t1 t2 t3
      obtain ⟨t0, t1, t2, t3⟩ := HT91.out.c4
      clear t0 t1 t2 t3
      go_wp2
      go_ret
      exact ⟨rfl, HB91.out⟩

set_option maxRecDepth 100000 in
set_option maxHeartbeats 8000000 in
theorem joi_some (m : MapD) (A : Option Addr) (c : Nat) (A2 : Option Addr) (c2 : Nat) (A3 : Option Addr) (c3 : Nat) (ja jb p q : Int) (w : World) (h : MArg m A c A2 c2 A3 c3 w) (hw16 : m.js.length * 16 ≤ 140737488351232) (hp0 : 0 ≤ p) (hp1 : p ≤ 65535) (hq0 : 0 ≤ q) (hq1 : q ≤ 65535) (hr : readyM m = true) (hx : readyM (joinM m ⟨ja, jb⟩) = true) (j : Nat) (l : Nat → Int) (hbb : bestB m (p % 2000) (min 40000 (p % 2000 + q)) = some (j, l)) :
    Calls Try.prog 9 #[.agg #[.slice A m.old.length c, .int .i64 m.nw, .slice A2 m.ss.length c2, .slice A3 m.js.length c3], .agg #[.int .i64 ja, .int .i64 jb], .int .u16 p, .int .u16 q] w fun e w' => e = .returned (.bool true) ∧ Below w.heap.size w w' := by
  have hB := (below_box (w := w) #[.slice A m.old.length c, .int .i64 m.nw, .slice A2 m.ss.length c2, .slice A3 m.js.length c3] 26).alloc (below_box (w := w) #[.slice A m.old.length c, .int .i64 m.nw, .slice A2 m.ss.length c2, .slice A3 m.js.length c3] 26).size (.cells #[.int .i64 ja, .int .i64 jb] 63)
  have hT := (Blk.new w 26 #[.slice A m.old.length c, .int .i64 m.nw, .slice A2 m.ss.length c2, .slice A3 m.js.length c3]).alloc (.cells #[.int .i64 ja, .int .i64 jb] 63)
  have hJ := Blk.new (w.alloc (.cells #[.slice A m.old.length c, .int .i64 m.nw, .slice A2 m.ss.length c2, .slice A3 m.js.length c3] 26)) 63 #[.int .i64 ja, .int .i64 jb]
  rw [World.size_alloc] at hJ
  have hX := Blk.new ((w.alloc (.cells #[.slice A m.old.length c, .int .i64 m.nw, .slice A2 m.ss.length c2, .slice A3 m.js.length c3] 26)).alloc (.cells #[.int .i64 ja, .int .i64 jb] 63)) 26 #[.slice A m.old.length c, .int .i64 m.nw, .slice A2 m.ss.length c2, .slice A3 m.js.length c3]
  rw [World.size_alloc, World.size_alloc] at hX
  have HS0 := hid (And.intro (hB.alloc hB.size (.cells #[.slice A m.old.length c, .int .i64 m.nw, .slice A2 m.ss.length c2, .slice A3 m.js.length c3] 26)) (And.intro (hT.alloc (.cells #[.slice A m.old.length c, .int .i64 m.nw, .slice A2 m.ss.length c2, .slice A3 m.js.length c3] 26)) (And.intro (hJ.alloc (.cells #[.slice A m.old.length c, .int .i64 m.nw, .slice A2 m.ss.length c2, .slice A3 m.js.length c3] 26)) hX)))
  have HH := hid h
  obtain ⟨t0, t1, t2, t3⟩ := hT.c4
  obtain ⟨j0, j1⟩ := hJ.c2
  clear h hB hT hJ hX
  have HRD := hid hr
  have HRX := hid hx
  have HTH := hid (ready_iff.1 hr).1
  have HMO := hid (cst_ok (ready_iff.1 hr).2).1
  have HN4 := hid (show m.nw.toNat ≤ 4 by have := (chk_okm (cst_ok (ready_iff.1 hr).2).1).n4; omega)
  have HB9 := hid hbb
  clear hr hx hbb
  obtain ⟨lo, hlo⟩ : ∃ lo, p % 2000 = lo := ⟨_, rfl⟩
  obtain ⟨hi, hhi⟩ : ∃ hi, min 40000 (lo + q) = hi := ⟨_, rfl⟩
  have hlo0 : 0 ≤ lo ∧ lo < 2000 := by rw [← hlo]; exact ⟨Int.emod_nonneg _ (by omega), Int.emod_lt_of_pos _ (by omega)⟩
  have HLI := hid (show 0 ≤ lo ∧ lo ≤ hi ∧ hi ≤ 40000 by omega)
  have htm : p.tmod 2000 = lo := by rw [Int.tmod_eq_emod_of_nonneg hp0]; exact hlo
  have hwp : IntKind.i64.wrap p = p := IntWalk.i64_in _ (by omega)
  have hwq : IntKind.i64.wrap q = q := IntWalk.i64_in _ (by omega)
  have hwl : IntKind.i64.wrap lo = lo := IntWalk.i64_in _ (by omega)
  have hws : IntKind.i64.wrap (lo + q) = lo + q := IntWalk.i64_in _ (by omega)
  have hite : (if lo + q < 40000 then lo + q else 40000) = hi := by rw [← hhi]; split <;> omega
  have hitv : (if lo + q < 40000 then Value.int .i64 (lo + q) else Value.int .i64 40000) = Value.int .i64 hi := by rw [← hhi]; split <;> congr 1 <;> omega
  have HSZ := hid hw16
  have hb9 := HB9.out
  rw [hlo, hhi] at hb9
  have HBB := hid hb9
  clear hb9 HB9
  clear hlo hhi hw16 hlo0
  go_enter Try.func9, Try.ntmps9
  go_upto_region 2 with (fail)
  refine gen (p := Code.wp _ _ _ _) (fun W => Below w.heap.size w W ∧ Blk W w.heap.size 26 #[.slice A m.old.length c, .int .i64 m.nw, .slice A2 m.ss.length c2, .slice A3 m.js.length c3] ∧ Blk W (w.heap.size + 1) 63 #[.int .i64 ja, .int .i64 jb] ∧ Blk W (w.heap.size + 2) 26 #[.slice A m.old.length c, .int .i64 m.nw, .slice A2 m.ss.length c2, .slice A3 m.js.length c3]) HS0.out ?_
  rintro w1 hw1
  have HW1 := hid hw1
  clear hw1 HS0 t0 t1 t2 t3 j0 j1
  have HTB := hid (fun (W2 : World) (hW : Below w1.heap.size w1 W2) => (HW1.out.2.1.keep hW).c4)
  have HFB := hid (fun (W2 : World) (hW : Below w1.heap.size w1 W2) => (HW1.out.2.2.1.keep hW).c2)
  have HIX := hid (HH.out.at_ HW1.out.1).ij
  have hxl := HW1.out.2.2.2.lt
  refine (wpIn_wide (n := 0)).1 ?_
  refine wpIn_region_each 6 (fun i v W' => match i with | 0 => ∃ g0, v = .slice (some ⟨g0, 0, none⟩) 0 0 ∧ w1.heap.size ≤ g0 ∧ Blk W' g0 63 #[] | 1 => v = .pointer (some ⟨w.heap.size, 3, none⟩) | 2 => v = .slice A3 m.js.length c3 | 3 => ∃ v3, v = v3 ∧ W'.ownsRow w1.heap.size 63 2 v3 m.js.length (jnsC m.js) | 4 => v = .agg #[.int .i64 ja, .int .i64 jb] | 5 => ∃ gl, v = .slice (some ⟨gl, 0, none⟩) 1 1 ∧ Blk W' gl 63 #[.int .i64 ja, .int .i64 jb] | _ => True) (fun A B => Below A.heap.size A B) (fun _ _ => True) (by kernel_rfl) (by kernel_rfl) ?_ (fun h k => h.trans (k.mono h.size)) ⟨rfl, rfl, rfl, Nat.le_refl _, fun _ _ => rfl⟩ trivial (by kernel_rfl) ?_ ?_
  · intro i v W1 W2 hb h
    match i, h with
    | 0, h =>
      obtain ⟨g0, rfl, h1⟩ := h
      exact ⟨_, rfl, h1.1, h1.2.keep hb⟩
    | 1, h => exact h
    | 2, h => exact h
    | 3, h =>
      obtain ⟨v3, rfl, h1⟩ := h
      exact ⟨_, rfl, row_kept (vo := .slice none 0 0) h1 (grown_of_below hb _) (.inl rfl)⟩
    | 4, h => exact h
    | 5, h =>
      obtain ⟨gl, rfl, h1⟩ := h
      exact ⟨_, rfl, h1.keep hb⟩
    | i + 6, h => trivial
  · refine ⟨?_, ?_, ?_, ?_, ?_, ?_, trivial⟩
    · -- 0
      intro li a1 W2 hA K hK
      refine opStep none 0 rfl rfl (fun c hc => by cases hc) ?_
      go_simp
      exact hK _ _ ⟨_, rfl, by have := hA.st.size; omega, Blk.new _ _ _⟩ ((Below.refl _ _).alloc (Nat.le_refl _) _) trivial
    · -- 1
      intro li a1 W2 hA K hK
      have e4 := hA.par 4 (by kernel_rfl)
      refine opStep none 0 rfl rfl (fun c hc => by cases hc) ?_
      go_simp
      exact hK _ _ rfl (Below.refl _ _) trivial
    · -- 2
      intro li a1 W2 hA K hK
      have e26 : a1.tmps.getD 26 undef = .pointer (some ⟨w.heap.size, 3, none⟩) := hA.val 1 26 (by kernel_rfl) (by kernel_rfl)
      obtain ⟨_, _, _, q1⟩ := HTB.out W2 hA.st
      refine opStep none 0 rfl rfl (fun c hc => by cases hc) ?_
      go_simp
      exact hK _ _ rfl (Below.refl _ _) trivial
    · -- 3
      intro li a1 W2 hA K hK
      obtain ⟨g0, e25, h25⟩ := hA.val 0 25 (by kernel_rfl) (by kernel_rfl)
      have e27 : a1.tmps.getD 27 undef = .slice A3 m.js.length c3 := hA.val 2 27 (by kernel_rfl) (by kernel_rfl)
      obtain ⟨v', w', hrun, ho', hb'⟩ := copy_joins (c3 := c3) (HIX.out.at_ hA.st) h25.2 h25.1 HSZ.out
      refine opValue none 0 rfl rfl (fun c hc => by cases hc) (v := v') (W' := w') (by simp [execOp, resolve, invoke, builtin, Act.eval, e25, e27, hrun, Result.andThen]) ?_
      exact hK v' w' ⟨v', rfl, ho'⟩ hb' trivial
    · -- 4
      intro li a1 W2 hA K hK
      have e5 := hA.par 5 (by kernel_rfl)
      obtain ⟨q1, q2⟩ := HFB.out W2 hA.st
      refine opStep none 0 rfl rfl (fun c hc => by cases hc) ?_
      go_simp
      exact hK _ _ rfl (Below.refl _ _) trivial
    · -- 5
      intro li a1 W2 hA K hK
      have e29 : a1.tmps.getD 29 undef = .agg #[.int .i64 ja, .int .i64 jb] := hA.val 4 29 (by kernel_rfl) (by kernel_rfl)
      have e29' := e29
      rw [Array.getD_eq_getD_getElem?] at e29'
      refine opStep none 0 rfl rfl (fun c hc => by cases hc) ?_
      go_simp
      exact hK _ _ ⟨_, rfl, Blk.new _ _ _⟩ ((Below.refl _ _).alloc (Nat.le_refl _) _) trivial
  intro li a1 W2 hD
  obtain ⟨v3, e28, h28⟩ := hD.val 3 28 (by kernel_rfl) (by kernel_rfl)
  obtain ⟨gl, e30, hgl⟩ := hD.val 5 30 (by kernel_rfl) (by kernel_rfl)
  have ep := hD.par 9 (by kernel_rfl)
  have hst := hD.st
  have hs2 := hst.size
  obtain ⟨i0, hi0, hz0, hz1, hz2⟩ := info_parts qjn_info
  obtain ⟨v', w7, hrun, hr7, hg7, _, hf7⟩ := run_append_own_at (P := Try.prog) W2 _ 24 24 63 i0 (.agg #[.int .i64 0, .int .i64 0]) 2 16 Try.underlying24 hi0 hz0 hz1 hz2 rfl (by decide) v3 m.js.length _ h28 ⟨gl, 0, none⟩ 1 1 (jnC ⟨ja, jb⟩) rfl (two_blk hgl) (jnC_one _) (by simp only [maxLen]; have := HSZ.out; omega) (by have := HSZ.out; omega) (by omega)
  have hb7 := below_row' hst h28 (Nat.le_refl _) hg7 hs2
  rw [← jnsC_snoc] at hr7
  obtain ⟨js9, hjs⟩ : ∃ l, m.js ++ [(⟨ja, jb⟩ : Jn)] = l := ⟨_, rfl⟩
  have hjn : m.js.length + 1 = js9.length := by rw [← hjs]; simp
  rw [hjs] at hr7
  have HJS := hid hjs
  obtain ⟨g6, cap6, rfl, hj6, hl6, hm6, hg6, hg6l⟩ := row_jns hr7 hjn (by omega)
  have hx7 := HW1.out.2.2.2.keep hb7
  obtain ⟨y0, y1, y2, y3⟩ := hx7.c4
  have yf := hx7.frozen 3
  have yl := hx7.lt
  have hne1 : w.heap.size ≠ w.heap.size + 2 := by omega
  have HZ := hid (show Below w.heap.size w (w7.setCell ⟨w.heap.size + 2, 3, none⟩ (.slice (some ⟨g6, 0, none⟩) js9.length cap6)) ∧ Blk (w7.setCell ⟨w.heap.size + 2, 3, none⟩ (.slice (some ⟨g6, 0, none⟩) js9.length cap6)) w.heap.size 26 #[.slice A m.old.length c, .int .i64 m.nw, .slice A2 m.ss.length c2, .slice A3 m.js.length c3] ∧ Blk (w7.setCell ⟨w.heap.size + 2, 3, none⟩ (.slice (some ⟨g6, 0, none⟩) js9.length cap6)) (w.heap.size + 2) 26 #[.slice A m.old.length c, .int .i64 m.nw, .slice A2 m.ss.length c2, .slice (some ⟨g6, 0, none⟩) js9.length cap6] ∧ IsJns (w7.setCell ⟨w.heap.size + 2, 3, none⟩ (.slice (some ⟨g6, 0, none⟩) js9.length cap6)) (w7.setCell ⟨w.heap.size + 2, 3, none⟩ (.slice (some ⟨g6, 0, none⟩) js9.length cap6)).heap.size (some ⟨g6, 0, none⟩) js9 from
    ⟨(HW1.out.1.trans (hb7.mono HW1.out.1.size)).setCell (p := ⟨w.heap.size + 2, 3, none⟩) (by show w.heap.size ≤ w.heap.size + 2; omega) _, blk_off (HW1.out.2.1.keep hb7) hne1, hx7.set_ 3 _, by
      have ho8 := hr7.kept (gr_set w7 ⟨w.heap.size + 2, 3, none⟩ (.slice (some ⟨g6, 0, none⟩) js9.length cap6)) (own_ne hr7 (blk_not hx7 (by decide)))
      obtain ⟨g7, cap7, e7, hj7, _⟩ := row_jns ho8 hjn (by omega)
      injection e7 with e7
      injection e7 with e7
      injection e7 with e7
      subst e7
      exact hj7⟩)
  have HLM := hid (And.intro hl6 hm6)
  have hkp2 := hD.keeps (ds := [25, 26, 27, 28, 29, 30, 31, 32]) (by kernel_rfl)
  have hds := hD.size
  have hsz : a1.tmps.size = 127 := hD.size
  have hdd := hD.defers
  clear hst hr7 hg7 hf7 hgl hb7 hj6 hl6 hm6 hx7 hjs
  refine tail_val (i := 6) (v := .slice (some ⟨g6, 0, none⟩) js9.length cap6) (W' := w7) none 0 rfl rfl rfl (fun c hc => by cases hc) (by simp [execOp, resolve, invoke, builtin, Act.eval, e28, e30, hrun, Result.andThen]) (by rw [hsz]; decide) ?_
  intro a3 s3 d3 f3 o3
  have hkp3 := keeps_then hkp2 o3 (by decide)
  have ep' : a3.tmps.getD 9 undef = .pointer (some ⟨w.heap.size + 2, 0, none⟩) := (o3 9 (by decide)).trans ep
  refine tail_val (i := 7) (v := .pointer (some ⟨w.heap.size + 2, 3, none⟩)) (W' := w7) none 0 rfl rfl rfl (fun c hc => by cases hc) (by go_simp) (by rw [s3, hsz]; decide) ?_
  intro a4 s4 d4 f4 o4
  have hkp4 := keeps_then hkp3 o4 (by decide)
  have ea : a4.tmps.getD 31 undef = .slice (some ⟨g6, 0, none⟩) js9.length cap6 := (o4 31 (by decide)).trans f3
  refine tail_store (i := 8) (W' := w7.setCell ⟨w.heap.size + 2, 3, none⟩ (.slice (some ⟨g6, 0, none⟩) js9.length cap6)) none 0 rfl rfl rfl (fun c hc => by cases hc) (by go_simp) ?_
  have e := act_mix [25, 26, 27, 28, 29, 30, 31, 32] (s4.trans (s3.trans hds)) (d4.trans (d3.trans hdd)) (fun i _ hc => hkp4 i hc)
  generalize (fun i => a4.tmps.getD i undef) = g' at e
  refine wpListIn_nil ?_
  rw [e]
  clear e hD hkp2 hkp3 hkp4 s3 s4 d3 d4 f3 f4 o3 o4 e28 e30 ep ep' ea hds hdd hsz y0 y1 y2 y3 yf yl hi0 hz0 hz1 hz2 hrun
  simp only [mix, List.contains_cons, List.contains_nil, Nat.reduceAdd, Nat.reduceBEq, Bool.or_false, Bool.or_true, cond_true, cond_false]
  generalize w7.setCell ⟨w.heap.size + 2, 3, none⟩ (.slice (some ⟨g6, 0, none⟩) js9.length cap6) = w8 at *
  obtain ⟨x, hxe⟩ : ∃ x, joinM m ⟨ja, jb⟩ = x := ⟨_, rfl⟩
  have HXE := hid hxe
  have HB8 := hid HZ.out.1
  have HT8 := hid HZ.out.2.1
  have XB0 := hid (show Blk w8 (w.heap.size + 2) 26 #[.slice A x.old.length c, .int .i64 x.nw, .slice A2 x.ss.length c2, .slice (some ⟨g6, 0, none⟩) x.js.length cap6] by rw [← hxe, show (joinM m ⟨ja, jb⟩).js = js9 from HJS.out]; exact HZ.out.2.2.1)
  have HXA := hid (show MArg x A c A2 c2 (some ⟨g6, 0, none⟩) cap6 w8 by
    have h9 := HH.out.at_ HB8.out
    rw [← hxe]
    have ej : (joinM m ⟨ja, jb⟩).js = js9 := HJS.out
    exact ⟨⟨h9.io, h9.is, ej ▸ HZ.out.2.2.2, h9.l1, h9.m1, h9.l2, h9.m2, ej ▸ HLM.out.1, HLM.out.2⟩, h9.z1, h9.z2, (fun e => by cases e)⟩)
  have BY0 := hid (Below.refl w8.heap.size w8)
  clear hxe HZ HW1 HTB HFB HIX hjn hxl hs2 hg6 hg6l
  obtain ⟨t0, t1, t2, t3⟩ := HT8.out.c4
  obtain ⟨x0, x1, x2, x3⟩ := XB0.out.c4
  have HRX2 := hid (show readyM x = true by rw [← HXE.out]; exact HRX.out)
  have HXT := hid (ready_iff.1 HRX2.out).1
  have HEX := hid (ask_mk (ready_iff.1 HRX2.out).2 HLI.out.1 HLI.out.2.1 HLI.out.2.2 : askE x lo hi = 0)
  have HE0 := hid (ask_mk (ready_iff.1 HRD.out).2 HLI.out.1 HLI.out.2.1 HLI.out.2.2 : askE m lo hi = 0)
  have HXO := hid (cst_ok (ready_iff.1 HRX2.out).2).1
  obtain ⟨j2, l2, hb2, hj2⟩ : ∃ k l', bestB x lo hi = some (k, l') ∧ k ≤ j := by rw [← HXE.out]; exact join_best HBB.out
  have hjB : decide ((j : Int) < (j2 : Int)) = false := by simp; omega
  have hjBn : decide (j < j2) = false := by simp; omega
  have HB2b := hid hb2
  clear hb2 hj2
  have K21 := hid (mready_any m A c A2 c2 A3 c3 w8 (HH.out.at_ HB8.out).toMIn)
  rw [HRD.out] at K21
  go_wp2_with fail
  refine K21.out.mono ?_
  rintro e w21 ⟨rfl, hb⟩
  have HB21 := hid (HB8.out.trans (hb.mono HB8.out.size))
  have HT21 := hid (HT8.out.keep hb)
  have BY21 := hid (BY0.out.trans (hb.mono BY0.out.size))
  have XB21 := hid (XB0.out.keep hb)
  clear hb K21 t0 t1 t2 t3 x0 x1 x2 x3
  obtain ⟨t0, t1, t2, t3⟩ := HT21.out.c4
  obtain ⟨x0, x1, x2, x3⟩ := XB21.out.c4
  have K22 := hid (mready_any x A c A2 c2 (some ⟨g6, 0, none⟩) cap6 w21 (HXA.out.at_ BY21.out).toMIn)
  rw [HRX2.out] at K22
  go_wp2_with fail
  refine K22.out.mono ?_
  rintro e w22 ⟨rfl, hb⟩
  have HB22 := hid (HB21.out.trans (hb.mono HB21.out.size))
  have HT22 := hid (HT21.out.keep hb)
  have BY22 := hid (BY21.out.trans (hb.mono BY21.out.size))
  have XB22 := hid (XB21.out.keep hb)
  clear hb K22 t0 t1 t2 t3 x0 x1 x2 x3
  obtain ⟨t0, t1, t2, t3⟩ := HT22.out.c4
  obtain ⟨x0, x1, x2, x3⟩ := XB22.out.c4
  have K23 := hid (between_any lo hi w22)
  go_wp2_with fail
  refine K23.out.mono ?_
  rintro e w23 ⟨rfl, hb⟩
  have HB23 := hid (HB22.out.trans (hb.mono HB22.out.size))
  have HT23 := hid (HT22.out.keep hb)
  have BY23 := hid (BY22.out.trans (hb.mono BY22.out.size))
  have XB23 := hid (XB22.out.keep hb)
  clear hb K23 t0 t1 t2 t3 x0 x1 x2 x3
  obtain ⟨t0, t1, t2, t3⟩ := HT23.out.c4
  obtain ⟨x0, x1, x2, x3⟩ := XB23.out.c4
  go_upto_region 6 with (fail)
  refine gen (p := Code.wp _ _ _ _) (fun W => Below w23.heap.size w23 W ∧ Blk W w23.heap.size 49 #[.int .i64 lo, .int .i64 hi]) ⟨below_box _ _, Blk.new _ _ _⟩ ?_
  rintro w24 ⟨hb, hl9⟩
  have HB24 := hid (HB23.out.trans (hb.mono HB23.out.size))
  have HT24 := hid (HT23.out.keep hb)
  have BY24 := hid (BY23.out.trans (hb.mono BY23.out.size))
  have XB24 := hid (XB23.out.keep hb)
  clear x0 x1 x2 x3
  have LB0 := hid hl9
  clear hb hl9 t0 t1 t2 t3
  generalize w23.heap.size = LN at *
  obtain ⟨t0, t1, t2, t3⟩ := HT24.out.c4
  obtain ⟨x0, x1, x2, x3⟩ := XB24.out.c4
  obtain ⟨l0, l1⟩ := LB0.out.c2
  have K25 := hid (map_thin (HH.out.at_ HB24.out) HTH.out)
  go_wp2_with fail
  refine K25.out.mono ?_
  rintro e w25 ⟨P25, Q25, R25, rfl, hm, hb⟩
  have HB25 := hid (HB24.out.trans (hb.mono HB24.out.size))
  have HT25 := hid (HT24.out.keep hb)
  have BY25 := hid (BY24.out.trans (hb.mono BY24.out.size))
  have XB25 := hid (XB24.out.keep hb)
  have LB25 := hid (LB0.out.keep hb)
  have M25 := hid hm
  clear hm
  clear hb K25 t0 t1 t2 t3 x0 x1 x2 x3 l0 l1
  obtain ⟨t0, t1, t2, t3⟩ := HT25.out.c4
  obtain ⟨x0, x1, x2, x3⟩ := XB25.out.c4
  obtain ⟨l0, l1⟩ := LB25.out.c2
  have K26 := hid (apart_good M25.out HMO.out)
  unfold GivesI0 at K26
  go_wp2_with fail
  refine K26.out.mono ?_
  rintro e w26 ⟨⟨A11, c11⟩, rfl, hy, hb⟩
  have HB26 := hid (HB25.out.trans (hb.mono HB25.out.size))
  have HT26 := hid (HT25.out.keep hb)
  have BY26 := hid (BY25.out.trans (hb.mono BY25.out.size))
  have XB26 := hid (XB25.out.keep hb)
  have LB26 := hid (LB25.out.keep hb)
  have HYA := hid hy
  clear hy
  clear hb K26 t0 t1 t2 t3 x0 x1 x2 x3 l0 l1
  obtain ⟨t0, t1, t2, t3⟩ := HT26.out.c4
  obtain ⟨x0, x1, x2, x3⟩ := XB26.out.c4
  obtain ⟨l0, l1⟩ := LB26.out.c2
  have YA_0 := hid (HYA.out)
  have K27 := hid (map_thin (HXA.out.at_ BY26.out) HXT.out)
  go_wp2_with fail
  refine K27.out.mono ?_
  rintro e w27 ⟨P27, Q27, R27, rfl, hm, hb⟩
  have HB27 := hid (HB26.out.trans (hb.mono HB26.out.size))
  have HT27 := hid (HT26.out.keep hb)
  have BY27 := hid (BY26.out.trans (hb.mono BY26.out.size))
  have XB27 := hid (XB26.out.keep hb)
  have LB27 := hid (LB26.out.keep hb)
  have YA_27 := hid (YA_0.out.at_ hb)
  have M27 := hid hm
  clear hm
  clear hb K27 t0 t1 t2 t3 x0 x1 x2 x3 l0 l1
  obtain ⟨t0, t1, t2, t3⟩ := HT27.out.c4
  obtain ⟨x0, x1, x2, x3⟩ := XB27.out.c4
  obtain ⟨l0, l1⟩ := LB27.out.c2
  have K28 := hid (apart_good M27.out HXO.out)
  unfold GivesI0 at K28
  go_wp2_with fail
  refine K28.out.mono ?_
  rintro e w28 ⟨⟨A13, c13⟩, rfl, hy, hb⟩
  have HB28 := hid (HB27.out.trans (hb.mono HB27.out.size))
  have HT28 := hid (HT27.out.keep hb)
  have BY28 := hid (BY27.out.trans (hb.mono BY27.out.size))
  have XB28 := hid (XB27.out.keep hb)
  have LB28 := hid (LB27.out.keep hb)
  have YA_28 := hid (YA_27.out.at_ hb)
  have HYB := hid hy
  clear hy
  clear hb K28 t0 t1 t2 t3 x0 x1 x2 x3 l0 l1
  obtain ⟨t0, t1, t2, t3⟩ := HT28.out.c4
  obtain ⟨x0, x1, x2, x3⟩ := XB28.out.c4
  obtain ⟨l0, l1⟩ := LB28.out.c2
  have YB_0 := hid (HYB.out)
  clear t0 t1 t2 t3 x0 x1 x2 x3 l0 l1
  go_wp2
  refine (wpIn_wide (n := 0)).1 ?_
  refine wpIn_region_each 10 (fun i v W' => match i with | 0 => v = .agg #[.slice A m.old.length c, .int .i64 m.nw, .slice A2 m.ss.length c2, .slice A3 m.js.length c3] | 1 => ∃ (y : (Option Addr × Nat) × (Option Addr × Nat) × (Option Addr × Nat)), v = .agg #[.slice y.1.1 m.old.length y.1.2, .int .i64 m.nw, .slice y.2.1.1 m.ss.length y.2.1.2, .slice y.2.2.1 m.js.length y.2.2.2] ∧ MIn m y.1.1 y.1.2 y.2.1.1 y.2.1.2 y.2.2.1 y.2.2.2 W' | 2 => v = .agg #[.int .i64 lo, .int .i64 hi] | 3 => ∃ (y : Option Addr × Nat), v = .tuple #[.slice y.1 (lst m l).length y.2, .int .i64 (j : Int), .int .i64 0] ∧ True | 4 => ∃ (y : Option Addr × Nat), v = .tuple #[.slice y.1 (lst m l).length y.2, .int .i64 (j : Int), .int .i64 0] ∧ True | 5 => ∃ (y : Option Addr × Nat), v = .slice y.1 (lst m l).length y.2 ∧ True | 6 => v = .int .i64 (j : Int) | 7 => v = .int .i64 0 | 8 => ∃ (y : Option Addr × Nat), v = .slice y.1 (lst m l).length y.2 ∧ True | 9 => v = .int .i64 (j : Int) | _ => True) (fun A B => Below A.heap.size A B) (fun _ _ => True) (by kernel_rfl) (by kernel_rfl) ?_ (fun h k => h.trans (k.mono h.size)) ⟨rfl, rfl, rfl, Nat.le_refl _, fun _ _ => rfl⟩ trivial (by kernel_rfl) ?_ ?_
  · intro i v W1 W2 hb h
    match i, h with
    | 0, h => exact h
    | 1, h =>
      obtain ⟨y, rfl, h1⟩ := h
      exact ⟨_, rfl, h1.at_ hb⟩
    | 2, h => exact h
    | 3, h =>
      obtain ⟨y, rfl, h1⟩ := h
      exact ⟨_, rfl, trivial⟩
    | 4, h =>
      obtain ⟨y, rfl, h1⟩ := h
      exact ⟨_, rfl, trivial⟩
    | 5, h =>
      obtain ⟨y, rfl, h1⟩ := h
      exact ⟨_, rfl, trivial⟩
    | 6, h => exact h
    | 7, h => exact h
    | 8, h =>
      obtain ⟨y, rfl, h1⟩ := h
      exact ⟨_, rfl, trivial⟩
    | 9, h => exact h
    | i + 10, h => trivial
  · refine ⟨?_, ?_, ?_, ?_, ?_, ?_, ?_, ?_, ?_, ?_, trivial⟩
    · -- 0
      intro li a1 W2 hA K hK
      have e4 := hA.par 4 (by kernel_rfl)
      obtain ⟨q1, q2, q3, q4⟩ := (HT28.out.keep hA.st).c4
      refine opStep none 0 rfl rfl (fun c hc => by cases hc) ?_
      go_simp
      exact hK _ _ rfl (Below.refl _ _) trivial
    · -- 1
      intro li a1 W2 hA K hK
      have e66 : a1.tmps.getD 66 undef = .agg #[.slice A m.old.length c, .int .i64 m.nw, .slice A2 m.ss.length c2, .slice A3 m.js.length c3] := hA.val 0 66 (by kernel_rfl) (by kernel_rfl)
      refine opStep none 0 rfl rfl (fun c hc => by cases hc) ?_
      go_simp
      refine (map_thin (HH.out.at_ (HB28.out.trans (hA.st.mono HB28.out.size))) HTH.out).mono ?_
      rintro e W3 ⟨P, Q, R, rfl, hy, hb3⟩
      exact hK _ _ ⟨(P, Q, R), rfl, hy⟩ hb3 trivial
    · -- 2
      intro li a1 W2 hA K hK
      have e10 := hA.par 10 (by kernel_rfl)
      obtain ⟨q1, q2⟩ := (LB28.out.keep hA.st).c2
      refine opStep none 0 rfl rfl (fun c hc => by cases hc) ?_
      go_simp
      exact hK _ _ rfl (Below.refl _ _) trivial
    · -- 3
      intro li a1 W2 hA K hK
      obtain ⟨y67, e67, h67⟩ := hA.val 1 67 (by kernel_rfl) (by kernel_rfl)
      have e68 : a1.tmps.getD 68 undef = .agg #[.int .i64 lo, .int .i64 hi] := hA.val 2 68 (by kernel_rfl) (by kernel_rfl)
      refine opStep none 0 rfl rfl (fun c hc => by cases hc) ?_
      go_simp
      refine (best_yes h67 HE0.out HBB.out).mono ?_
      rintro e W3 ⟨y, rfl, hy, hb3⟩
      exact hK _ _ ⟨y, rfl, trivial⟩ hb3 trivial
    · -- 4
      intro li a1 W2 hA K hK
      obtain ⟨y69, e69, h69⟩ := hA.val 3 69 (by kernel_rfl) (by kernel_rfl)
      refine opStep none 0 rfl rfl (fun c hc => by cases hc) ?_
      go_simp
      exact hK _ _ ⟨_, rfl, h69⟩ (Below.refl _ _) trivial
    · -- 5
      intro li a1 W2 hA K hK
      obtain ⟨y65, e65, h65⟩ := hA.val 4 65 (by kernel_rfl) (by kernel_rfl)
      refine opStep none 0 rfl rfl (fun c hc => by cases hc) ?_
      go_simp
      exact hK _ _ ⟨_, rfl, h65⟩ (Below.refl _ _) trivial
    · -- 6
      intro li a1 W2 hA K hK
      obtain ⟨y65, e65, h65⟩ := hA.val 4 65 (by kernel_rfl) (by kernel_rfl)
      refine opStep none 0 rfl rfl (fun c hc => by cases hc) ?_
      go_simp
      exact hK _ _ rfl (Below.refl _ _) trivial
    · -- 7
      intro li a1 W2 hA K hK
      obtain ⟨y65, e65, h65⟩ := hA.val 4 65 (by kernel_rfl) (by kernel_rfl)
      refine opStep none 0 rfl rfl (fun c hc => by cases hc) ?_
      go_simp
      exact hK _ _ rfl (Below.refl _ _) trivial
    · -- 8
      intro li a1 W2 hA K hK
      obtain ⟨y70, e70, h70⟩ := hA.val 5 70 (by kernel_rfl) (by kernel_rfl)
      refine opStep none 0 rfl rfl (fun c hc => by cases hc) ?_
      go_simp
      exact hK _ _ ⟨_, rfl, h70⟩ (Below.refl _ _) trivial
    · -- 9
      intro li a1 W2 hA K hK
      have e71 : a1.tmps.getD 71 undef = .int .i64 (j : Int) := hA.val 6 71 (by kernel_rfl) (by kernel_rfl)
      refine opStep none 0 rfl rfl (fun c hc => by cases hc) ?_
      go_simp
      exact hK _ _ rfl (Below.refl _ _) trivial
  intro li a1 W2 hD
  obtain ⟨y15, e15, h15⟩ := hD.val 8 15 (by kernel_rfl) (by kernel_rfl)
  have e16 : a1.tmps.getD 16 undef = .int .i64 (j : Int) := hD.val 9 16 (by kernel_rfl) (by kernel_rfl)
  have e72 : a1.tmps.getD 72 undef = .int .i64 0 := hD.val 7 72 (by kernel_rfl) (by kernel_rfl)
  have hkp2 := hD.keeps (ds := [66, 67, 68, 69, 65, 70, 71, 72, 15, 16, 17]) (by kernel_rfl)
  have hds := hD.size
  have hsz9 : a1.tmps.size = 127 := hD.size
  have hdd := hD.defers
  have hst := hD.st
  refine tail_val (i := 10) (v := .int .i64 0) (W' := W2) none 0 rfl rfl rfl (fun c hc => by cases hc) (by go_simp) (by rw [hsz9]; decide) ?_
  intro a3 s3 d3 f3 o3
  have hkp3 := keeps_then hkp2 o3 (by decide)
  have e := act_mix [66, 67, 68, 69, 65, 70, 71, 72, 15, 16, 17] (s3.trans (hds)) (d3.trans (hdd)) (fun i _ hc => hkp3 i hc)
  have hgg0 : (fun i => a3.tmps.getD i undef) 17 = .int .i64 0 := f3
  have hgk15 : (fun i => a3.tmps.getD i undef) 15 = .slice y15.1 (lst m l).length y15.2 := (o3 15 (by decide)).trans (e15)
  have hgk16 : (fun i => a3.tmps.getD i undef) 16 = .int .i64 (j : Int) := (o3 16 (by decide)).trans (e16)
  generalize (fun i => a3.tmps.getD i undef) = g' at e hgg0 hgk15 hgk16
  refine wpListIn_nil ?_
  rw [e]
  clear e hD hkp2 hkp3 hds hdd hsz9 s3 d3 f3 o3 e72 h15 e15 e16
  simp only [mix, List.contains_cons, List.contains_nil, Nat.reduceAdd, Nat.reduceBEq, Bool.or_false, Bool.or_true, cond_true, cond_false, hgg0, hgk15, hgk16]
  clear hgg0 hgk15 hgk16
  have hb := hst
  clear hst
  have HB29 := hid (HB28.out.trans (hb.mono HB28.out.size))
  have HT29 := hid (HT28.out.keep hb)
  have BY29 := hid (BY28.out.trans (hb.mono BY28.out.size))
  have XB29 := hid (XB28.out.keep hb)
  have LB29 := hid (LB28.out.keep hb)
  have YA_29 := hid (YA_28.out.at_ hb)
  have YB_29 := hid (YB_0.out.at_ hb)
  clear hb
  generalize W2 = w29 at *
  obtain ⟨t0, t1, t2, t3⟩ := HT29.out.c4
  obtain ⟨x0, x1, x2, x3⟩ := XB29.out.c4
  obtain ⟨l0, l1⟩ := LB29.out.c2
  clear t0 t1 t2 t3 x0 x1 x2 x3 l0 l1
  go_wp2
  refine (wpIn_wide (n := 0)).1 ?_
  refine wpIn_region_each 10 (fun i v W' => match i with | 0 => v = .agg #[.slice A x.old.length c, .int .i64 x.nw, .slice A2 x.ss.length c2, .slice (some ⟨g6, 0, none⟩) x.js.length cap6] | 1 => ∃ (y : (Option Addr × Nat) × (Option Addr × Nat) × (Option Addr × Nat)), v = .agg #[.slice y.1.1 x.old.length y.1.2, .int .i64 x.nw, .slice y.2.1.1 x.ss.length y.2.1.2, .slice y.2.2.1 x.js.length y.2.2.2] ∧ MIn x y.1.1 y.1.2 y.2.1.1 y.2.1.2 y.2.2.1 y.2.2.2 W' | 2 => v = .agg #[.int .i64 lo, .int .i64 hi] | 3 => ∃ (y : Option Addr × Nat), v = .tuple #[.slice y.1 (lst x l2).length y.2, .int .i64 (j2 : Int), .int .i64 0] ∧ True | 4 => ∃ (y : Option Addr × Nat), v = .tuple #[.slice y.1 (lst x l2).length y.2, .int .i64 (j2 : Int), .int .i64 0] ∧ True | 5 => ∃ (y : Option Addr × Nat), v = .slice y.1 (lst x l2).length y.2 ∧ True | 6 => v = .int .i64 (j2 : Int) | 7 => v = .int .i64 0 | 8 => ∃ (y : Option Addr × Nat), v = .slice y.1 (lst x l2).length y.2 ∧ True | 9 => v = .int .i64 (j2 : Int) | _ => True) (fun A B => Below A.heap.size A B) (fun _ _ => True) (by kernel_rfl) (by kernel_rfl) ?_ (fun h k => h.trans (k.mono h.size)) ⟨rfl, rfl, rfl, Nat.le_refl _, fun _ _ => rfl⟩ trivial (by kernel_rfl) ?_ ?_
  · intro i v W1 W2 hb h
    match i, h with
    | 0, h => exact h
    | 1, h =>
      obtain ⟨y, rfl, h1⟩ := h
      exact ⟨_, rfl, h1.at_ hb⟩
    | 2, h => exact h
    | 3, h =>
      obtain ⟨y, rfl, h1⟩ := h
      exact ⟨_, rfl, trivial⟩
    | 4, h =>
      obtain ⟨y, rfl, h1⟩ := h
      exact ⟨_, rfl, trivial⟩
    | 5, h =>
      obtain ⟨y, rfl, h1⟩ := h
      exact ⟨_, rfl, trivial⟩
    | 6, h => exact h
    | 7, h => exact h
    | 8, h =>
      obtain ⟨y, rfl, h1⟩ := h
      exact ⟨_, rfl, trivial⟩
    | 9, h => exact h
    | i + 10, h => trivial
  · refine ⟨?_, ?_, ?_, ?_, ?_, ?_, ?_, ?_, ?_, ?_, trivial⟩
    · -- 0
      intro li a1 W2 hA K hK
      have e9 := hA.par 9 (by kernel_rfl)
      obtain ⟨q1, q2, q3, q4⟩ := (XB29.out.keep hA.st).c4
      refine opStep none 0 rfl rfl (fun c hc => by cases hc) ?_
      go_simp
      exact hK _ _ rfl (Below.refl _ _) trivial
    · -- 1
      intro li a1 W2 hA K hK
      have e74 : a1.tmps.getD 74 undef = .agg #[.slice A x.old.length c, .int .i64 x.nw, .slice A2 x.ss.length c2, .slice (some ⟨g6, 0, none⟩) x.js.length cap6] := hA.val 0 74 (by kernel_rfl) (by kernel_rfl)
      refine opStep none 0 rfl rfl (fun c hc => by cases hc) ?_
      go_simp
      refine (map_thin (HXA.out.at_ (BY29.out.trans (hA.st.mono BY29.out.size))) HXT.out).mono ?_
      rintro e W3 ⟨P, Q, R, rfl, hy, hb3⟩
      exact hK _ _ ⟨(P, Q, R), rfl, hy⟩ hb3 trivial
    · -- 2
      intro li a1 W2 hA K hK
      have e10 := hA.par 10 (by kernel_rfl)
      obtain ⟨q1, q2⟩ := (LB29.out.keep hA.st).c2
      refine opStep none 0 rfl rfl (fun c hc => by cases hc) ?_
      go_simp
      exact hK _ _ rfl (Below.refl _ _) trivial
    · -- 3
      intro li a1 W2 hA K hK
      obtain ⟨y75, e75, h75⟩ := hA.val 1 75 (by kernel_rfl) (by kernel_rfl)
      have e76 : a1.tmps.getD 76 undef = .agg #[.int .i64 lo, .int .i64 hi] := hA.val 2 76 (by kernel_rfl) (by kernel_rfl)
      refine opStep none 0 rfl rfl (fun c hc => by cases hc) ?_
      go_simp
      refine (best_yes h75 HEX.out HB2b.out).mono ?_
      rintro e W3 ⟨y, rfl, hy, hb3⟩
      exact hK _ _ ⟨y, rfl, trivial⟩ hb3 trivial
    · -- 4
      intro li a1 W2 hA K hK
      obtain ⟨y77, e77, h77⟩ := hA.val 3 77 (by kernel_rfl) (by kernel_rfl)
      refine opStep none 0 rfl rfl (fun c hc => by cases hc) ?_
      go_simp
      exact hK _ _ ⟨_, rfl, h77⟩ (Below.refl _ _) trivial
    · -- 5
      intro li a1 W2 hA K hK
      obtain ⟨y73, e73, h73⟩ := hA.val 4 73 (by kernel_rfl) (by kernel_rfl)
      refine opStep none 0 rfl rfl (fun c hc => by cases hc) ?_
      go_simp
      exact hK _ _ ⟨_, rfl, h73⟩ (Below.refl _ _) trivial
    · -- 6
      intro li a1 W2 hA K hK
      obtain ⟨y73, e73, h73⟩ := hA.val 4 73 (by kernel_rfl) (by kernel_rfl)
      refine opStep none 0 rfl rfl (fun c hc => by cases hc) ?_
      go_simp
      exact hK _ _ rfl (Below.refl _ _) trivial
    · -- 7
      intro li a1 W2 hA K hK
      obtain ⟨y73, e73, h73⟩ := hA.val 4 73 (by kernel_rfl) (by kernel_rfl)
      refine opStep none 0 rfl rfl (fun c hc => by cases hc) ?_
      go_simp
      exact hK _ _ rfl (Below.refl _ _) trivial
    · -- 8
      intro li a1 W2 hA K hK
      obtain ⟨y78, e78, h78⟩ := hA.val 5 78 (by kernel_rfl) (by kernel_rfl)
      refine opStep none 0 rfl rfl (fun c hc => by cases hc) ?_
      go_simp
      exact hK _ _ ⟨_, rfl, h78⟩ (Below.refl _ _) trivial
    · -- 9
      intro li a1 W2 hA K hK
      have e79 : a1.tmps.getD 79 undef = .int .i64 (j2 : Int) := hA.val 6 79 (by kernel_rfl) (by kernel_rfl)
      refine opStep none 0 rfl rfl (fun c hc => by cases hc) ?_
      go_simp
      exact hK _ _ rfl (Below.refl _ _) trivial
  intro li a1 W2 hD
  obtain ⟨y18, e18, h18⟩ := hD.val 8 18 (by kernel_rfl) (by kernel_rfl)
  have e19 : a1.tmps.getD 19 undef = .int .i64 (j2 : Int) := hD.val 9 19 (by kernel_rfl) (by kernel_rfl)
  have e80 : a1.tmps.getD 80 undef = .int .i64 0 := hD.val 7 80 (by kernel_rfl) (by kernel_rfl)
  have hkp2 := hD.keeps (ds := [74, 75, 76, 77, 73, 78, 79, 80, 18, 19, 20]) (by kernel_rfl)
  have hds := hD.size
  have hsz9 : a1.tmps.size = 127 := hD.size
  have hdd := hD.defers
  have hst := hD.st
  refine tail_val (i := 10) (v := .int .i64 0) (W' := W2) none 0 rfl rfl rfl (fun c hc => by cases hc) (by go_simp) (by rw [hsz9]; decide) ?_
  intro a3 s3 d3 f3 o3
  have hkp3 := keeps_then hkp2 o3 (by decide)
  have e := act_mix [74, 75, 76, 77, 73, 78, 79, 80, 18, 19, 20] (s3.trans (hds)) (d3.trans (hdd)) (fun i _ hc => hkp3 i hc)
  have hgg0 : (fun i => a3.tmps.getD i undef) 20 = .int .i64 0 := f3
  have hgk18 : (fun i => a3.tmps.getD i undef) 18 = .slice y18.1 (lst x l2).length y18.2 := (o3 18 (by decide)).trans (e18)
  have hgk19 : (fun i => a3.tmps.getD i undef) 19 = .int .i64 (j2 : Int) := (o3 19 (by decide)).trans (e19)
  generalize (fun i => a3.tmps.getD i undef) = g' at e hgg0 hgk18 hgk19
  refine wpListIn_nil ?_
  rw [e]
  clear e hD hkp2 hkp3 hds hdd hsz9 s3 d3 f3 o3 e80 h18 e18 e19
  simp only [mix, List.contains_cons, List.contains_nil, Nat.reduceAdd, Nat.reduceBEq, Bool.or_false, Bool.or_true, cond_true, cond_false, hgg0, hgk18, hgk19]
  clear hgg0 hgk18 hgk19
  have hb := hst
  clear hst
  have HB30 := hid (HB29.out.trans (hb.mono HB29.out.size))
  have HT30 := hid (HT29.out.keep hb)
  have BY30 := hid (BY29.out.trans (hb.mono BY29.out.size))
  have XB30 := hid (XB29.out.keep hb)
  have LB30 := hid (LB29.out.keep hb)
  have YA_30 := hid (YA_29.out.at_ hb)
  have YB_30 := hid (YB_29.out.at_ hb)
  clear hb
  generalize W2 = w30 at *
  obtain ⟨t0, t1, t2, t3⟩ := HT30.out.c4
  obtain ⟨x0, x1, x2, x3⟩ := XB30.out.c4
  obtain ⟨l0, l1⟩ := LB30.out.c2
  have hna := apTo_len m m.nw.toNat
  have hnb := apTo_len x x.nw.toNat
  have hn4z := HN4.out
  obtain ⟨La, hLa⟩ : ∃ l, apL m = l := ⟨_, rfl⟩
  obtain ⟨Lb, hLb⟩ : ∃ l, apL x = l := ⟨_, rfl⟩
  have HSUB := hid (show ∀ v, v ∈ Lb → v ∈ La from fun v hv => by rw [← hLa]; rw [← hLb, ← HXE.out] at hv; exact join_apart hv)
  have hla : La.length ≤ 4 := by rw [← hLa]; unfold apL; omega
  have hxn9 : x.nw = m.nw := by rw [← HXE.out]; rfl
  rw [hxn9] at hnb
  have hlb : Lb.length ≤ 4 := by rw [← hLb]; unfold apL; rw [hxn9]; omega
  clear hxn9
  have HYA9 := hid (show IntsAt (A11, c11) La w30 by rw [← hLa]; exact YA_30.out)
  have HYB9 := hid (show IntsAt (A13, c13) Lb w30 by rw [← hLb]; exact YB_30.out)
  rw [hLa, hLb]
  clear hna hnb hLa hLb
  go_wp2
  clear t0 t1 t2 t3 x0 x1 x2 x3 l0 l1
  go_loopw [21] (fun i W => ∃ k : Nat, k ≤ Lb.length ∧ i = .int .i64 k ∧ Below w30.heap.size w30 W) (fun i _ => Lb.length - (intOf i).toNat)
  case atStart => exact ⟨0, Nat.zero_le _, rfl, Below.refl _ _⟩
  case round =>
    obtain ⟨k, hk, rfl, hbr⟩ := hrel
    have HR := hid hbr
    clear hbr
    by_cases hlt : k < Lb.length
    · have hkI : (k : Int) < (Lb.length : Int) := by omega
      obtain ⟨v, hv⟩ : ∃ v, Lb[k]? = some v := ⟨_, List.getElem?_eq_getElem hlt⟩
      have HIN := hid (HSUB.out v (List.mem_of_getElem? hv))
      obtain ⟨b13, e13, _, fb⟩ := (HYB9.out.at_ HR.out).1 k v hv
      replace e13 : A13 = some b13 := e13
      subst e13
      have HFB := hid fb
      clear fb hv
      go_wp2
      generalize wr = wk at *
      go_loopw [22, 23] (fun u i W => ∃ j : Nat, j ≤ La.length ∧ i = .int .i64 j ∧ u = .bool ((La.take j).contains v) ∧ Below wk.heap.size wk W) (fun _ i _ => La.length - (intOf i).toNat)
      case atStart => exact ⟨0, Nat.zero_le _, rfl, rfl, Below.refl _ _⟩
      case round =>
        obtain ⟨j, hj, rfl, rfl, hbr⟩ := hrel
        have HRJ := hid hbr
        have HBJ := hid (HR.out.trans (hbr.mono HR.out.size))
        clear hbr
        by_cases hlj : j < La.length
        · have hjI : (j : Int) < (La.length : Int) := by omega
          obtain ⟨u, hu⟩ : ∃ u, La[j]? = some u := ⟨_, List.getElem?_eq_getElem hlj⟩
          have HST := hid (take_has (v := v) hu)
          obtain ⟨a11, e11, _, fa⟩ := (HYA9.out.at_ HBJ.out).1 j u hu
          replace e11 : A11 = some a11 := e11
          subst e11
          have fb := (HRJ.out.cell (World.block_lt_of_cell? _ _ HFB.out)).trans HFB.out
          clear hu
          cases hh : (La.take j).contains v
          · have HHH := hid hh
            clear hh
            go_wp2
            have s1 := xt_cell fa
            have s2 := xt_cell fb
            clear fa fb
            refine wp_region_quiet_xt (by kernel_rfl) (by kernel_rfl) ?_
            repeat (go_big_quiet_step (fail))
            refine wpQuiet_nil ?_
            intro W3 hw3
            replace hw3 := of_xt hw3
            have HNZ := hid (HRJ.out.trans (hw3.mono HRJ.out.size))
            clear hw3 s1 s2 HRJ HBJ
            go_wp2
            go_roundw
            case rel => exact ⟨j + 1, by omega, by go_num, by rw [HST.out, HHH.out]; first | rfl | (rw [Bool.false_or, Bool.beq_comm]) | (simp [eq_comm]), HNZ.out⟩
            case measure => first | (simp [intOf]; done) | (simp [intOf]; omega)
          · have HHH := hid hh
            clear hh fa fb
            go_wp2
            refine wp_region_quiet_xt (by kernel_rfl) (by kernel_rfl) ?_
            repeat (go_big_quiet_step (fail))
            refine wpQuiet_nil ?_
            intro W3 hw3
            replace hw3 := of_xt hw3
            have HNZ := hid (HRJ.out.trans (hw3.mono HRJ.out.size))
            clear hw3 HRJ HBJ
            go_wp2
            go_roundw
            case rel => exact ⟨j + 1, by omega, by go_num, by rw [HST.out, HHH.out]; rfl, HNZ.out⟩
            case measure => first | (simp [intOf]; done) | (simp [intOf]; omega)
        · have hjI : decide ((j : Int) < (La.length : Int)) = false := by simp; omega
          obtain rfl : j = La.length := by omega
          have HHH := hid (show (La.take La.length).contains v = true by rw [List.take_length]; exact List.contains_iff_mem.2 HIN.out)
          rw [HHH.out]
          have HNZ := hid HBJ.out
          clear HRJ HBJ HR
          go_wp2
          go_roundw
          case rel => exact ⟨k + 1, by omega, by go_num, HNZ.out⟩
          case measure => first | (simp [intOf]; done) | (simp [intOf]; omega)
    · have hkI : decide ((k : Int) < (Lb.length : Int)) = false := by simp; omega
      have HBR := hid (HB30.out.trans (HR.out.mono HB30.out.size))
      have HTR := hid (HT30.out.keep HR.out)
      obtain ⟨t0, t1, t2, t3⟩ := HTR.out.c4
      have K91 := hid (awake_any wr)
      go_wp2_with fail
      refine K91.out.mono ?_
      rintro e w91 ⟨rfl, hb⟩
      have HB91 := hid (HBR.out.trans (hb.mono HBR.out.size))
      have HT91 := hid (HTR.out.keep hb)
      clear hb K91 t0 t1 t2 t3
      obtain ⟨t0, t1, t2, t3⟩ := HT91.out.c4
      clear t0 t1 t2 t3
      go_wp2
      go_ret
      exact ⟨rfl, HB91.out⟩

theorem joined_any9 (m : MapD) (A : Option Addr) (c : Nat) (A2 : Option Addr) (c2 : Nat) (A3 : Option Addr) (c3 : Nat) (ja jb p q : Int) (w : World) (h : MArg m A c A2 c2 A3 c3 w) (hw16 : m.js.length * 16 ≤ 140737488351232) (hp0 : 0 ≤ p) (hp1 : p ≤ 65535) (hq0 : 0 ≤ q) (hq1 : q ≤ 65535) :
    Calls Try.prog 9 #[.agg #[.slice A m.old.length c, .int .i64 m.nw, .slice A2 m.ss.length c2, .slice A3 m.js.length c3], .agg #[.int .i64 ja, .int .i64 jb], .int .u16 p, .int .u16 q] w fun e w' => e = .returned (.bool true) ∧ Below w.heap.size w w' := by
  cases hr : readyM m
  · exact joi_not m A c A2 c2 A3 c3 ja jb p q w h hw16 hp0 hp1 hq0 hq1 hr
  · cases hx : readyM (joinM m ⟨ja, jb⟩)
    · exact joi_bad m A c A2 c2 A3 c3 ja jb p q w h hw16 hp0 hp1 hq0 hq1 hr hx
    · cases hbb : bestB m (p % 2000) (min 40000 (p % 2000 + q)) with
      | none => exact joi_none m A c A2 c2 A3 c3 ja jb p q w h hw16 hp0 hp1 hq0 hq1 hr hx hbb
      | some z => exact joi_some m A c A2 c2 A3 c3 ja jb p q w h hw16 hp0 hp1 hq0 hq1 hr hx z.1 z.2 hbb

open Go.ChangeShapes Go.WideShapes Go.ChangeAt in
set_option maxRecDepth 100000 in
theorem joineds_lifted (os : Os) (started : os.Started) (H : Type) (enc : TypeId × Value → H) :
    ReturnsInHanded {} Try.checked os 9 .any (Rows.borderJoinedSpec.pre6 enc Try.prog Try.f9 Rows.borderJoinedRow.domain false) (Rows.borderJoinedSpec.post enc Try.prog Try.f9 false true false false) := by
  refine returnsInHanded_of_change_sized (C := Try.checked) own started (by kernel_rfl) Try.func9
    (ChangeSpec.witness6 (enc := enc) (C := Try.checked) false ⟨#[], #[.agg #[.slice none 0 0, .int .i64 0, .slice none 0 0, .slice none 0 0], .agg #[.int .i64 0, .int .i64 0], .int .u16 0, .int .u16 0], []⟩ 8 (by kernel_rfl) (by kernel_rfl) (by kernel_rfl) (by kernel_rfl)) ?_
  intro W base args ds gs before hval0 hW hcnd hsz0 _
  have hval : ∀ (j : Nat) t v, Try.f9.params[j]? = some t → args[j]? = some v → Value.okWide Try.prog W .any base t v := hval0
  have hW' := hW
  have hsz : (DataW.weightsEach Try.prog (Try.f9.params.toList ++ Rows.borderJoinedSpec.plain.varTypes Try.prog) (ds ++ gs)).all (· ≤ reachBytes) = true := hsz0
  clear hsz0
  obtain ⟨p, q, hA0, hV, rfl, hfz, hnd⟩ := hW
  have hA : DataW.TrodAll enc Try.prog W 0 (fun _ => true) true Try.f9.params.toList args.toList ds p := hA0
  rw [Try.params9] at hA hval hsz
  obtain ⟨v0, vs0, d0, ds0, p0, q0, hargs, rfl, rfl, h0, r0⟩ := trodAll_cons hA
  obtain ⟨v1, vs1, d1, ds1, p1, q1, rfl, rfl, rfl, h1, r1⟩ := trodAll_cons r0
  obtain ⟨v2, vs2, d2, ds2, p2, q2, rfl, rfl, rfl, h2, r2⟩ := trodAll_cons r1
  obtain ⟨v3, vs3, d3, ds3, p3, q3, rfl, rfl, rfl, h3, r3⟩ := trodAll_cons r2
  obtain ⟨rfl, rfl, rfl⟩ := trodAll_nil r3
  obtain rfl : args = #[v0, v1, v2, v3] := by cases args; simp_all
  obtain ⟨rfl, rfl⟩ := trodVars_none hV
  have hwt : (d0.weights Try.prog 26).all (· ≤ reachBytes) = true := by
    simp only [List.cons_append, List.nil_append, DataW.weightsEach, List.all_append, Bool.and_eq_true] at hsz
    exact hsz.1
  obtain ⟨m, A, c, A2, c2, A3, c3, rfl, ht, hs⟩ := open_map_w (hval 0 26 v0 rfl rfl) h0 hwt
  obtain ⟨ja, jb, rfl⟩ := open_join (hval 1 63 v1 rfl rfl) h1
  obtain ⟨p9, rfl, rfl, rfl, wk2⟩ := open_int Try.underlying52 (hval 2 52 v2 rfl rfl) h2
  have hbp9 : 0 ≤ p9 ∧ p9 ≤ 65535 := by
    have h : decide (IntKind.u16.min ≤ p9) = true ∧ decide (p9 ≤ IntKind.u16.max) = true := by simpa [Lit.wf] using wk2
    have h2 := of_decide_eq_true h.1
    have h3 := of_decide_eq_true h.2
    have e1 : IntKind.u16.min = 0 := by decide
    have e2 : IntKind.u16.max = 65535 := by decide
    omega
  obtain ⟨q9, rfl, rfl, rfl, wk3⟩ := open_int Try.underlying52 (hval 3 52 v3 rfl rfl) h3
  have hbq9 : 0 ≤ q9 ∧ q9 ≤ 65535 := by
    have h : decide (IntKind.u16.min ≤ q9) = true ∧ decide (q9 ≤ IntKind.u16.max) = true := by simpa [Lit.wf] using wk3
    have h2 := of_decide_eq_true h.1
    have h3 := of_decide_eq_true h.2
    have e1 : IntKind.u16.min = 0 := by decide
    have e2 : IntKind.u16.max = 65535 := by decide
    omega
  refine (joined_any9 m A c A2 c2 A3 c3 ja jb p9 q9 W ht hs hbp9.1 hbp9.2 hbq9.1 hbq9.2).mono fun e W' ⟨he, hb⟩ => ⟨_, he, ?_⟩
  exact law_post laid_out rfl rfl (by kernel_rfl) hW' rfl hb

theorem joineds_over : Rows.borderJoinedRow.holds Try.pinned (OpenSpec.ofChange Rows.borderJoinedSpec) :=
  OpenClaim.holds_of_wide 9 Try.f9 rfl rfl rfl rfl rfl rfl rfl ⟨rfl, rfl, rfl, rfl, rfl⟩ rfl rfl rfl rfl rfl (by kernel_rfl) Try.func9 (by kernel_rfl)
    (of_decide_eq_true (by kernel_rfl)) (by unfold Func.isWrapper; first | (rw [if_pos (by decide +kernel)]; kernel_rfl) | (rw [if_neg (by decide +kernel)]; exact ⟨rfl, rfl⟩))
    (fun os started H enc _ => joineds_lifted os started H enc)
/-- the statement -/
theorem border_joined : Rows.BorderJoinedSaid := joineds_over
#print axioms border_joined
end Go.Proofs.Ytoeabajigfdkaaa
