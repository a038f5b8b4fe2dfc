/- The walks and the plain laws of this part of the program, part 15: what each computes. Conditions stand at each theorem. -/
import Derived.Deep.Cut
import Derived.Handy
import Derived.DeepKeys3
import Derived.Deep.Upon
import Derived.Test.YtlnamjhgbdacbaaGreatG4
import Derived.Test.YtlnamjhgbdacbaaGreatG5
import Derived.Test.YtlnamjhgbdacbaaGreatG9
import Derived.Test.YtlnamjhgbdacbaaGreatG12
import Derived.Test.YtlnamjhgbdacbaaGreatG14
/- The atlas of a map with one place and no road, walked. Conditions stand at each theorem. -/
namespace Go.Proofs.YtlnamjhgbdacbaaGreat
open Go.RowKit Go.Shelf

attribute [local go_sem] Oper.semAt_some
/-- the atlas, while it is being made -/
structure AtOne (W : World) (g mp : Nat) (A : Option Addr) (c : Nat) (t f : Value) : Prop where
  blk : ∃ cs : Array Value, Blk W g 127 cs ∧ cs.size = 131 ∧ cs[0]? = some (.slice A 1 c) ∧ cs[1]? = some (.slice none 0 0) ∧ cs[2]? = some t ∧ cs[66]? = some f ∧ cs[130]? = some (.map (some mp))
theorem AtOne.lt {W : World} {g mp : Nat} {A : Option Addr} {c : Nat} {t f : Value} (h : AtOne W g mp A c t f) : g < W.heap.size := by
  obtain ⟨cs, hb, _⟩ := h.blk
  exact hb.lt
theorem AtOne.cells {W : World} {g mp : Nat} {A : Option Addr} {c : Nat} {t f : Value} (h : AtOne W g mp A c t f) :
    W.cell? ⟨g, 0, none⟩ = some (.slice A 1 c) ∧ W.cell? ⟨g, 1, none⟩ = some (.slice none 0 0) ∧ W.cell? ⟨g, 2, none⟩ = some t ∧ W.cell? ⟨g, 66, none⟩ = some f ∧ W.cell? ⟨g, 130, none⟩ = some (.map (some mp)) := by
  obtain ⟨cs, hb, h0, h1, h2, h3, h4, h5⟩ := h.blk
  exact ⟨(hb.cell 0).trans h1, (hb.cell 1).trans h2, (hb.cell 2).trans h3, (hb.cell 66).trans h4, (hb.cell 130).trans h5⟩
theorem AtOne.froz {W : World} {g mp : Nat} {A : Option Addr} {c : Nat} {t f : Value} (h : AtOne W g mp A c t f) (i : Nat) : W.frozen? ⟨g, i, none⟩ = false := by
  obtain ⟨cs, hb, _⟩ := h.blk
  exact hb.frozen i
theorem AtOne.keep {W W' : World} {g mp : Nat} {A : Option Addr} {c : Nat} {t f : Value} (h : AtOne W g mp A c t f) (hb : Below W.heap.size W W') : AtOne W' g mp A c t f := by
  obtain ⟨cs, hc, hr⟩ := h.blk
  exact ⟨cs, hc.keep hb, hr⟩
theorem AtOne.set2 {W : World} {g mp : Nat} {A : Option Addr} {c : Nat} {t f : Value} (h : AtOne W g mp A c t f) (u : Value) : AtOne (W.setCell ⟨g, 2, none⟩ u) g mp A c u f := by
  obtain ⟨cs, hc, h0, h1, h2, h3, h4, h5⟩ := h.blk
  refine ⟨cs.setIfInBounds 2 u, hc.set_ 2 u, by simp [h0], ?_, ?_, ?_, ?_, ?_⟩
  · rw [Array.getElem?_setIfInBounds_ne (by decide)]; exact h1
  · rw [Array.getElem?_setIfInBounds_ne (by decide)]; exact h2
  · rw [Array.getElem?_setIfInBounds_self_of_lt (by omega)]
  · rw [Array.getElem?_setIfInBounds_ne (by decide)]; exact h4
  · rw [Array.getElem?_setIfInBounds_ne (by decide)]; exact h5
theorem AtOne.set66 {W : World} {g mp : Nat} {A : Option Addr} {c : Nat} {t f : Value} (h : AtOne W g mp A c t f) (u : Value) : AtOne (W.setCell ⟨g, 66, none⟩ u) g mp A c t u := by
  obtain ⟨cs, hc, h0, h1, h2, h3, h4, h5⟩ := h.blk
  refine ⟨cs.setIfInBounds 66 u, hc.set_ 66 u, by simp [h0], ?_, ?_, ?_, ?_, ?_⟩
  · rw [Array.getElem?_setIfInBounds_ne (by decide)]; exact h1
  · rw [Array.getElem?_setIfInBounds_ne (by decide)]; exact h2
  · rw [Array.getElem?_setIfInBounds_ne (by decide)]; exact h3
  · rw [Array.getElem?_setIfInBounds_self_of_lt (by omega)]
  · rw [Array.getElem?_setIfInBounds_ne (by decide)]; exact h5
theorem AtOne.far {W : World} {g mp : Nat} {A : Option Addr} {c : Nat} {t f : Value} (h : AtOne W g mp A c t f) {p : Addr} (hp : g ≠ p.block) (u : Value) : AtOne (W.setCell p u) g mp A c t f := by
  obtain ⟨cs, hc, hr⟩ := h.blk
  exact ⟨cs, hc.far hp u, hr⟩
theorem blk_three {w : World} {o1 o2 o3 : Obj} (t : TypeId) (cs : Array Value) : Blk ((((w.alloc o1).alloc o2).alloc o3).alloc (.cells cs t)) (w.heap.size + 3) t cs := by
  have h := Blk.new (((w.alloc o1).alloc o2).alloc o3) t cs
  rw [World.size_alloc, World.size_alloc, World.size_alloc] at h
  exact h
/-- what the walk of the atlas carries along: n the first block of its own -/
structure AtS (w : World) (n : Nat) (A : Option Addr) (c : Nat) (t f : Value) (W : World) : Prop where
  below : Below n w W
  bm : Blk W n 65 #[.slice A 1 c, .slice none 0 0]
  mp : W.heap[n + 1]? = some (.map #[] 0)
  at_ : AtOne W (n + 2) (n + 1) A c t f
  pa : Blk W (n + 3) 107 #[.pointer (some ⟨n + 2, 0, none⟩)]
theorem AtS.keep {w : World} {n : Nat} {A : Option Addr} {c : Nat} {t f : Value} {W W' : World} (h : AtS w n A c t f W) (hb : Below W.heap.size W W') : AtS w n A c t f W' :=
  ⟨h.below.trans (hb.mono (by have := h.bm.lt; omega)), h.bm.keep hb, (hb.block _ (Array.getElem?_eq_some_iff.1 h.mp).1).trans h.mp, h.at_.keep hb, h.pa.keep hb⟩
theorem AtS.upto {w : World} {n : Nat} {A : Option Addr} {c : Nat} {t f : Value} {W W' : World} (h : AtS w n A c t f W) (hb : Below (n + 4) W W') : AtS w n A c t f W' :=
  ⟨h.below.trans (hb.mono (by omega)), h.bm.below hb (by omega), (hb.block _ (by omega)).trans h.mp, (by obtain ⟨cs, hc, hr⟩ := h.at_.blk; exact ⟨cs, hc.below hb (by omega), hr⟩), h.pa.below hb (by omega)⟩
theorem AtS.drew {w : World} {n : Nat} {A : Option Addr} {c : Nat} {t f : Value} {W : World} (h : AtS w n A c t f W) : AtS w n A c t f W.drew := h.keep ⟨rfl, rfl, rfl, Nat.le_refl _, fun _ _ => rfl⟩
theorem AtS.far {w : World} {n : Nat} {A : Option Addr} {c : Nat} {t f : Value} {W : World} (h : AtS w n A c t f W) {p : Addr} (hp : n + 4 ≤ p.block) (u : Value) : AtS w n A c t f (W.setCell p u) :=
  ⟨h.below.setCell (by omega) u, h.bm.far (by omega) u, (Below.heap_setCell W p u _ (by omega)).trans h.mp, h.at_.far (by omega) u, h.pa.far (by omega) u⟩
theorem AtS.set2 {w : World} {n : Nat} {A : Option Addr} {c : Nat} {t f : Value} {W : World} (h : AtS w n A c t f W) (u : Value) : AtS w n A c u f (W.setCell ⟨n + 2, 2, none⟩ u) :=
  ⟨h.below.setCell (p := ⟨n + 2, 2, none⟩) (by show n ≤ n + 2; omega) u, h.bm.far (p := ⟨n + 2, 2, none⟩) (by show n ≠ n + 2; omega) u, (Below.heap_setCell W ⟨n + 2, 2, none⟩ u _ (by show n + 1 ≠ n + 2; omega)).trans h.mp, h.at_.set2 u, h.pa.far (p := ⟨n + 2, 2, none⟩) (by show n + 3 ≠ n + 2; omega) u⟩
theorem AtS.set66 {w : World} {n : Nat} {A : Option Addr} {c : Nat} {t f : Value} {W : World} (h : AtS w n A c t f W) (u : Value) : AtS w n A c t u (W.setCell ⟨n + 2, 66, none⟩ u) :=
  ⟨h.below.setCell (p := ⟨n + 2, 66, none⟩) (by show n ≤ n + 2; omega) u, h.bm.far (p := ⟨n + 2, 66, none⟩) (by show n ≠ n + 2; omega) u, (Below.heap_setCell W ⟨n + 2, 66, none⟩ u _ (by show n + 1 ≠ n + 2; omega)).trans h.mp, h.at_.set66 u, h.pa.far (p := ⟨n + 2, 66, none⟩) (by show n + 3 ≠ n + 2; omega) u⟩

structure Ph11 (w : World) (A : Option Addr) (c y : Nat) (li : Array Bool) (W : World) : Prop where
  at_ : AtS w w.heap.size A c (.int .i64 (if li.getD 11 false = true then 0 else 1048576)) (.int .i64 0) W
  gl : Blk W y 3 #[.int .i64 0]
  st : Blk W (y + 1) 162 (Array.replicate 8 (.bool false))
theorem Ph11.other {w : World} {A : Option Addr} {c y i : Nat} {li : Array Bool} {W : World} (h : Ph11 w A c y li W) (hi : i ≠ 11) : Ph11 w A c y (li.setIfInBounds i true) W :=
  ⟨by rw [getD_set_oth hi]; exact h.at_, h.gl, h.st⟩
set_option maxRecDepth 100000 in
set_option maxHeartbeats 4000000 in
theorem watlas_one (A : Option Addr) (c : Nat) (w : World) : Calls Tryz.prog 43 #[.agg #[.slice A 1 c, .slice none 0 0]] w fun e w' => e = .returned (.pointer (some ⟨w.heap.size + 2, 0, none⟩)) ∧ AtS w w.heap.size A c (.int .i64 0) (.int .i64 0) w' := by
  have hB := below_box (w := w) #[.slice A 1 c, .slice none 0 0] 65
  have hT := Blk.new w 65 #[.slice A 1 c, .slice none 0 0]
  obtain ⟨t0, t1⟩ := hT.c2
  have HB := hid hB
  have HT := hid hT
  clear hB hT
  refine callsOf (ro := none) (n := 0) ?_
  refine callsIn_of_wp_marks Tryz.func43 rfl trivial ?_ rfl
  refine wpIn_wide.2 ?_
  simp only [Tryz.ntmps43, List.size_toArray, List.length_cons, List.length_nil, Nat.reduceAdd, Nat.reduceSub, Array.replicate_succ, Array.replicate_zero, List.push_toArray, List.append_toArray, List.nil_append, List.cons_append]
  have hmm := @run_makeMap Tryz.prog
  go_upto_region 2 with (fail)
  clear t0 t1 hmm
  refine gen (p := Code.wp _ _ _ _) (fun W => AtS w w.heap.size A c (.int .i64 0) (.int .i64 0) W) ⟨((HB.out.alloc HB.out.size _).alloc (by simp; omega) _).alloc (by simp; omega) _, ((HT.out.alloc _).alloc _).alloc _, ?_, ⟨_, (by rw [show w.heap.size + 2 = (((w.alloc (.cells #[.slice A 1 c, .slice none 0 0] 65)).alloc (.map #[] 0))).heap.size by simp]; exact (Blk.new _ _ _).alloc _), rfl, rfl, rfl, rfl, rfl, rfl⟩, ?_⟩ ?_
  · exact (Below.heap_alloc _ _ _ (by simp)).trans ((Below.heap_alloc _ _ _ (by simp)).trans (by have := World.alloc_heap_new (w.alloc (.cells #[.slice A 1 c, .slice none 0 0] 65)) (.map #[] 0); rwa [World.size_alloc] at this))
  · exact blk_three _ _
  rintro W1 h1
  have H1 := hid h1
  obtain ⟨t0, t1⟩ := h1.bm.c2
  have x0 := h1.pa.c1
  have pl := h1.pa.lt
  clear h1
  go_wp2
  refine wp_loop_rounds 2 ?_
  rw [rounds_succ]
  go_upto_region 6 with (fail)
  clear t0 t1 x0
  refine gen (p := Code.wp _ _ _ _) (fun W => AtS w w.heap.size A c (.int .i64 0) (.int .i64 0) W ∧ Blk W W1.heap.size 3 #[.int .i64 0] ∧ Blk W (W1.heap.size + 1) 162 (Array.replicate 8 (.bool false))) ⟨H1.out.keep (((Below.refl _ _).alloc (Nat.le_refl _) _).alloc (by simp) _), (Blk.new _ _ _).alloc _, by have h := Blk.new (W1.alloc (.cells #[.int .i64 0] 3)) 162 (Array.replicate 8 (.bool false)); rw [World.size_alloc] at h; exact h⟩ ?_
  rintro W2 ⟨h1, h2, h3⟩
  have H2 := hid h1
  have H2g := hid h2
  have H2s := hid h3
  obtain ⟨t0, t1⟩ := h1.bm.c2
  have x0 := h1.pa.c1
  have g0 := h2.c1
  obtain ⟨a0, a1, a2, a3, a4⟩ := h1.at_.cells
  have af := h1.at_.froz 2
  have al := h1.at_.lt
  obtain ⟨y, hy⟩ : ∃ y, W1.heap.size = y := ⟨_, rfl⟩
  rw [hy] at pl g0 H2g H2s
  simp only [hy]
  clear h1 h2 h3 hy
  go_wp2
  refine wp_loop_rounds 2 ?_
  rw [rounds_succ]
  go_upto_region 9 with (fail)
  go_region
  go_wp2
  refine gen (p := Code.rounds _ _ _ _ _) (fun W => AtS w w.heap.size A c (.int .i64 1048576) (.int .i64 0) W ∧ Blk W y 3 #[.int .i64 0] ∧ Blk W (y + 1) 162 (Array.replicate 8 (.bool false))) ?_ ?_
  · have hy2 := H2g.out.lt
    exact ⟨(H2.out.set2 _).drew, (H2g.out.far (by show y ≠ w.heap.size + 2; omega) _).drew, (H2s.out.far (by show y + 1 ≠ w.heap.size + 2; omega) _).drew⟩
  clear H2 H2g H2s t0 t1 x0 g0 a0 a1 a2 a3 a4 af al
  rintro W3 ⟨h1, h2, h3⟩
  have H3 := hid h1
  have H3g := hid h2
  have H3s := hid h3
  obtain ⟨t0, t1⟩ := h1.bm.c2
  have x0 := h1.pa.c1
  have g0 := h2.c1
  obtain ⟨a0, a1, a2, a3, a4⟩ := h1.at_.cells
  have af := h1.at_.froz 2
  have af6 := h1.at_.froz 66
  have al := h1.at_.lt
  clear h1 h2 h3
  rw [rounds_succ]
  go_upto_region 11 with (fail)
  have HY := hid (show y ≠ w.heap.size + 2 ∧ y + 1 ≠ w.heap.size + 2 by omega)
  have HG0 := hid (show Ph11 w A c y (Array.replicate 17 false) W3.drew from ⟨by rw [getD_replicate_false, if_neg (by decide)]; exact H3.out.drew, H3g.out.drew, H3s.out.drew⟩)
  clear t0 t1 x0 g0 a0 a1 a2 a3 a4 af af6 al
  refine (wpIn_wide (n := 0)).1 ?_
  refine wpIn_region_each2 16 (fun i v W' => match i with | 0 => v = .pointer (some ⟨w.heap.size + 2, 0, none⟩) | 1 => v = .int .i64 0 | 2 => v = .int .i64 0 | 3 => v = .pointer (some ⟨w.heap.size + 2, 0, none⟩) | 4 => v = .int .i64 0 | 5 => v = .int .i64 0 | 6 => v = .int .i64 0 | 7 => v = .pointer (some ⟨w.heap.size + 2, 0, none⟩) | 8 => v = .pointer (some ⟨w.heap.size + 2, 2, none⟩) | 9 => v = .pointer (some ⟨w.heap.size + 2, 2, none⟩) | 10 => v = .pointer (some ⟨w.heap.size + 2, 2, none⟩) | 12 => v = .pointer (some ⟨w.heap.size + 2, 0, none⟩) | 13 => v = .pointer (some ⟨w.heap.size + 2, 66, none⟩) | 14 => v = .pointer (some ⟨w.heap.size + 2, 66, none⟩) | 15 => v = .pointer (some ⟨w.heap.size + 2, 66, none⟩) | _ => True) (fun _ _ => True) (fun li _ W => Ph11 w A c y li W) (by kernel_rfl) (by kernel_rfl) ?_ (fun _ _ => trivial) trivial HG0.out (by kernel_rfl) ?_ ?_
  · intro i v W1 W2 hb h; exact h
  · refine ⟨?_, ?_, ?_, ?_, ?_, ?_, ?_, ?_, ?_, ?_, ?_, ?_, ?_, ?_, ?_, ?_, trivial⟩
    · -- 0
      intro li a1 W2 hA K hK
      have e3 := hA.par 3 (by kernel_rfl)
      obtain ⟨p1, p2, p3⟩ := hA.ph
      have x0 := p1.pa.c1
      have g0 := p2.c1
      obtain ⟨a0, a1', a2, a3, a4⟩ := p1.at_.cells
      have af := p1.at_.froz 2
      have af6 := p1.at_.froz 66
      have al := p1.at_.lt
      refine opStep none 0 rfl rfl (fun c hc => by cases hc) ?_
      go_simp
      exact hK _ _ rfl trivial (hA.ph.other (by decide))
    · -- 1
      intro li a1 W2 hA K hK
      have e4 := hA.par 4 (by kernel_rfl)
      obtain ⟨p1, p2, p3⟩ := hA.ph
      have x0 := p1.pa.c1
      have g0 := p2.c1
      obtain ⟨a0, a1', a2, a3, a4⟩ := p1.at_.cells
      have af := p1.at_.froz 2
      have af6 := p1.at_.froz 66
      have al := p1.at_.lt
      refine opStep none 0 rfl rfl (fun c hc => by cases hc) ?_
      go_simp
      exact hK _ _ rfl trivial (hA.ph.other (by decide))
    · -- 2
      intro li a1 W2 hA K hK
      have e4 := hA.par 4 (by kernel_rfl)
      obtain ⟨p1, p2, p3⟩ := hA.ph
      have x0 := p1.pa.c1
      have g0 := p2.c1
      obtain ⟨a0, a1', a2, a3, a4⟩ := p1.at_.cells
      have af := p1.at_.froz 2
      have af6 := p1.at_.froz 66
      have al := p1.at_.lt
      refine opStep none 0 rfl rfl (fun c hc => by cases hc) ?_
      go_simp
      exact hK _ _ rfl trivial (hA.ph.other (by decide))
    · -- 3
      intro li a1 W2 hA K hK
      have e3 := hA.par 3 (by kernel_rfl)
      obtain ⟨p1, p2, p3⟩ := hA.ph
      have x0 := p1.pa.c1
      have g0 := p2.c1
      obtain ⟨a0, a1', a2, a3, a4⟩ := p1.at_.cells
      have af := p1.at_.froz 2
      have af6 := p1.at_.froz 66
      have al := p1.at_.lt
      refine opStep none 0 rfl rfl (fun c hc => by cases hc) ?_
      go_simp
      exact hK _ _ rfl trivial (hA.ph.other (by decide))
    · -- 4
      intro li a1 W2 hA K hK
      have e4 := hA.par 4 (by kernel_rfl)
      obtain ⟨p1, p2, p3⟩ := hA.ph
      have x0 := p1.pa.c1
      have g0 := p2.c1
      obtain ⟨a0, a1', a2, a3, a4⟩ := p1.at_.cells
      have af := p1.at_.froz 2
      have af6 := p1.at_.froz 66
      have al := p1.at_.lt
      refine opStep none 0 rfl rfl (fun c hc => by cases hc) ?_
      go_simp
      exact hK _ _ rfl trivial (hA.ph.other (by decide))
    · -- 5
      intro li a1 W2 hA K hK
      have e4 := hA.par 4 (by kernel_rfl)
      obtain ⟨p1, p2, p3⟩ := hA.ph
      have x0 := p1.pa.c1
      have g0 := p2.c1
      obtain ⟨a0, a1', a2, a3, a4⟩ := p1.at_.cells
      have af := p1.at_.froz 2
      have af6 := p1.at_.froz 66
      have al := p1.at_.lt
      refine opStep none 0 rfl rfl (fun c hc => by cases hc) ?_
      go_simp
      exact hK _ _ rfl trivial (hA.ph.other (by decide))
    · -- 6
      intro li a1 W2 hA K hK
      have e4 := hA.par 4 (by kernel_rfl)
      obtain ⟨p1, p2, p3⟩ := hA.ph
      have x0 := p1.pa.c1
      have g0 := p2.c1
      obtain ⟨a0, a1', a2, a3, a4⟩ := p1.at_.cells
      have af := p1.at_.froz 2
      have af6 := p1.at_.froz 66
      have al := p1.at_.lt
      refine opStep none 0 rfl rfl (fun c hc => by cases hc) ?_
      go_simp
      exact hK _ _ rfl trivial (hA.ph.other (by decide))
    · -- 7
      intro li a1 W2 hA K hK
      have e36 : a1.tmps.getD 36 undef = .pointer (some ⟨w.heap.size + 2, 0, none⟩) := hA.val 0 36 (by kernel_rfl) (by kernel_rfl)
      refine opStep none 0 rfl rfl (fun c hc => by cases hc) ?_
      go_simp
      exact hK _ _ rfl trivial (hA.ph.other (by decide))
    · -- 8
      intro li a1 W2 hA K hK
      have e43 : a1.tmps.getD 43 undef = .pointer (some ⟨w.heap.size + 2, 0, none⟩) := hA.val 7 43 (by kernel_rfl) (by kernel_rfl)
      refine opStep none 0 rfl rfl (fun c hc => by cases hc) ?_
      go_simp
      exact hK _ _ rfl trivial (hA.ph.other (by decide))
    · -- 9
      intro li a1 W2 hA K hK
      have e44 : a1.tmps.getD 44 undef = .pointer (some ⟨w.heap.size + 2, 2, none⟩) := hA.val 8 44 (by kernel_rfl) (by kernel_rfl)
      have e37 : a1.tmps.getD 37 undef = .int .i64 0 := hA.val 1 37 (by kernel_rfl) (by kernel_rfl)
      refine opStep none 0 rfl rfl (fun c hc => by cases hc) ?_
      go_simp
      exact hK _ _ rfl trivial (hA.ph.other (by decide))
    · -- 10
      intro li a1 W2 hA K hK
      have e45 : a1.tmps.getD 45 undef = .pointer (some ⟨w.heap.size + 2, 2, none⟩) := hA.val 9 45 (by kernel_rfl) (by kernel_rfl)
      have e38 : a1.tmps.getD 38 undef = .int .i64 0 := hA.val 2 38 (by kernel_rfl) (by kernel_rfl)
      refine opStep none 0 rfl rfl (fun c hc => by cases hc) ?_
      go_simp
      exact hK _ _ rfl trivial (hA.ph.other (by decide))
    · -- 11
      intro li a1 W2 hA K hK
      have e46 : a1.tmps.getD 46 undef = .pointer (some ⟨w.heap.size + 2, 2, none⟩) := hA.val 10 46 (by kernel_rfl) (by kernel_rfl)
      obtain ⟨p1, p2, p3⟩ := hA.ph
      have x0 := p1.pa.c1
      have g0 := p2.c1
      obtain ⟨a0, a1', a2, a3, a4⟩ := p1.at_.cells
      have af := p1.at_.froz 2
      have af6 := p1.at_.froz 66
      have al := p1.at_.lt
      have hy9 := p2.lt
      refine opStep none 0 rfl rfl (fun c hc => by cases hc) ?_
      go_simp
      exact hK undef _ trivial trivial ⟨by rw [getD_set_eq (by rw [hA.lsize]; decide)]; exact p1.set2 _, p2.far (p := ⟨w.heap.size + 2, 2, none⟩) HY.out.1 _, p3.far (p := ⟨w.heap.size + 2, 2, none⟩) HY.out.2 _⟩
    · -- 12
      intro li a1 W2 hA K hK
      have e39 : a1.tmps.getD 39 undef = .pointer (some ⟨w.heap.size + 2, 0, none⟩) := hA.val 3 39 (by kernel_rfl) (by kernel_rfl)
      refine opStep none 0 rfl rfl (fun c hc => by cases hc) ?_
      go_simp
      exact hK _ _ rfl trivial (hA.ph.other (by decide))
    · -- 13
      intro li a1 W2 hA K hK
      have e47 : a1.tmps.getD 47 undef = .pointer (some ⟨w.heap.size + 2, 0, none⟩) := hA.val 12 47 (by kernel_rfl) (by kernel_rfl)
      refine opStep none 0 rfl rfl (fun c hc => by cases hc) ?_
      go_simp
      exact hK _ _ rfl trivial (hA.ph.other (by decide))
    · -- 14
      intro li a1 W2 hA K hK
      have e48 : a1.tmps.getD 48 undef = .pointer (some ⟨w.heap.size + 2, 66, none⟩) := hA.val 13 48 (by kernel_rfl) (by kernel_rfl)
      have e40 : a1.tmps.getD 40 undef = .int .i64 0 := hA.val 4 40 (by kernel_rfl) (by kernel_rfl)
      refine opStep none 0 rfl rfl (fun c hc => by cases hc) ?_
      go_simp
      exact hK _ _ rfl trivial (hA.ph.other (by decide))
    · -- 15
      intro li a1 W2 hA K hK
      have e49 : a1.tmps.getD 49 undef = .pointer (some ⟨w.heap.size + 2, 66, none⟩) := hA.val 14 49 (by kernel_rfl) (by kernel_rfl)
      have e41 : a1.tmps.getD 41 undef = .int .i64 0 := hA.val 5 41 (by kernel_rfl) (by kernel_rfl)
      refine opStep none 0 rfl rfl (fun c hc => by cases hc) ?_
      go_simp
      exact hK _ _ rfl trivial (hA.ph.other (by decide))
  intro li a1 W2 hD
  have e50 : a1.tmps.getD 50 undef = .pointer (some ⟨w.heap.size + 2, 66, none⟩) := hD.val 15 50 (by kernel_rfl) (by kernel_rfl)
  have e42 : a1.tmps.getD 42 undef = .int .i64 0 := hD.val 6 42 (by kernel_rfl) (by kernel_rfl)
  obtain ⟨p1, p2, p3⟩ := hD.ph
  rw [hD.all 11 (by decide), if_pos rfl] at p1
  have x0 := p1.pa.c1
  have af6 := p1.at_.froz 66
  obtain ⟨a0, a1', a2, a3, a4⟩ := p1.at_.cells
  have al := p1.at_.lt
  have hkp2 := hD.keeps (ds := [36, 37, 38, 39, 40, 41, 42, 43, 44, 45, 46, 47, 48, 49, 50]) (by kernel_rfl)
  refine tail_store (i := 16) (W' := W2.setCell ⟨w.heap.size + 2, 66, none⟩ (.int .i64 0)) none 0 rfl rfl rfl (fun c hc => by cases hc) (by go_simp) ?_
  have e := act_mix [36, 37, 38, 39, 40, 41, 42, 43, 44, 45, 46, 47, 48, 49, 50] hD.size hD.defers (fun i _ hc => hkp2 i hc)
  generalize (fun i => a1.tmps.getD i undef) = g' at e
  refine wpListIn_nil ?_
  rw [e]
  have H4 := hid (show AtS w w.heap.size A c (.int .i64 0) (.int .i64 0) (W2.setCell ⟨w.heap.size + 2, 66, none⟩ (.int .i64 0)) ∧ Blk (W2.setCell ⟨w.heap.size + 2, 66, none⟩ (.int .i64 0)) y 3 #[.int .i64 0] ∧ Blk (W2.setCell ⟨w.heap.size + 2, 66, none⟩ (.int .i64 0)) (y + 1) 162 (Array.replicate 8 (.bool false)) from ⟨p1.set66 _, p2.far (p := ⟨w.heap.size + 2, 66, none⟩) HY.out.1 _, p3.far (p := ⟨w.heap.size + 2, 66, none⟩) HY.out.2 _⟩)
  clear e hD hkp2 e50 e42 p1 p2 p3 x0 af6 a0 a1' a2 a3 a4 al
  simp only [mix, List.contains_cons, List.contains_nil, Nat.reduceAdd, Nat.reduceBEq, Bool.or_false, Bool.or_true, cond_true, cond_false]
  generalize W2.setCell ⟨w.heap.size + 2, 66, none⟩ (.int .i64 0) = W4 at *
  obtain ⟨t0, t1⟩ := H4.out.1.bm.c2
  go_wp2
  clear t0 t1
  refine wp_loop_rounds 2 ?_
  rw [rounds_succ]
  go_upto_region 15 with (fail)
  refine gen (p := Code.wp _ _ _ _) (fun W => (AtS w w.heap.size A c (.int .i64 0) (.int .i64 0) W ∧ Blk W y 3 #[.int .i64 0] ∧ Blk W (y + 1) 162 (Array.replicate 8 (.bool false))) ∧ Blk W W4.heap.size 3 #[.int .i64 (-1)]) ⟨⟨H4.out.1.keep (below_box _ _), H4.out.2.1.alloc _, H4.out.2.2.alloc _⟩, Blk.new _ _ _⟩ ?_
  have hzy := H4.out.2.2.lt
  obtain ⟨z, hz⟩ : ∃ z, W4.heap.size = z := ⟨_, rfl⟩
  rw [hz] at hzy
  simp only [hz]
  rintro W5 ⟨h5, h6⟩
  have H5 := hid h5
  have H5z := hid h6
  obtain ⟨t0, t1⟩ := h5.1.bm.c2
  clear h5 h6 hz H4
  go_wp2
  clear t0 t1
  refine wp_loop_rounds 2 ?_
  rw [rounds_succ]
  go_upto_region 18 with (fail)
  have q1 := xt_cell ((H5.out.2.2.cell 0).trans (show (Array.replicate 8 (Value.bool false))[0]? = some (.bool false) from rfl))
  have q2 := xt_cell H5z.out.c1
  refine wp_region_quiet_xt (by kernel_rfl) (by kernel_rfl) ?_
  repeat go_big_quiet_step (fail)
  refine wpQuiet_nil ?_
  intro W7 hw7
  have hb7 := of_xt hw7
  have H7 := hid (show AtS w w.heap.size A c (.int .i64 0) (.int .i64 0) W7 ∧ Blk W7 y 3 #[.int .i64 0] ∧ Blk W7 (y + 1) 162 (Array.replicate 8 (.bool false)) ∧ Blk W7 z 3 #[.int .i64 (-1)] from ⟨H5.out.1.keep hb7, H5.out.2.1.keep hb7, H5.out.2.2.keep hb7, H5z.out.keep hb7⟩)
  clear hw7 hb7 q1 q2 H5 H5z
  obtain ⟨t0, t1⟩ := H7.out.1.bm.c2
  have z0 := H7.out.2.2.2.c1
  have zf := H7.out.2.2.2.frozen 0
  have zl := H7.out.2.2.2.lt
  go_wp2
  refine gen (p := Code.rounds _ _ _ _ _) (fun W => AtS w w.heap.size A c (.int .i64 0) (.int .i64 0) W ∧ Blk W y 3 #[.int .i64 0] ∧ Blk W (y + 1) 162 (Array.replicate 8 (.bool false)) ∧ Blk W z 3 #[.int .i64 0]) ⟨H7.out.1.far (p := ⟨z, 0, none⟩) (by show w.heap.size + 4 ≤ z; omega) _, H7.out.2.1.far (p := ⟨z, 0, none⟩) (by show y ≠ z; omega) _, H7.out.2.2.1.far (p := ⟨z, 0, none⟩) (by show y + 1 ≠ z; omega) _, H7.out.2.2.2.set_ 0 _⟩ ?_
  clear t0 t1 z0 zf zl H7
  rintro W8 h8
  have H8 := hid h8
  obtain ⟨t0, t1⟩ := h8.1.bm.c2
  have z0 := h8.2.2.2.c1
  have sf := h8.2.2.1.frozen 0
  have sl := h8.2.2.1.lt
  have s0 := (h8.2.2.1.cell 0).trans (show (Array.replicate 8 (Value.bool false))[0]? = some (.bool false) from rfl)
  clear h8
  rw [rounds_succ]
  go_upto_region 22 with (fail)
  refine gen (p := Code.wp _ _ _ _) (fun W => AtS w w.heap.size A c (.int .i64 0) (.int .i64 0) W ∧ Blk W z 3 #[.int .i64 0]) ⟨H8.out.1.far (p := ⟨y + 1, 0, none⟩) (by show w.heap.size + 4 ≤ y + 1; omega) _, H8.out.2.2.2.far (p := ⟨y + 1, 0, none⟩) (by show z ≠ y + 1; omega) _⟩ ?_
  clear t0 t1 z0 sf sl s0 H8
  rintro W9 h9
  have H9 := hid h9
  obtain ⟨t0, t1⟩ := h9.1.bm.c2
  have z0 := h9.2.c1
  clear h9
  go_wp2_with fail
  refine (wnext_any _ _ _ _).mono ?_
  rintro e W10 ⟨rfl, h1, h2, h3⟩
  have H10 := hid (And.intro (H9.out.1.keep h1) (And.intro h2 h3))
  clear h1 h2 h3 t0 t1 z0 H9
  go_wp2
  refine (wpIn_wide (n := 0)).1 ?_
  refine wpIn_rangeFunc_none rfl (enters_of Tryz.func109 (by kernel_rfl) rfl) (fun l W hb => wnext1_none H10.out.2.1 hb) ?_
  intro D W11 hD hb11 hdf
  have H11 := hid (And.intro (H10.out.1.keep hb11) hdf)
  have HD := hid (show w.heap.size + 4 ≤ D by have := H10.out.1.pa.lt; omega)
  have hbm := H11.out.1.bm
  obtain ⟨t0, t1⟩ := hbm.c2
  have x0 := H11.out.1.pa.c1
  clear hD hb11 hdf hbm H10
  go_wp2
  rw [rounds_succ]
  go_wp2
  rw [rounds_succ]
  go_wp2
  have HM := hid (show Marks (w.heap.size + 4) [D] W11 from ⟨by simp, fun D' h => by simp at h; subst h; exact ⟨HD.out, H11.out.2⟩⟩)
  refine leaves_marks (B := w.heap.size + 4) [D] _ HM.out (fun W' hk hb => ?_)
  exact ⟨.pointer (some ⟨w.heap.size + 2, 0, none⟩), results_tmp Tryz.results43 _ _ _, rfl, H11.out.1.upto hb⟩
end Go.Proofs.YtlnamjhgbdacbaaGreat
/- Maps whose keys are stands. Conditions stand at each theorem. -/
namespace Go.Proofs.YtlnamjhgbdacbaaGreat
open Go.RowKit Go.Shelf

def stV (a s : Int) : Value := .agg #[.int .i64 a, .int .i64 s]
theorem stand_law : WideMaps.KeyLaw Tryz.prog 153 := deep_law (m := 2) (by decide) (by kernel_rfl) (by kernel_rfl) (by kernel_rfl)
theorem stand_fields : ∃ f0 f1 : Field, Tryz.prog.underlying 153 = some (.struct #[f0, f1]) ∧ f0.name = "at" ∧ f0.type = 3 ∧ f0.offset = 0 ∧ f1.name = "left" ∧ f1.type = 111 ∧ f1.offset = 1 :=
  mtwo_fields (by kernel_rfl) (by kernel_rfl)
theorem stand_cells : Tryz.prog.cellsOf 153 = 2 ∧ Tryz.prog.cellsOf 3 = 1 ∧ Tryz.prog.cellsOf 111 = 1 := ⟨by kernel_rfl, by kernel_rfl, by kernel_rfl⟩
theorem set_lits (d : Nat) {x : Int} (h : (Lit.int .i64 x).wf = true) : Tryz.prog.keyLits (d + 1) 111 [.int .i64 x] = some [.int .i64 x] := by
  simp [Program.keyLits, Tryz.underlying111, h]
theorem stand_key {a s : Int} (ha : Ix a) (hb : Ix s) : ∃ l, keyOf Tryz.prog 153 (stV a s) = some l := by
  obtain ⟨f0, f1, h0, h1, h2, h3, h4, h5, h6⟩ := stand_fields
  unfold Ix at ha hb
  have hkt : Tryz.prog.keyType 153 = true := by kernel_rfl
  have hsz : decide (2 ≤ Tryz.prog.types.size) = true := by kernel_rfl
  obtain ⟨m, hm⟩ : ∃ m, Tryz.prog.types.size + 1 = m + 3 := ⟨Tryz.prog.types.size - 2, by have := of_decide_eq_true hsz; omega⟩
  have hfm : (stV a s).formed Tryz.prog 153 = true := by
    simp only [stV, Value.formed, h0, stand_cells.1]; rfl
  unfold keyOf
  simp only [h0, hkt, hfm, Bool.and_self, if_true, hm]
  unfold Program.keyLits
  have hnm : (#[f0, f1].all fun x => x.name != "_") = true := by simp [h1, h4]
  simp only [h0, stand_cells.1, stV, Value.cells, List.length_cons, List.length_nil, Nat.zero_add, Nat.reduceAdd, hnm, and_self, if_true]
  simp only [List.mapM_cons, List.mapM_nil, h2, h3, h5, h6, stand_cells.2.1, stand_cells.2.2, List.drop_zero, List.drop_succ_cons, List.take_succ_cons, List.take_zero]
  rw [mint_lits (m + 1) (mwf64 (by omega) (by omega)), set_lits (m + 1) (mwf64 (by omega) (by omega))]
  exact ⟨_, rfl⟩

/-- all keys are stands -/
def StandKeys (es : Array MapEntry) : Prop := ∀ e ∈ es.toList, ∃ l, keyOf Tryz.prog 153 e.key = some l

section
variable {W : World} {b t e : Nat} {es : Array MapEntry} {clock : Nat} {key : Value}
theorem stand_look (c : Bool) (ht : Tryz.prog.underlying t = some (.map 153 e)) {z : Value} (hz : (zeroValue e).run Tryz.prog W = .ok z W) (hb : W.heap[b]? = some (.map es clock)) (hes : StandKeys es) (hk : ∃ l, keyOf Tryz.prog 153 key = some l) :
    ((Instr.lookup t (.map (some b)) key c).run Tryz.prog W = .ok (if c then .tuple #[z, .bool false] else z) W ∧ ∀ x ∈ es.toList, x.key ≠ key) ∨
    ∃ x ∈ es.toList, x.key = key ∧ (Instr.lookup t (.map (some b)) key c).run Tryz.prog W = .ok (if c then .tuple #[x.val, .bool true] else x.val) W := by
  obtain ⟨l, hk⟩ := hk
  rcases stand_law.find W hk es.toList hes with ⟨h1, h2⟩ | ⟨j, e0, h1, h2, h3⟩
  · exact .inl ⟨by simp [Instr.lookup, run_underlying ht, MapKept.run_getObj_map hb, stand_law.check W _ hk, h1, hz, Result.andThen], h2⟩
  · exact .inr ⟨e0, List.mem_of_getElem? h2, h3, by simp [Instr.lookup, run_underlying ht, MapKept.run_getObj_map hb, stand_law.check W _ hk, h1, Result.andThen]⟩

theorem stand_store (ht : Tryz.prog.underlying t = some (.map 153 e)) (hb : W.heap[b]? = some (.map es clock)) (hes : StandKeys es) (hk : ∃ l, keyOf Tryz.prog 153 key = some l) (v : Value) :
    ∃ es' clock', (Instr.mapUpdate t (.map (some b)) key v).run Tryz.prog W = .ok () (W.putObj b (.map es' clock')) ∧ StandKeys es' ∧ (∀ x ∈ es'.toList, x ∈ es.toList ∨ (x.key = key ∧ x.val = v)) ∧ ∃ x ∈ es'.toList, x.key = key ∧ x.val = v := by
  obtain ⟨l, hk⟩ := hk
  rcases stand_law.find W hk es.toList hes with ⟨h1, h2⟩ | ⟨j, e0, h1, h2, h3⟩
  · refine ⟨es.push ⟨key, v, clock⟩, clock + 1, ?_, ?_, ?_, ⟨⟨key, v, clock⟩, by simp, rfl, rfl⟩⟩
    · simp [Instr.mapUpdate, run_underlying ht, MapKept.run_getObj_map hb, stand_law.check W false hk, h1, MapKept.run_setObj_map _ hb, Result.andThen, World.putObj]
    · intro x hx
      simp only [Array.toList_push, List.mem_append, List.mem_singleton] at hx
      rcases hx with hx | rfl
      · exact hes x hx
      · exact ⟨l, hk⟩
    · intro x hx
      simp only [Array.toList_push, List.mem_append, List.mem_singleton] at hx
      rcases hx with hx | rfl
      · exact .inl hx
      · exact .inr ⟨rfl, rfl⟩
  · have hj := (List.getElem?_eq_some_iff.1 h2).1
    have hj' : j < es.size := by simpa using hj
    have he0 : es[j]? = some e0 := by simpa using h2
    have hst := stand_law.stays W hk
    have hmem : ∀ x ∈ (es.modify j fun e => { e with key := key, val := v }).toList, x ∈ es.toList ∨ (x.key = key ∧ x.val = v) := by
      intro x hx
      obtain ⟨i, hi⟩ := List.getElem?_of_mem hx
      rw [Array.getElem?_toList, Array.getElem?_modify] at hi
      split at hi
      · cases hq : es[i]? with
        | none => rw [hq] at hi; cases hi
        | some y =>
          rw [hq] at hi
          simp at hi
          subst hi
          exact .inr ⟨rfl, rfl⟩
      · exact .inl (List.mem_of_getElem? (by rw [Array.getElem?_toList]; exact hi))
    refine ⟨es.modify j fun e => { e with key := key, val := v }, clock, ?_, ?_, hmem, ⟨{ e0 with key := key, val := v }, ?_, rfl, rfl⟩⟩
    · simp [Instr.mapUpdate, run_underlying ht, MapKept.run_getObj_map hb, stand_law.check W false hk, h1, he0, h3, hst, MapKept.run_setObj_map _ hb, Result.andThen, World.putObj]
    · intro x hx
      rcases hmem x hx with h | ⟨h, _⟩
      · exact hes x h
      · exact ⟨l, by rw [h]; exact hk⟩
    · refine List.mem_of_getElem? (i := j) ?_
      rw [Array.getElem?_toList, Array.getElem?_modify, he0]
      simp
end
end Go.Proofs.YtlnamjhgbdacbaaGreat
/- How a tour goes on, on a map with one place. Conditions stand at each theorem. -/
namespace Go.Proofs.YtlnamjhgbdacbaaGreat
open Go.RowKit Go.Shelf

set_option maxRecDepth 100000 in
set_option maxHeartbeats 2000000 in
theorem wrest_zero {g mp : Nat} {A : Option Addr} {c : Nat} {f : Value} (w : World) (h : AtOne w g mp A c (.int .i64 0) f) :
    Calls Tryz.prog 65 #[.pointer (some ⟨g, 0, none⟩), .agg #[.int .i64 0, .int .i64 0]] w fun e w' => e = .returned (.agg #[.int .i64 0, .int .i64 0]) ∧ Below w.heap.size w w' := by
  have hB := (below_box (w := w) #[.int .i64 0, .int .i64 0] 153).alloc (below_box (w := w) #[.int .i64 0, .int .i64 0] 153).size (.cells #[.int .i64 0, .int .i64 0] 155)
  have hT := (Blk.new w 153 #[.int .i64 0, .int .i64 0]).alloc (.cells #[.int .i64 0, .int .i64 0] 155)
  have hL := Blk.new (w.alloc (.cells #[.int .i64 0, .int .i64 0] 153)) 155 #[.int .i64 0, .int .i64 0]
  rw [World.size_alloc] at hL
  have HS := hid (And.intro (h.keep hB) (And.intro hB (And.intro hT hL)))
  clear h hB hT hL
  go_enter Tryz.func65, Tryz.ntmps65
  go_upto_region 2 with (fail)
  refine gen (p := Code.wp _ _ _ _) (fun W => AtOne W g mp A c (.int .i64 0) f ∧ Below w.heap.size w W ∧ Blk W w.heap.size 153 #[.int .i64 0, .int .i64 0] ∧ Blk W (w.heap.size + 1) 155 #[.int .i64 0, .int .i64 0]) HS.out ?_
  clear HS
  rintro W h
  have H := hid h
  obtain ⟨a0, a1, a2, a3, a4⟩ := h.1.cells
  obtain ⟨t0, t1⟩ := h.2.2.1.c2
  obtain ⟨l0, l1⟩ := h.2.2.2.c2
  have lf0 := h.2.2.2.frozen 0
  have lf1 := h.2.2.2.frozen 1
  have ll := h.2.2.2.lt
  clear h
  go_region
  go_wp2
  have HX := hid (show Blk ((W.setCell ⟨w.heap.size + 1, 0, none⟩ (.int .i64 0)).setCell ⟨w.heap.size + 1, 1, none⟩ (.int .i64 0)).drew (w.heap.size + 1) 155 #[.int .i64 0, .int .i64 0] ∧ Below w.heap.size w ((W.setCell ⟨w.heap.size + 1, 0, none⟩ (.int .i64 0)).setCell ⟨w.heap.size + 1, 1, none⟩ (.int .i64 0)).drew from ⟨((H.out.2.2.2.set_ 0 _).set_ 1 _).drew, ((H.out.2.1.setCell (p := ⟨w.heap.size + 1, 0, none⟩) (by show w.heap.size ≤ w.heap.size + 1; omega) _).setCell (p := ⟨w.heap.size + 1, 1, none⟩) (by show w.heap.size ≤ w.heap.size + 1; omega) _).drew⟩)
  clear H a0 a1 a2 a3 a4 t0 t1 l0 l1 lf0 lf1 ll
  generalize ((W.setCell ⟨w.heap.size + 1, 0, none⟩ (.int .i64 0)).setCell ⟨w.heap.size + 1, 1, none⟩ (.int .i64 0)).drew = W2 at *
  obtain ⟨l0, l1⟩ := HX.out.1.c2
  exact bodyPost_ret (v := .agg #[.int .i64 0, .int .i64 0]) (by simp [results, Tryz.results65, go_sem, l0, l1]) rfl ⟨rfl, HX.out.2⟩

theorem leg_zero (W : World) : (zeroValue 155).run Tryz.prog W = .ok (.agg #[.int .i64 0, .int .i64 0]) W := by kernel_rfl
theorem stand_one : ∃ l, keyOf Tryz.prog 153 (stV 0 1) = some l := stand_key (by unfold Ix; omega) (by unfold Ix; omega)
/-- the map knows the whole tour -/
def TOne (W : World) (mp : Nat) : Prop := ∃ es clock, W.heap[mp]? = some (.map es clock) ∧ StandKeys es ∧ (∀ x ∈ es.toList, x.key = stV 0 1 → x.val = .agg #[.int .i64 0, .int .i64 0]) ∧ ∃ x ∈ es.toList, x.key = stV 0 1
theorem TOne.lt {W : World} {mp : Nat} (h : TOne W mp) : mp < W.heap.size := by
  obtain ⟨es, ck, h1, _⟩ := h
  exact (Array.getElem?_eq_some_iff.1 h1).1
theorem TOne.keep {W W' : World} {mp : Nat} (h : TOne W mp) (hb : Below W.heap.size W W') : TOne W' mp := by
  obtain ⟨es, ck, h1, h2⟩ := h
  exact ⟨es, ck, (hb.block _ (Array.getElem?_eq_some_iff.1 h1).1).trans h1, h2⟩
theorem tone_look {W : World} {mp : Nat} (h : TOne W mp) : (Instr.lookup 125 (.map (some mp)) (.agg #[.int .i64 0, .int .i64 1]) true).run Tryz.prog W = .ok (.tuple #[.agg #[.int .i64 0, .int .i64 0], .bool true]) W := by
  obtain ⟨es, ck, h1, h2, h3, x0, h4, h5⟩ := h
  rcases stand_look (t := 125) true Tryz.underlying125 (leg_zero _) h1 h2 stand_one with ⟨_, hno⟩ | ⟨x, hx, hk, hr⟩
  · exact absurd h5 (hno x0 h4)
  · rw [h3 x hx hk] at hr
    exact hr
theorem tnone_look {W : World} {mp : Nat} (h : W.heap[mp]? = some (.map #[] 0)) : (Instr.lookup 125 (.map (some mp)) (.agg #[.int .i64 0, .int .i64 1]) true).run Tryz.prog W = .ok (.tuple #[.agg #[.int .i64 0, .int .i64 0], .bool false]) W := by
  rcases stand_look (t := 125) true Tryz.underlying125 (leg_zero _) h (fun e he => by simp at he) stand_one with ⟨hr, _⟩ | ⟨x, hx, _⟩
  · exact hr
  · simp at hx
theorem tone_store {W : World} {mp : Nat} (h : W.heap[mp]? = some (.map #[] 0)) : ∃ es ck, (Instr.mapUpdate 125 (.map (some mp)) (.agg #[.int .i64 0, .int .i64 1]) (.agg #[.int .i64 0, .int .i64 0])).run Tryz.prog W = .ok () (W.putObj mp (.map es ck)) ∧ TOne (W.putObj mp (.map es ck)) mp := by
  obtain ⟨es, ck, h1, h2, h3, x, h4, h5, h6⟩ := stand_store (t := 125) Tryz.underlying125 h (fun e he => by simp at he) stand_one (.agg #[.int .i64 0, .int .i64 0])
  refine ⟨es, ck, h1, es, ck, ?_, h2, fun x hx hk => ?_, x, h4, h5⟩
  · exact World.putObj_heap_same (Array.getElem?_eq_some_iff.1 h).1
  · rcases h3 x hx with h | h
    · simp at h
    · exact h.2
/-- where rest stands while it looks a stand up -/
structure Ph3 (w : World) (a : Act) (li : Array Bool) (W : World) : Prop where
  bel : Below w.heap.size w W
  bs : Blk W w.heap.size 153 #[.int .i64 0, .int .i64 1]
  bl : Blk W (w.heap.size + 1) 155 #[.int .i64 0, .int .i64 0]
  al : li.getD 9 false = true → ∃ z, a.tmps.getD 5 undef = .pointer (some ⟨z, 0, none⟩) ∧ w.heap.size + 2 ≤ z ∧ Blk W z 155 #[.int .i64 0, .int .i64 0]
theorem Ph3.other {w : World} {a : Act} {li : Array Bool} {W : World} {i d : Nat} {v : Value} (h : Ph3 w a li W) (hi : i ≠ 9) (hd : d ≠ 5) : Ph3 w (a.put (some d) v) (li.setIfInBounds i true) W :=
  ⟨h.bel, h.bs, h.bl, fun hl => by
    rw [getD_set_oth hi] at hl
    obtain ⟨z, e, hz⟩ := h.al hl
    exact ⟨z, (put_getD_other hd).trans e, hz⟩⟩
theorem Ph3.new {w : World} {a : Act} {li : Array Bool} {W : World} (h : Ph3 w a li W) (hs : 5 < a.tmps.size) : Ph3 w (a.put (some 5) (.pointer (some ⟨W.heap.size, 0, none⟩))) (li.setIfInBounds 9 true) (W.alloc (.cells #[.int .i64 0, .int .i64 0] 155)) :=
  ⟨h.bel.alloc h.bel.size _, h.bs.alloc _, h.bl.alloc _, fun _ => ⟨W.heap.size, put_getD_same hs, by have := h.bl.lt; omega, Blk.new _ _ _⟩⟩
theorem Ph3.sto {w : World} {a : Act} {li : Array Bool} {W : World} {z : Nat} {v : Value} (h : Ph3 w a li W) (_hl9 : li.getD 9 false = true) (e : a.tmps.getD 5 undef = .pointer (some ⟨z, 0, none⟩)) (hz : w.heap.size + 2 ≤ z) (hb : Blk W z 155 #[.int .i64 0, .int .i64 0]) : Ph3 w (a.put none v) (li.setIfInBounds 10 true) ((W.setCell ⟨z, 0, none⟩ (.int .i64 0)).setCell ⟨z, 1, none⟩ (.int .i64 0)) :=
  ⟨(h.bel.setCell (p := ⟨z, 0, none⟩) (by show w.heap.size ≤ z; omega) _).setCell (p := ⟨z, 1, none⟩) (by show w.heap.size ≤ z; omega) _, (h.bs.far (p := ⟨z, 0, none⟩) (by show w.heap.size ≠ z; omega) _).far (p := ⟨z, 1, none⟩) (by show w.heap.size ≠ z; omega) _, (h.bl.far (p := ⟨z, 0, none⟩) (by show w.heap.size + 1 ≠ z; omega) _).far (p := ⟨z, 1, none⟩) (by show w.heap.size + 1 ≠ z; omega) _, fun _ => ⟨z, e, hz, (hb.set_ 0 _).set_ 1 _⟩⟩

set_option maxRecDepth 100000 in
set_option maxHeartbeats 4000000 in
theorem wrest_hit {g mp : Nat} {A : Option Addr} {c : Nat} {f : Value} (w : World) (h : AtOne w g mp A c (.int .i64 0) f) (hm : TOne w mp) :
    Calls Tryz.prog 65 #[.pointer (some ⟨g, 0, none⟩), .agg #[.int .i64 0, .int .i64 1]] w fun e w' => e = .returned (.agg #[.int .i64 0, .int .i64 0]) ∧ Below w.heap.size w w' := by
  have hB := (below_box (w := w) #[.int .i64 0, .int .i64 1] 153).alloc (below_box (w := w) #[.int .i64 0, .int .i64 1] 153).size (.cells #[.int .i64 0, .int .i64 0] 155)
  have hT := (Blk.new w 153 #[.int .i64 0, .int .i64 1]).alloc (.cells #[.int .i64 0, .int .i64 0] 155)
  have hL := Blk.new (w.alloc (.cells #[.int .i64 0, .int .i64 1] 153)) 155 #[.int .i64 0, .int .i64 0]
  rw [World.size_alloc] at hL
  have HA := hid h
  have HM := hid hm
  have HS := hid (And.intro hB (And.intro hT hL))
  clear h hm hB hT hL
  go_enter Tryz.func65, Tryz.ntmps65
  go_upto_region 3 with (fail)
  refine gen (p := Code.wp _ _ _ _) (fun W => Below w.heap.size w W ∧ Blk W w.heap.size 153 #[.int .i64 0, .int .i64 1] ∧ Blk W (w.heap.size + 1) 155 #[.int .i64 0, .int .i64 0]) HS.out ?_
  clear HS
  rintro W1 ⟨h1, h2, h3⟩
  have HG0 := hid (show Ph3 w { tmps := #[], defers := [] } (Array.replicate 12 false) W1.drew from ⟨h1.drew, h2.drew, h3.drew, fun hl => by rw [getD_replicate_false] at hl; cases hl⟩)
  clear h1 h2 h3
  refine (wpIn_wide (n := 0)).1 ?_
  refine wpIn_region_each2 11 (fun i v W' => match i with | 0 => v = .pointer (some ⟨g, 0, none⟩) | 1 => v = .pointer (some ⟨g, 0, none⟩) | 2 => v = .pointer (some ⟨g, 130, none⟩) | 3 => v = .map (some mp) | 4 => v = .agg #[.int .i64 0, .int .i64 1] | 5 => v = .tuple #[.agg #[.int .i64 0, .int .i64 0], .bool true] | 6 => v = .tuple #[.agg #[.int .i64 0, .int .i64 0], .bool true] | 7 => v = .agg #[.int .i64 0, .int .i64 0] | 8 => v = .bool true | _ => True) (fun _ _ => True) (fun li a W => Ph3 w a li W) (by kernel_rfl) (by kernel_rfl) ?_ (fun _ _ => trivial) trivial ⟨HG0.out.bel, HG0.out.bs, HG0.out.bl, fun hl => by rw [getD_replicate_false] at hl; cases hl⟩ (by kernel_rfl) ?_ ?_
  · intro i v W1 W2 hb h; exact h
  · refine ⟨?_, ?_, ?_, ?_, ?_, ?_, ?_, ?_, ?_, ?_, ?_, trivial⟩
    · -- 0
      intro li a1 W2 hA K hK
      have e0 := hA.par 0 (by kernel_rfl)
      refine opStep none 0 rfl rfl (fun c hc => by cases hc) ?_
      go_simp
      exact hK _ _ rfl trivial (hA.ph.other (by decide) (by decide))
    · -- 1
      intro li a1 W2 hA K hK
      have e24 : a1.tmps.getD 24 undef = .pointer (some ⟨g, 0, none⟩) := hA.val 0 24 (by kernel_rfl) (by kernel_rfl)
      refine opStep none 0 rfl rfl (fun c hc => by cases hc) ?_
      go_simp
      exact hK _ _ rfl trivial (hA.ph.other (by decide) (by decide))
    · -- 2
      intro li a1 W2 hA K hK
      have e25 : a1.tmps.getD 25 undef = .pointer (some ⟨g, 0, none⟩) := hA.val 1 25 (by kernel_rfl) (by kernel_rfl)
      refine opStep none 0 rfl rfl (fun c hc => by cases hc) ?_
      go_simp
      exact hK _ _ rfl trivial (hA.ph.other (by decide) (by decide))
    · -- 3
      intro li a1 W2 hA K hK
      have e26 : a1.tmps.getD 26 undef = .pointer (some ⟨g, 130, none⟩) := hA.val 2 26 (by kernel_rfl) (by kernel_rfl)
      obtain ⟨a0, a1', a2, a3, a4⟩ := (HA.out.keep hA.ph.bel).cells
      obtain ⟨t0, t1⟩ := hA.ph.bs.c2
      refine opStep none 0 rfl rfl (fun c hc => by cases hc) ?_
      go_simp
      exact hK _ _ rfl trivial (hA.ph.other (by decide) (by decide))
    · -- 4
      intro li a1 W2 hA K hK
      have e3 := hA.par 3 (by kernel_rfl)
      obtain ⟨a0, a1', a2, a3, a4⟩ := (HA.out.keep hA.ph.bel).cells
      obtain ⟨t0, t1⟩ := hA.ph.bs.c2
      refine opStep none 0 rfl rfl (fun c hc => by cases hc) ?_
      go_simp
      exact hK _ _ rfl trivial (hA.ph.other (by decide) (by decide))
    · -- 5
      intro li a1 W2 hA K hK
      have e27 : a1.tmps.getD 27 undef = .map (some mp) := hA.val 3 27 (by kernel_rfl) (by kernel_rfl)
      have e28 : a1.tmps.getD 28 undef = .agg #[.int .i64 0, .int .i64 1] := hA.val 4 28 (by kernel_rfl) (by kernel_rfl)
      have hl := tone_look (HM.out.keep hA.ph.bel)
      refine opValue (v := .tuple #[.agg #[.int .i64 0, .int .i64 0], .bool true]) none 0 rfl rfl (fun c hc => by cases hc) (W' := W2) (by simp [execOp, Act.eval, e27, e28, hl, Result.andThen]) ?_
      exact hK _ _ rfl trivial (hA.ph.other (by decide) (by decide))
    · -- 6
      intro li a1 W2 hA K hK
      have e29 : a1.tmps.getD 29 undef = .tuple #[.agg #[.int .i64 0, .int .i64 0], .bool true] := hA.val 5 29 (by kernel_rfl) (by kernel_rfl)
      refine opStep none 0 rfl rfl (fun c hc => by cases hc) ?_
      go_simp
      exact hK _ _ rfl trivial (hA.ph.other (by decide) (by decide))
    · -- 7
      intro li a1 W2 hA K hK
      have e23 : a1.tmps.getD 23 undef = .tuple #[.agg #[.int .i64 0, .int .i64 0], .bool true] := hA.val 6 23 (by kernel_rfl) (by kernel_rfl)
      refine opStep none 0 rfl rfl (fun c hc => by cases hc) ?_
      go_simp
      exact hK _ _ rfl trivial (hA.ph.other (by decide) (by decide))
    · -- 8
      intro li a1 W2 hA K hK
      have e23 : a1.tmps.getD 23 undef = .tuple #[.agg #[.int .i64 0, .int .i64 0], .bool true] := hA.val 6 23 (by kernel_rfl) (by kernel_rfl)
      refine opStep none 0 rfl rfl (fun c hc => by cases hc) ?_
      go_simp
      exact hK _ _ rfl trivial (hA.ph.other (by decide) (by decide))
    · -- 9
      intro li a1 W2 hA K hK
      refine opStep none 0 rfl rfl (fun c hc => by cases hc) ?_
      go_simp
      exact hK _ _ trivial trivial (hA.ph.new (by rw [hA.size]; show 5 < 78; decide))
    · -- 10
      intro li a1 W2 hA K hK
      have e30 : a1.tmps.getD 30 undef = .agg #[.int .i64 0, .int .i64 0] := hA.val 7 30 (by kernel_rfl) (by kernel_rfl)
      obtain ⟨a0, a1', a2, a3, a4⟩ := (HA.out.keep hA.ph.bel).cells
      obtain ⟨t0, t1⟩ := hA.ph.bs.c2
      obtain ⟨z, e5, hz, hbz⟩ := hA.ph.al (hA.has 9 (by kernel_rfl))
      obtain ⟨q0, q1⟩ := hbz.c2
      have f0 := hbz.frozen 0
      have f1 := hbz.frozen 1
      have zl := hbz.lt
      refine opStep none 0 rfl rfl (fun c hc => by cases hc) ?_
      go_simp
      exact hK undef _ trivial trivial (hA.ph.sto (hA.has 9 (by kernel_rfl)) e5 hz hbz)
  intro li a1 W2 hD
  obtain ⟨z, e5, hz, hbz⟩ := hD.ph.al (hD.all 9 (by decide))
  have e31 : a1.tmps.getD 31 undef = .bool true := hD.val 8 31 (by kernel_rfl) (by kernel_rfl)
  have hsz : a1.tmps.size = 78 := hD.size
  have hkp2 := hD.keeps (ds := [24, 25, 26, 27, 28, 29, 23, 30, 31, 5, 6]) (by kernel_rfl)
  refine tail_val (i := 11) (v := .bool true) (W' := W2) none 0 rfl rfl rfl (fun c hc => by cases hc) (by go_simp) (by rw [hsz]; decide) ?_
  intro a3 s3 d3 f3 o3
  have hkp3 := keeps_then hkp2 o3 (by decide)
  have e := act_mix [24, 25, 26, 27, 28, 29, 23, 30, 31, 5, 6] (s3.trans hD.size) (d3.trans hD.defers) (fun i _ hc => hkp3 i hc)
  have f6 : (fun i => a3.tmps.getD i undef) 6 = .bool true := f3
  have f5 : (fun i => a3.tmps.getD i undef) 5 = .pointer (some ⟨z, 0, none⟩) := (o3 5 (by decide)).trans e5
  generalize (fun i => a3.tmps.getD i undef) = g' at e f5 f6
  refine wpListIn_nil ?_
  rw [e]
  have HP := hid (And.intro hD.ph.bel (And.intro hD.ph.bs (And.intro hD.ph.bl (And.intro hz hbz))))
  clear e hD hkp2 hkp3 s3 d3 f3 o3 e5 e31 hsz hz hbz
  simp only [mix, List.contains_cons, List.contains_nil, Nat.reduceAdd, Nat.reduceBEq, Bool.or_false, Bool.or_true, cond_true, cond_false, f5, f6]
  clear f5 f6
  obtain ⟨q0, q1⟩ := HP.out.2.2.2.2.c2
  obtain ⟨l0, l1⟩ := HP.out.2.2.1.c2
  have lf0 := HP.out.2.2.1.frozen 0
  have lf1 := HP.out.2.2.1.frozen 1
  have ll := HP.out.2.2.1.lt
  go_wp2
  have HX := hid (show Blk ((W2.setCell ⟨w.heap.size + 1, 0, none⟩ (.int .i64 0)).setCell ⟨w.heap.size + 1, 1, none⟩ (.int .i64 0)) (w.heap.size + 1) 155 #[.int .i64 0, .int .i64 0] ∧ Below w.heap.size w ((W2.setCell ⟨w.heap.size + 1, 0, none⟩ (.int .i64 0)).setCell ⟨w.heap.size + 1, 1, none⟩ (.int .i64 0)) from ⟨(HP.out.2.2.1.set_ 0 _).set_ 1 _, (HP.out.1.setCell (p := ⟨w.heap.size + 1, 0, none⟩) (by show w.heap.size ≤ w.heap.size + 1; omega) _).setCell (p := ⟨w.heap.size + 1, 1, none⟩) (by show w.heap.size ≤ w.heap.size + 1; omega) _⟩)
  clear HP q0 q1 l0 l1 lf0 lf1 ll
  generalize ((W2.setCell ⟨w.heap.size + 1, 0, none⟩ (.int .i64 0)).setCell ⟨w.heap.size + 1, 1, none⟩ (.int .i64 0)) = W3 at *
  obtain ⟨l0, l1⟩ := HX.out.1.c2
  exact bodyPost_ret (v := .agg #[.int .i64 0, .int .i64 0]) (by simp [results, Tryz.results65, go_sem, l0, l1]) rfl ⟨rfl, HX.out.2⟩

theorem wlist_one' (w : World) : Calls Tryz.prog 66 #[.int .i64 1] w fun e w' => ∃ a c, e = .returned (.slice (some a) 1 c) ∧ 1 ≤ c ∧ c ≤ maxLen ∧ a.block < w'.heap.size ∧ w'.cell? a = some (.int .i64 0) ∧ Below w.heap.size w w' := by
  refine (wlist_one w).mono ?_
  rintro e w' ⟨A, c, rfl, h1, h2, h3, _, _, hb⟩
  obtain ⟨a, rfl, h4, h5⟩ := h3 0 0 rfl
  exact ⟨a, c, rfl, h1, h2, h4, h5, hb⟩
/-- where rest stands in its loop -/
structure Ph10 (w : World) (y : Nat) (u v : Int) (W : World) : Prop where
  bel : Below w.heap.size w W
  bs : Blk W w.heap.size 153 #[.int .i64 0, .int .i64 1]
  bl : Blk W (w.heap.size + 1) 155 #[.int .i64 0, .int .i64 0]
  by_ : Blk W y 155 #[.int .i64 u, .int .i64 v]
  hy : w.heap.size + 2 ≤ y
theorem Ph10.keep {w : World} {y : Nat} {u v : Int} {W W' : World} (h : Ph10 w y u v W) (hb : Below W.heap.size W W') : Ph10 w y u v W' :=
  ⟨h.bel.trans (hb.mono h.bel.size), h.bs.keep hb, h.bl.keep hb, h.by_.keep hb, h.hy⟩
theorem Ph10.set_ {w : World} {y : Nat} {u v u' v' : Int} {W : World} (h : Ph10 w y u v W) : Ph10 w y u' v' ((W.setCell ⟨y, 0, none⟩ (.int .i64 u')).setCell ⟨y, 1, none⟩ (.int .i64 v')) :=
  ⟨(h.bel.setCell (p := ⟨y, 0, none⟩) (by show w.heap.size ≤ y; have := h.hy; omega) _).setCell (p := ⟨y, 1, none⟩) (by show w.heap.size ≤ y; have := h.hy; omega) _, (h.bs.far (p := ⟨y, 0, none⟩) (by show w.heap.size ≠ y; have := h.hy; omega) _).far (p := ⟨y, 1, none⟩) (by show w.heap.size ≠ y; have := h.hy; omega) _, (h.bl.far (p := ⟨y, 0, none⟩) (by show w.heap.size + 1 ≠ y; have := h.hy; omega) _).far (p := ⟨y, 1, none⟩) (by show w.heap.size + 1 ≠ y; have := h.hy; omega) _, (h.by_.set_ 0 _).set_ 1 _, h.hy⟩
theorem Blk.put {W : World} {g t b : Nat} {cs : Array Value} (h : Blk W g t cs) (hb : b ≠ g) (o : Obj) : Blk (W.putObj b o) g t cs := (World.putObj_heap_other (fun e => hb e.symm)).trans h

set_option maxRecDepth 100000 in
set_option maxHeartbeats 4000000 in
theorem wrest_miss {g mp : Nat} {A : Option Addr} {c : Nat} {f : Value} (w : World) (h : AtOne w g mp A c (.int .i64 0) f) (hm : w.heap[mp]? = some (.map #[] 0)) :
    Calls Tryz.prog 65 #[.pointer (some ⟨g, 0, none⟩), .agg #[.int .i64 0, .int .i64 1]] w fun e w' => e = .returned (.agg #[.int .i64 0, .int .i64 0]) ∧ MChg (fun q => q = mp) w w' ∧ TOne w' mp := by
  have hB := (below_box (w := w) #[.int .i64 0, .int .i64 1] 153).alloc (below_box (w := w) #[.int .i64 0, .int .i64 1] 153).size (.cells #[.int .i64 0, .int .i64 0] 155)
  have hT := (Blk.new w 153 #[.int .i64 0, .int .i64 1]).alloc (.cells #[.int .i64 0, .int .i64 0] 155)
  have hL := Blk.new (w.alloc (.cells #[.int .i64 0, .int .i64 1] 153)) 155 #[.int .i64 0, .int .i64 0]
  rw [World.size_alloc] at hL
  have HA := hid h
  have HM := hid hm
  have HS := hid (And.intro hB (And.intro hT hL))
  clear h hm hB hT hL
  go_enter Tryz.func65, Tryz.ntmps65
  go_upto_region 3 with (fail)
  refine gen (p := Code.wp _ _ _ _) (fun W => Below w.heap.size w W ∧ Blk W w.heap.size 153 #[.int .i64 0, .int .i64 1] ∧ Blk W (w.heap.size + 1) 155 #[.int .i64 0, .int .i64 0]) HS.out ?_
  clear HS
  rintro W1 ⟨h1, h2, h3⟩
  have HG0 := hid (show Ph3 w { tmps := #[], defers := [] } (Array.replicate 12 false) W1.drew from ⟨h1.drew, h2.drew, h3.drew, fun hl => by rw [getD_replicate_false] at hl; cases hl⟩)
  clear h1 h2 h3
  refine (wpIn_wide (n := 0)).1 ?_
  refine wpIn_region_each2 11 (fun i v W' => match i with | 0 => v = .pointer (some ⟨g, 0, none⟩) | 1 => v = .pointer (some ⟨g, 0, none⟩) | 2 => v = .pointer (some ⟨g, 130, none⟩) | 3 => v = .map (some mp) | 4 => v = .agg #[.int .i64 0, .int .i64 1] | 5 => v = .tuple #[.agg #[.int .i64 0, .int .i64 0], .bool false] | 6 => v = .tuple #[.agg #[.int .i64 0, .int .i64 0], .bool false] | 7 => v = .agg #[.int .i64 0, .int .i64 0] | 8 => v = .bool false | _ => True) (fun _ _ => True) (fun li a W => Ph3 w a li W) (by kernel_rfl) (by kernel_rfl) ?_ (fun _ _ => trivial) trivial ⟨HG0.out.bel, HG0.out.bs, HG0.out.bl, fun hl => by rw [getD_replicate_false] at hl; cases hl⟩ (by kernel_rfl) ?_ ?_
  · intro i v W1 W2 hb h; exact h
  · refine ⟨?_, ?_, ?_, ?_, ?_, ?_, ?_, ?_, ?_, ?_, ?_, trivial⟩
    · -- 0
      intro li a1 W2 hA K hK
      have e0 := hA.par 0 (by kernel_rfl)
      refine opStep none 0 rfl rfl (fun c hc => by cases hc) ?_
      go_simp
      exact hK _ _ rfl trivial (hA.ph.other (by decide) (by decide))
    · -- 1
      intro li a1 W2 hA K hK
      have e24 : a1.tmps.getD 24 undef = .pointer (some ⟨g, 0, none⟩) := hA.val 0 24 (by kernel_rfl) (by kernel_rfl)
      refine opStep none 0 rfl rfl (fun c hc => by cases hc) ?_
      go_simp
      exact hK _ _ rfl trivial (hA.ph.other (by decide) (by decide))
    · -- 2
      intro li a1 W2 hA K hK
      have e25 : a1.tmps.getD 25 undef = .pointer (some ⟨g, 0, none⟩) := hA.val 1 25 (by kernel_rfl) (by kernel_rfl)
      refine opStep none 0 rfl rfl (fun c hc => by cases hc) ?_
      go_simp
      exact hK _ _ rfl trivial (hA.ph.other (by decide) (by decide))
    · -- 3
      intro li a1 W2 hA K hK
      have e26 : a1.tmps.getD 26 undef = .pointer (some ⟨g, 130, none⟩) := hA.val 2 26 (by kernel_rfl) (by kernel_rfl)
      obtain ⟨a0, a1', a2, a3, a4⟩ := (HA.out.keep hA.ph.bel).cells
      obtain ⟨t0, t1⟩ := hA.ph.bs.c2
      refine opStep none 0 rfl rfl (fun c hc => by cases hc) ?_
      go_simp
      exact hK _ _ rfl trivial (hA.ph.other (by decide) (by decide))
    · -- 4
      intro li a1 W2 hA K hK
      have e3 := hA.par 3 (by kernel_rfl)
      obtain ⟨a0, a1', a2, a3, a4⟩ := (HA.out.keep hA.ph.bel).cells
      obtain ⟨t0, t1⟩ := hA.ph.bs.c2
      refine opStep none 0 rfl rfl (fun c hc => by cases hc) ?_
      go_simp
      exact hK _ _ rfl trivial (hA.ph.other (by decide) (by decide))
    · -- 5
      intro li a1 W2 hA K hK
      have e27 : a1.tmps.getD 27 undef = .map (some mp) := hA.val 3 27 (by kernel_rfl) (by kernel_rfl)
      have e28 : a1.tmps.getD 28 undef = .agg #[.int .i64 0, .int .i64 1] := hA.val 4 28 (by kernel_rfl) (by kernel_rfl)
      have hl := tnone_look ((hA.ph.bel.block _ (Array.getElem?_eq_some_iff.1 HM.out).1).trans HM.out)
      refine opValue (v := .tuple #[.agg #[.int .i64 0, .int .i64 0], .bool false]) none 0 rfl rfl (fun c hc => by cases hc) (W' := W2) (by simp [execOp, Act.eval, e27, e28, hl, Result.andThen]) ?_
      exact hK _ _ rfl trivial (hA.ph.other (by decide) (by decide))
    · -- 6
      intro li a1 W2 hA K hK
      have e29 : a1.tmps.getD 29 undef = .tuple #[.agg #[.int .i64 0, .int .i64 0], .bool false] := hA.val 5 29 (by kernel_rfl) (by kernel_rfl)
      refine opStep none 0 rfl rfl (fun c hc => by cases hc) ?_
      go_simp
      exact hK _ _ rfl trivial (hA.ph.other (by decide) (by decide))
    · -- 7
      intro li a1 W2 hA K hK
      have e23 : a1.tmps.getD 23 undef = .tuple #[.agg #[.int .i64 0, .int .i64 0], .bool false] := hA.val 6 23 (by kernel_rfl) (by kernel_rfl)
      refine opStep none 0 rfl rfl (fun c hc => by cases hc) ?_
      go_simp
      exact hK _ _ rfl trivial (hA.ph.other (by decide) (by decide))
    · -- 8
      intro li a1 W2 hA K hK
      have e23 : a1.tmps.getD 23 undef = .tuple #[.agg #[.int .i64 0, .int .i64 0], .bool false] := hA.val 6 23 (by kernel_rfl) (by kernel_rfl)
      refine opStep none 0 rfl rfl (fun c hc => by cases hc) ?_
      go_simp
      exact hK _ _ rfl trivial (hA.ph.other (by decide) (by decide))
    · -- 9
      intro li a1 W2 hA K hK
      refine opStep none 0 rfl rfl (fun c hc => by cases hc) ?_
      go_simp
      exact hK _ _ trivial trivial (hA.ph.new (by rw [hA.size]; show 5 < 78; decide))
    · -- 10
      intro li a1 W2 hA K hK
      have e30 : a1.tmps.getD 30 undef = .agg #[.int .i64 0, .int .i64 0] := hA.val 7 30 (by kernel_rfl) (by kernel_rfl)
      obtain ⟨a0, a1', a2, a3, a4⟩ := (HA.out.keep hA.ph.bel).cells
      obtain ⟨t0, t1⟩ := hA.ph.bs.c2
      obtain ⟨z, e5, hz, hbz⟩ := hA.ph.al (hA.has 9 (by kernel_rfl))
      obtain ⟨q0, q1⟩ := hbz.c2
      have f0 := hbz.frozen 0
      have f1 := hbz.frozen 1
      have zl := hbz.lt
      refine opStep none 0 rfl rfl (fun c hc => by cases hc) ?_
      go_simp
      exact hK undef _ trivial trivial (hA.ph.sto (hA.has 9 (by kernel_rfl)) e5 hz hbz)
  intro li a1 W2 hD
  obtain ⟨z, e5, hz, hbz⟩ := hD.ph.al (hD.all 9 (by decide))
  have e31 : a1.tmps.getD 31 undef = .bool false := hD.val 8 31 (by kernel_rfl) (by kernel_rfl)
  have hsz : a1.tmps.size = 78 := hD.size
  have hkp2 := hD.keeps (ds := [24, 25, 26, 27, 28, 29, 23, 30, 31, 5, 6]) (by kernel_rfl)
  refine tail_val (i := 11) (v := .bool false) (W' := W2) none 0 rfl rfl rfl (fun c hc => by cases hc) (by go_simp) (by rw [hsz]; decide) ?_
  intro a3 s3 d3 f3 o3
  have hkp3 := keeps_then hkp2 o3 (by decide)
  have e := act_mix [24, 25, 26, 27, 28, 29, 23, 30, 31, 5, 6] (s3.trans hD.size) (d3.trans hD.defers) (fun i _ hc => hkp3 i hc)
  have f6 : (fun i => a3.tmps.getD i undef) 6 = .bool false := f3
  have f5 : (fun i => a3.tmps.getD i undef) 5 = .pointer (some ⟨z, 0, none⟩) := (o3 5 (by decide)).trans e5
  generalize (fun i => a3.tmps.getD i undef) = g' at e f5 f6
  refine wpListIn_nil ?_
  rw [e]
  have HP := hid (And.intro hD.ph.bel (And.intro hD.ph.bs (And.intro hD.ph.bl (And.intro hz hbz))))
  clear e hD hkp2 hkp3 s3 d3 f3 o3 e5 e31 hsz hz hbz
  simp only [mix, List.contains_cons, List.contains_nil, Nat.reduceAdd, Nat.reduceBEq, Bool.or_false, Bool.or_true, cond_true, cond_false, f5, f6]
  clear f5 f6
  obtain ⟨t0, t1⟩ := HP.out.2.1.c2
  go_upto_region 7 with (fail)
  obtain ⟨y, hy⟩ : ∃ y, W2.heap.size = y := ⟨_, rfl⟩
  refine gen (p := Code.wp _ _ _ _) (fun W => Ph10 w y 1048576 (-1) W) ⟨HP.out.1.alloc HP.out.1.size _, HP.out.2.1.alloc _, HP.out.2.2.1.alloc _, by rw [← hy]; exact Blk.new _ _ _, by have := HP.out.2.2.1.lt; omega⟩ ?_
  simp only [hy]
  clear t0 t1 HP hy
  rintro W3 h3
  have H3 := hid h3
  obtain ⟨t0, t1⟩ := h3.bs.c2
  clear h3
  go_wp2_with fail
  refine (wlist_one' _).mono ?_
  rintro e W4 ⟨a, cc, rfl, h1, h2, h3, h4, hb⟩
  have H4 := hid (H3.out.keep hb)
  unfold maxLen at h2
  clear t0 t1 H3 hb
  go_wp2
  refine wp_loop_rounds 2 ?_
  rw [rounds_succ]
  go_upto_region 10 with (fail)
  clear h1 h2 h3 h4
  refine (wpIn_wide (n := 0)).1 ?_
  refine wpIn_region_each2 20 (fun i v W' => match i with | 0 => v = .pointer (some ⟨g, 0, none⟩) | 1 => v = .pointer (some ⟨w.heap.size, 0, none⟩) | 2 => v = .int .i64 0 | 3 => v = .int .i64 0 | 4 => v = .pointer (some ⟨g, 0, none⟩) | 5 => v = .pointer (some ⟨g, 2, none⟩) | 6 => v = .pointer (some ⟨g, 2, none⟩) | 7 => v = .pointer (some ⟨g, 2, none⟩) | 8 => v = .int .i64 0 | 9 => v = .pointer (some ⟨g, 0, none⟩) | 10 => v = .int .i64 0 | 11 => v = .pointer (some ⟨w.heap.size, 1, none⟩) | 12 => v = .int .i64 1 | 13 => v = .int .i64 0 | 14 => v = .int .i64 1 | 15 => v = .int .i64 0 | 16 => v = .agg #[.int .i64 0, .int .i64 0] | 17 => v = .agg #[.int .i64 0, .int .i64 0] | 18 => v = .int .i64 0 | 19 => v = .int .i64 0 | _ => True) (fun _ _ => True) (fun _ _ W => Ph10 w y 1048576 (-1) W) (by kernel_rfl) (by kernel_rfl) ?_ (fun _ _ => trivial) trivial (H4.out.keep ⟨rfl, rfl, rfl, Nat.le_refl _, fun _ _ => rfl⟩) (by kernel_rfl) ?_ ?_
  · intro i v W1 W2 hb h; exact h
  · refine ⟨?_, ?_, ?_, ?_, ?_, ?_, ?_, ?_, ?_, ?_, ?_, ?_, ?_, ?_, ?_, ?_, ?_, ?_, ?_, ?_, trivial⟩
    · -- 0
      intro li a1 W2 hA K hK
      have e0 := hA.par 0 (by kernel_rfl)
      refine opStep none 0 rfl rfl (fun c hc => by cases hc) ?_
      go_simp
      exact hK _ _ rfl trivial (hA.ph)
    · -- 1
      intro li a1 W2 hA K hK
      have e3 := hA.par 3 (by kernel_rfl)
      refine opStep none 0 rfl rfl (fun c hc => by cases hc) ?_
      go_simp
      exact hK _ _ rfl trivial (hA.ph)
    · -- 2
      intro li a1 W2 hA K hK
      have e44 : a1.tmps.getD 44 undef = .pointer (some ⟨w.heap.size, 0, none⟩) := hA.val 1 44 (by kernel_rfl) (by kernel_rfl)
      obtain ⟨a0, a1', a2, a3, a4⟩ := (HA.out.keep hA.ph.bel).cells
      obtain ⟨t0, t1⟩ := hA.ph.bs.c2
      refine opStep none 0 rfl rfl (fun c hc => by cases hc) ?_
      go_simp
      exact hK _ _ rfl trivial (hA.ph)
    · -- 3
      intro li a1 W2 hA K hK
      have e9 := hA.par 9 (by kernel_rfl)
      refine opStep none 0 rfl rfl (fun c hc => by cases hc) ?_
      go_simp
      exact hK _ _ rfl trivial (hA.ph)
    · -- 4
      intro li a1 W2 hA K hK
      have e43 : a1.tmps.getD 43 undef = .pointer (some ⟨g, 0, none⟩) := hA.val 0 43 (by kernel_rfl) (by kernel_rfl)
      refine opStep none 0 rfl rfl (fun c hc => by cases hc) ?_
      go_simp
      exact hK _ _ rfl trivial (hA.ph)
    · -- 5
      intro li a1 W2 hA K hK
      have e47 : a1.tmps.getD 47 undef = .pointer (some ⟨g, 0, none⟩) := hA.val 4 47 (by kernel_rfl) (by kernel_rfl)
      refine opStep none 0 rfl rfl (fun c hc => by cases hc) ?_
      go_simp
      exact hK _ _ rfl trivial (hA.ph)
    · -- 6
      intro li a1 W2 hA K hK
      have e48 : a1.tmps.getD 48 undef = .pointer (some ⟨g, 2, none⟩) := hA.val 5 48 (by kernel_rfl) (by kernel_rfl)
      have e45 : a1.tmps.getD 45 undef = .int .i64 0 := hA.val 2 45 (by kernel_rfl) (by kernel_rfl)
      refine opStep none 0 rfl rfl (fun c hc => by cases hc) ?_
      go_simp
      exact hK _ _ rfl trivial (hA.ph)
    · -- 7
      intro li a1 W2 hA K hK
      have e49 : a1.tmps.getD 49 undef = .pointer (some ⟨g, 2, none⟩) := hA.val 6 49 (by kernel_rfl) (by kernel_rfl)
      have e46 : a1.tmps.getD 46 undef = .int .i64 0 := hA.val 3 46 (by kernel_rfl) (by kernel_rfl)
      refine opStep none 0 rfl rfl (fun c hc => by cases hc) ?_
      go_simp
      exact hK _ _ rfl trivial (hA.ph)
    · -- 8
      intro li a1 W2 hA K hK
      have e50 : a1.tmps.getD 50 undef = .pointer (some ⟨g, 2, none⟩) := hA.val 7 50 (by kernel_rfl) (by kernel_rfl)
      obtain ⟨a0, a1', a2, a3, a4⟩ := (HA.out.keep hA.ph.bel).cells
      obtain ⟨t0, t1⟩ := hA.ph.bs.c2
      refine opStep none 0 rfl rfl (fun c hc => by cases hc) ?_
      go_simp
      exact hK _ _ rfl trivial (hA.ph)
    · -- 9
      intro li a1 W2 hA K hK
      have e0 := hA.par 0 (by kernel_rfl)
      refine opStep none 0 rfl rfl (fun c hc => by cases hc) ?_
      go_simp
      exact hK _ _ rfl trivial (hA.ph)
    · -- 10
      intro li a1 W2 hA K hK
      have e9 := hA.par 9 (by kernel_rfl)
      refine opStep none 0 rfl rfl (fun c hc => by cases hc) ?_
      go_simp
      exact hK _ _ rfl trivial (hA.ph)
    · -- 11
      intro li a1 W2 hA K hK
      have e3 := hA.par 3 (by kernel_rfl)
      refine opStep none 0 rfl rfl (fun c hc => by cases hc) ?_
      go_simp
      exact hK _ _ rfl trivial (hA.ph)
    · -- 12
      intro li a1 W2 hA K hK
      have e54 : a1.tmps.getD 54 undef = .pointer (some ⟨w.heap.size, 1, none⟩) := hA.val 11 54 (by kernel_rfl) (by kernel_rfl)
      obtain ⟨a0, a1', a2, a3, a4⟩ := (HA.out.keep hA.ph.bel).cells
      obtain ⟨t0, t1⟩ := hA.ph.bs.c2
      refine opStep none 0 rfl rfl (fun c hc => by cases hc) ?_
      go_simp
      exact hK _ _ rfl trivial (hA.ph)
    · -- 13
      intro li a1 W2 hA K hK
      have e9 := hA.par 9 (by kernel_rfl)
      refine opStep none 0 rfl rfl (fun c hc => by cases hc) ?_
      go_simp
      exact hK _ _ rfl trivial (hA.ph)
    · -- 14
      intro li a1 W2 hA K hK
      have e56 : a1.tmps.getD 56 undef = .int .i64 0 := hA.val 13 56 (by kernel_rfl) (by kernel_rfl)
      refine opStep none 0 rfl rfl (fun c hc => by cases hc) ?_
      go_simp
      exact hK _ _ rfl trivial (hA.ph)
    · -- 15
      intro li a1 W2 hA K hK
      have e55 : a1.tmps.getD 55 undef = .int .i64 1 := hA.val 12 55 (by kernel_rfl) (by kernel_rfl)
      have e57 : a1.tmps.getD 57 undef = .int .i64 1 := hA.val 14 57 (by kernel_rfl) (by kernel_rfl)
      refine opStep none 0 rfl rfl (fun c hc => by cases hc) ?_
      go_simp
      exact hK _ _ rfl trivial (hA.ph)
    · -- 16
      intro li a1 W2 hA K hK
      have e53 : a1.tmps.getD 53 undef = .int .i64 0 := hA.val 10 53 (by kernel_rfl) (by kernel_rfl)
      have e58 : a1.tmps.getD 58 undef = .int .i64 0 := hA.val 15 58 (by kernel_rfl) (by kernel_rfl)
      have e53' : a1.tmps[53]?.getD undef = .int .i64 0 := by rw [← Array.getD_eq_getD_getElem?]; exact e53
      have e58' : a1.tmps[58]?.getD undef = .int .i64 0 := by rw [← Array.getD_eq_getD_getElem?]; exact e58
      refine opStep none 0 rfl rfl (fun c hc => by cases hc) ?_
      go_simp
      exact hK _ _ rfl trivial (hA.ph)
    · -- 17
      intro li a1 W2 hA K hK
      have e52 : a1.tmps.getD 52 undef = .pointer (some ⟨g, 0, none⟩) := hA.val 9 52 (by kernel_rfl) (by kernel_rfl)
      have e59 : a1.tmps.getD 59 undef = .agg #[.int .i64 0, .int .i64 0] := hA.val 16 59 (by kernel_rfl) (by kernel_rfl)
      refine opStep none 0 rfl rfl (fun c hc => by cases hc) ?_
      go_simp
      refine (wrest_zero W2 (HA.out.keep hA.ph.bel)).mono ?_
      rintro e W9 ⟨rfl, hb9⟩
      exact hK _ _ rfl trivial (hA.ph.keep hb9)
    · -- 18
      intro li a1 W2 hA K hK
      have e60 : a1.tmps.getD 60 undef = .agg #[.int .i64 0, .int .i64 0] := hA.val 17 60 (by kernel_rfl) (by kernel_rfl)
      refine opStep none 0 rfl rfl (fun c hc => by cases hc) ?_
      go_simp
      exact hK _ _ rfl trivial (hA.ph)
    · -- 19
      intro li a1 W2 hA K hK
      have e51 : a1.tmps.getD 51 undef = .int .i64 0 := hA.val 8 51 (by kernel_rfl) (by kernel_rfl)
      have e61 : a1.tmps.getD 61 undef = .int .i64 0 := hA.val 18 61 (by kernel_rfl) (by kernel_rfl)
      refine opStep none 0 rfl rfl (fun c hc => by cases hc) ?_
      go_simp
      exact hK _ _ rfl trivial (hA.ph)
  intro li a1 W2 hD
  have e62 : a1.tmps.getD 62 undef = .int .i64 0 := hD.val 19 62 (by kernel_rfl) (by kernel_rfl)
  have hsz : a1.tmps.size = 78 := hD.size
  have hkp2 := hD.keeps (ds := [43, 44, 45, 46, 47, 48, 49, 50, 51, 52, 53, 54, 55, 56, 57, 58, 59, 60, 61, 62, 10]) (by kernel_rfl)
  refine tail_val (i := 20) (v := .int .i64 0) (W' := W2) none 0 rfl rfl rfl (fun c hc => by cases hc) (by go_simp) (by rw [hsz]; decide) ?_
  intro a3 s3 d3 f3 o3
  have hkp3 := keeps_then hkp2 o3 (by decide)
  have e := act_mix [43, 44, 45, 46, 47, 48, 49, 50, 51, 52, 53, 54, 55, 56, 57, 58, 59, 60, 61, 62, 10] (s3.trans hD.size) (d3.trans hD.defers) (fun i _ hc => hkp3 i hc)
  have f6 : (fun i => a3.tmps.getD i undef) 10 = .int .i64 0 := f3
  generalize (fun i => a3.tmps.getD i undef) = g' at e f6
  refine wpListIn_nil ?_
  rw [e]
  have H5 := hid hD.ph
  clear e hD hkp2 hkp3 s3 d3 f3 o3 e62 hsz H4
  simp only [mix, List.contains_cons, List.contains_nil, Nat.reduceAdd, Nat.reduceBEq, Bool.or_false, Bool.or_true, cond_true, cond_false, f6]
  clear f6
  generalize W2 = W5 at *
  obtain ⟨y0, y1⟩ := H5.out.by_.c2
  have yf0 := H5.out.by_.frozen 0
  have yf1 := H5.out.by_.frozen 1
  have yl := H5.out.by_.lt
  go_wp2
  refine gen (p := Code.rounds _ _ _ _ _) (fun W => Ph10 w y 0 0 W) H5.out.set_ ?_
  clear y0 y1 yf0 yf1 yl H5
  rintro W6 h6
  have H6 := hid h6
  clear h6
  rw [rounds_succ]
  go_upto_region 14 with (fail)
  refine (wpIn_wide (n := 0)).1 ?_
  refine wpIn_region_each2 6 (fun i v W' => match i with | 0 => v = .pointer (some ⟨g, 0, none⟩) | 1 => v = .pointer (some ⟨g, 0, none⟩) | 2 => v = .pointer (some ⟨g, 130, none⟩) | 3 => v = .map (some mp) | 4 => v = .agg #[.int .i64 0, .int .i64 1] | 5 => v = .agg #[.int .i64 0, .int .i64 0] | _ => True) (fun _ _ => True) (fun _ _ W => Ph10 w y 0 0 W) (by kernel_rfl) (by kernel_rfl) ?_ (fun _ _ => trivial) trivial (H6.out.keep ⟨rfl, rfl, rfl, Nat.le_refl _, fun _ _ => rfl⟩) (by kernel_rfl) ?_ ?_
  · intro i v W1 W2 hb h; exact h
  · refine ⟨?_, ?_, ?_, ?_, ?_, ?_, trivial⟩
    · -- 0
      intro li a1 W2 hA K hK
      have e0 := hA.par 0 (by kernel_rfl)
      refine opStep none 0 rfl rfl (fun c hc => by cases hc) ?_
      go_simp
      exact hK _ _ rfl trivial (hA.ph)
    · -- 1
      intro li a1 W2 hA K hK
      have e71 : a1.tmps.getD 71 undef = .pointer (some ⟨g, 0, none⟩) := hA.val 0 71 (by kernel_rfl) (by kernel_rfl)
      refine opStep none 0 rfl rfl (fun c hc => by cases hc) ?_
      go_simp
      exact hK _ _ rfl trivial (hA.ph)
    · -- 2
      intro li a1 W2 hA K hK
      have e72 : a1.tmps.getD 72 undef = .pointer (some ⟨g, 0, none⟩) := hA.val 1 72 (by kernel_rfl) (by kernel_rfl)
      refine opStep none 0 rfl rfl (fun c hc => by cases hc) ?_
      go_simp
      exact hK _ _ rfl trivial (hA.ph)
    · -- 3
      intro li a1 W2 hA K hK
      have e73 : a1.tmps.getD 73 undef = .pointer (some ⟨g, 130, none⟩) := hA.val 2 73 (by kernel_rfl) (by kernel_rfl)
      obtain ⟨a0, a1', a2, a3, a4⟩ := (HA.out.keep hA.ph.bel).cells
      obtain ⟨t0, t1⟩ := hA.ph.bs.c2
      obtain ⟨y0, y1⟩ := hA.ph.by_.c2
      refine opStep none 0 rfl rfl (fun c hc => by cases hc) ?_
      go_simp
      exact hK _ _ rfl trivial (hA.ph)
    · -- 4
      intro li a1 W2 hA K hK
      have e3 := hA.par 3 (by kernel_rfl)
      obtain ⟨a0, a1', a2, a3, a4⟩ := (HA.out.keep hA.ph.bel).cells
      obtain ⟨t0, t1⟩ := hA.ph.bs.c2
      obtain ⟨y0, y1⟩ := hA.ph.by_.c2
      refine opStep none 0 rfl rfl (fun c hc => by cases hc) ?_
      go_simp
      exact hK _ _ rfl trivial (hA.ph)
    · -- 5
      intro li a1 W2 hA K hK
      have e7 := hA.par 7 (by kernel_rfl)
      obtain ⟨a0, a1', a2, a3, a4⟩ := (HA.out.keep hA.ph.bel).cells
      obtain ⟨t0, t1⟩ := hA.ph.bs.c2
      obtain ⟨y0, y1⟩ := hA.ph.by_.c2
      refine opStep none 0 rfl rfl (fun c hc => by cases hc) ?_
      go_simp
      exact hK _ _ rfl trivial (hA.ph)
  intro li a1 W2 hD
  have e74 : a1.tmps.getD 74 undef = .map (some mp) := hD.val 3 74 (by kernel_rfl) (by kernel_rfl)
  have e75 : a1.tmps.getD 75 undef = .agg #[.int .i64 0, .int .i64 1] := hD.val 4 75 (by kernel_rfl) (by kernel_rfl)
  have e76 : a1.tmps.getD 76 undef = .agg #[.int .i64 0, .int .i64 0] := hD.val 5 76 (by kernel_rfl) (by kernel_rfl)
  have hkp2 := hD.keeps (ds := [71, 72, 73, 74, 75, 76]) (by kernel_rfl)
  obtain ⟨es, ck, hrun, htone⟩ := tone_store ((hD.ph.bel.block _ (Array.getElem?_eq_some_iff.1 HM.out).1).trans HM.out)
  refine tail_store (i := 6) (W' := W2.putObj mp (.map es ck)) none 0 rfl rfl rfl (fun c hc => by cases hc) (by simp [execOp, Act.eval, e74, e75, e76, hrun, Result.andThen]) ?_
  have e := act_mix [71, 72, 73, 74, 75, 76] hD.size hD.defers (fun i _ hc => hkp2 i hc)
  generalize (fun i => a1.tmps.getD i undef) = g' at e
  refine wpListIn_nil ?_
  rw [e]
  have hmp := (Array.getElem?_eq_some_iff.1 HM.out).1
  have hyy := hD.ph.hy
  have H7 := hid (show MChg (fun q => q = mp) w (W2.putObj mp (.map es ck)) ∧ TOne (W2.putObj mp (.map es ck)) mp ∧ Blk (W2.putObj mp (.map es ck)) (w.heap.size + 1) 155 #[.int .i64 0, .int .i64 0] ∧ Blk (W2.putObj mp (.map es ck)) y 155 #[.int .i64 0, .int .i64 0] from ⟨MChg.putObj (Z := fun q => q = mp) (MChg.of_below hD.ph.bel) rfl _, htone, hD.ph.bl.put (by omega) _, hD.ph.by_.put (by omega) _⟩)
  have HMP := hid hmp
  clear e hD hkp2 e74 e75 e76 hrun htone hmp hyy H6
  simp only [mix, List.contains_cons, List.contains_nil, Nat.reduceAdd, Nat.reduceBEq, Bool.or_false, Bool.or_true, cond_true, cond_false]
  generalize W2.putObj mp (.map es ck) = W7 at *
  obtain ⟨y0, y1⟩ := H7.out.2.2.2.c2
  obtain ⟨l0, l1⟩ := H7.out.2.2.1.c2
  have lf0 := H7.out.2.2.1.frozen 0
  have lf1 := H7.out.2.2.1.frozen 1
  have ll := H7.out.2.2.1.lt
  go_wp2
  have hne : mp ≠ w.heap.size + 1 := by have := HMP.out; omega
  have HX := hid (show Blk ((W7.setCell ⟨w.heap.size + 1, 0, none⟩ (.int .i64 0)).setCell ⟨w.heap.size + 1, 1, none⟩ (.int .i64 0)) (w.heap.size + 1) 155 #[.int .i64 0, .int .i64 0] ∧ MChg (fun q => q = mp) w ((W7.setCell ⟨w.heap.size + 1, 0, none⟩ (.int .i64 0)).setCell ⟨w.heap.size + 1, 1, none⟩ (.int .i64 0)) ∧ TOne ((W7.setCell ⟨w.heap.size + 1, 0, none⟩ (.int .i64 0)).setCell ⟨w.heap.size + 1, 1, none⟩ (.int .i64 0)) mp from
    ⟨(H7.out.2.2.1.set_ 0 _).set_ 1 _, (H7.out.1.more (grown_of_set _ ⟨w.heap.size + 1, 0, none⟩ _) (Nat.le_succ _)).more (grown_of_set _ ⟨w.heap.size + 1, 1, none⟩ _) (Nat.le_succ _), by
      obtain ⟨es, ck, h1, h2⟩ := H7.out.2.1
      exact ⟨es, ck, (Below.heap_setCell _ ⟨w.heap.size + 1, 1, none⟩ _ _ hne).trans ((Below.heap_setCell _ ⟨w.heap.size + 1, 0, none⟩ _ _ hne).trans h1), h2⟩⟩)
  clear H7 y0 y1 l0 l1 lf0 lf1 ll
  generalize ((W7.setCell ⟨w.heap.size + 1, 0, none⟩ (.int .i64 0)).setCell ⟨w.heap.size + 1, 1, none⟩ (.int .i64 0)) = W8 at *
  obtain ⟨l0, l1⟩ := HX.out.1.c2
  exact bodyPost_ret (v := .agg #[.int .i64 0, .int .i64 0]) (by simp [results, Tryz.results65, go_sem, l0, l1]) rfl ⟨rfl, HX.out.2⟩
end Go.Proofs.YtlnamjhgbdacbaaGreat
/- The way, the time and the tour of one place. Conditions stand at each theorem. -/
namespace Go.Proofs.YtlnamjhgbdacbaaGreat
open Go.RowKit Go.Shelf

theorem leg_fields : (Tryz.prog.fieldsOf 155).toList.map (fun f => (f.type, f.offset)) = [(3, 0), (3, 1)] := by kernel_rfl
theorem leg_under : Tryz.prog.underlying 155 = some (.struct (Tryz.prog.fieldsOf 155)) := by kernel_rfl
theorem leg_field {u0 u1 : Value} (i : Nat) (a : Nat) (v : Value) (W : World) (hl : [(3, 0), (3, 1)][i]? = some (a, i)) (hv : #[u0, u1][i]? = some v) (ha : (isAgg a).run Tryz.prog W = .ok false W) : (Instr.field 155 (.agg #[u0, u1]) i).run Tryz.prog W = .ok v W := by
  obtain ⟨f, h1, h2, h3⟩ := field_at leg_fields hl
  have hv' : [u0, u1][i]? = some v := by simpa using hv
  simp [Instr.field, run_underlying leg_under, h1, h2, h3, part, asAgg, ha, hv', Result.andThen]
theorem leg_time (W : World) : (Instr.field 155 (.agg #[.int .i64 0, .int .i64 0]) 0).run Tryz.prog W = .ok (.int .i64 0) W := leg_field 0 3 _ W rfl rfl (by simp [go_sem, isAgg])
theorem leg_next (W : World) : (Instr.field 155 (.agg #[.int .i64 0, .int .i64 0]) 1).run Tryz.prog W = .ok (.int .i64 0) W := leg_field 1 3 _ W rfl rfl (by simp [go_sem, isAgg])

set_option maxRecDepth 100000 in
set_option maxHeartbeats 1000000 in
theorem wway_zero (v : Value) (w : World) : Calls Tryz.prog 44 #[v, .int .i64 0, .int .i64 0] w fun e w' => (∃ b, e = .returned (.slice (some ⟨b, 0, none⟩) 1 1)) ∧ Below w.heap.size w w' := by
  have hB := below_box (w := w) #[.int .i64 0] 3
  have HB := hid hB
  clear hB
  go_enter Tryz.func44, Tryz.ntmps44
  go_wp2
  go_rounds 1
  go_ret
  exact ⟨⟨_, rfl⟩, HB.out⟩

set_option maxRecDepth 100000 in
set_option maxHeartbeats 2000000 in
theorem wlongest_one {g mp B : Nat} {c : Nat} {f : Value} (w : World) (h : AtOne w g mp (some ⟨B, 0, none⟩) c (.int .i64 0) f) (hm : w.heap[mp]? = some (.map #[] 0)) (hb : Blk w B 87 #[.int .i64 1, .int .i64 2]) (hg : g ≠ mp) (hB : B ≠ mp) :
    Calls Tryz.prog 47 #[.pointer (some ⟨g, 0, none⟩), .int .i64 1] w fun e w' => e = .returned (.int .i64 2) ∧ MChg (fun q => q = mp) w w' ∧ TOne w' mp := by
  have K1 := hid (wrest_miss w h hm)
  obtain ⟨cs, hc, hr⟩ := h.blk
  have HA := hid (And.intro hc hr)
  have HB := hid hb
  clear h hm hc hr hb
  go_enter Tryz.func47, Tryz.ntmps47
  go_wp2_with fail
  refine K1.out.mono ?_
  rintro e w2 ⟨rfl, hch, hto⟩
  have H2 := hid (And.intro hch hto)
  have hlt := leg_time w2
  clear hch hto K1
  go_wp2_with fail
  refine (wlist_one' _).mono ?_
  rintro e w3 ⟨a, cc, rfl, h1, h2, h3, h4, hb3⟩
  have H3 := hid (And.intro (H2.out.1.trans (MChg.of_below (Z := fun q => q = mp) hb3)) (H2.out.2.keep hb3))
  unfold maxLen at h2
  have hA : AtOne w3 g mp (some ⟨B, 0, none⟩) c (.int .i64 0) f := ⟨cs, H3.out.1.blk HA.out.1 hg, HA.out.2⟩
  obtain ⟨a0, a1, a2, a3, a4⟩ := hA.cells
  obtain ⟨b0, b1⟩ := (H3.out.1.blk HB.out hB).c2
  clear H2 hb3 hA
  go_wp2
  go_rounds 2
  go_ret
  exact ⟨rfl, H3.out⟩
end Go.Proofs.YtlnamjhgbdacbaaGreat
/- The tour of one place. Conditions stand at each theorem. -/
namespace Go.Proofs.YtlnamjhgbdacbaaGreat
open Go.RowKit Go.Shelf

set_option maxHeartbeats 1000000 in
theorem append_none (W : World) (r q : Addr) (m : Nat) : (Builtin.append_ #[22, 22] 22 #[.slice (some r) 1 1, .slice (some q) 0 m]).run Tryz.prog W = .ok (.slice (some r) 1 1) W := by
  obtain ⟨i0, hi0, hz0, hz1, hz2⟩ := info_parts int_info
  exact run_append_nothing (P := Tryz.prog) W 22 22 22 3 i0 Tryz.underlying22 hi0 (some r) 1 1 (Nat.le_refl _) (.slice (some q) 0 m) (Src.ofSlice W Tryz.underlying22 q 0 m [] (by simp) (fun j u h => by simp at h) (fun u h => by simp at h))

set_option maxRecDepth 100000 in
set_option maxHeartbeats 4000000 in
theorem wtour_one {g mp : Nat} {A : Option Addr} {c : Nat} {f : Value} (w : World) (h : AtOne w g mp A c (.int .i64 0) f) (hm : TOne w mp) :
    Calls Tryz.prog 36 #[.pointer (some ⟨g, 0, none⟩), .int .i64 1] w fun e w' => (∃ b a c, e = .returned (.agg #[.slice (some ⟨b, 0, none⟩) 1 1, .slice (some a) 1 c])) ∧ Below w.heap.size w w' := by
  have hB := below_box (w := w) #[.slice none 0 0, .slice none 0 0] 73
  have hT := Blk.new w 73 #[.slice none 0 0, .slice none 0 0]
  have HA := hid h
  have HM := hid hm
  have HS := hid (And.intro hB hT)
  clear h hm hB hT
  go_enter Tryz.func36, Tryz.ntmps36
  go_upto_region 1 with (fail)
  refine gen (p := Code.wp _ _ _ _) (fun W => Below w.heap.size w W ∧ Blk W w.heap.size 73 #[.slice none 0 0, .slice none 0 0]) HS.out ?_
  clear HS
  rintro W1 h1
  have H1 := hid h1
  clear h1
  go_wp2
  obtain ⟨r, hr⟩ : ∃ r, W1.heap.size = r := ⟨_, rfl⟩
  refine gen (p := Code.wp _ _ _ _) (fun W => (Below w.heap.size w W ∧ Blk W w.heap.size 73 #[.slice none 0 0, .slice none 0 0]) ∧ Blk W (r + 1) 153 #[.int .i64 0, .int .i64 1]) ⟨⟨(H1.out.1.alloc H1.out.1.size _).alloc (by have := H1.out.1.size; simp; omega) _, (H1.out.2.alloc _).alloc _⟩, by have h := Blk.new (W1.alloc (.cells #[.int .i64 0] 3)) 153 #[.int .i64 0, .int .i64 1]; rw [World.size_alloc, hr] at h; exact h⟩ ?_
  have HR := hid (show w.heap.size < r by rw [← hr]; exact H1.out.2.lt)
  simp only [hr]
  clear hr H1
  rintro W2 h2
  have H2 := hid h2
  obtain ⟨s0, s1⟩ := h2.2.c2
  clear h2
  have hap := append_none
  have hln := leg_next
  have hbits : bits BinOp.andNot IntKind.i64 1 1 = 0 := by decide
  refine wp_loop_rounds 2 ?_
  rw [rounds_succ]
  go_wp2_with fail
  refine (wrest_hit W2 (HA.out.keep H2.out.1.1) (HM.out.keep H2.out.1.1)).mono ?_
  rintro e W3 ⟨rfl, hb3⟩
  have H3 := hid (show (Below w.heap.size w W3 ∧ Blk W3 w.heap.size 73 #[.slice none 0 0, .slice none 0 0]) ∧ Blk W3 (r + 1) 153 #[.int .i64 0, .int .i64 1] from ⟨⟨H2.out.1.1.trans (hb3.mono H2.out.1.1.size), H2.out.1.2.keep hb3⟩, H2.out.2.keep hb3⟩)
  clear s0 s1 H2 hb3
  obtain ⟨s0, s1⟩ := H3.out.2.c2
  go_wp2_with fail
  refine (wway_zero _ W3).mono ?_
  rintro e W4 ⟨⟨b4, rfl⟩, hb4⟩
  have H4 := hid (show (Below w.heap.size w W4 ∧ Blk W4 w.heap.size 73 #[.slice none 0 0, .slice none 0 0]) ∧ Blk W4 (r + 1) 153 #[.int .i64 0, .int .i64 1] from ⟨⟨H3.out.1.1.trans (hb4.mono H3.out.1.1.size), H3.out.1.2.keep hb4⟩, H3.out.2.keep hb4⟩)
  clear s0 s1 H3 hb4
  obtain ⟨s0, s1⟩ := H4.out.2.c2
  have sf0 := H4.out.2.frozen 0
  have sf1 := H4.out.2.frozen 1
  have sl := H4.out.2.lt
  go_upto_region 6 with (fail)
  go_region
  go_wp2
  refine gen (p := Code.rounds _ _ _ _ _) (fun W => (Below w.heap.size w W ∧ Blk W w.heap.size 73 #[.slice none 0 0, .slice none 0 0]) ∧ Blk W (r + 1) 153 #[.int .i64 0, .int .i64 0]) ⟨⟨((H4.out.1.1.setCell (p := ⟨r + 1, 0, none⟩) (by show w.heap.size ≤ r + 1; have := HR.out; omega) _).setCell (p := ⟨r + 1, 1, none⟩) (by show w.heap.size ≤ r + 1; have := HR.out; omega) _).drew, ((H4.out.1.2.far (p := ⟨r + 1, 0, none⟩) (by show w.heap.size ≠ r + 1; have := HR.out; omega) _).far (p := ⟨r + 1, 1, none⟩) (by show w.heap.size ≠ r + 1; have := HR.out; omega) _).drew⟩, ((H4.out.2.set_ 0 _).set_ 1 _).drew⟩ ?_
  clear s0 s1 sf0 sf1 sl H4 hbits
  rintro W5 h5
  have H5 := hid h5
  obtain ⟨s0, s1⟩ := h5.2.c2
  clear h5
  rw [rounds_succ]
  go_wp2_with fail
  refine (wrest_zero W5 (HA.out.keep H5.out.1.1)).mono ?_
  rintro e W6 ⟨rfl, hb6⟩
  have H6 := hid (show (Below w.heap.size w W6 ∧ Blk W6 w.heap.size 73 #[.slice none 0 0, .slice none 0 0]) ∧ Blk W6 (r + 1) 153 #[.int .i64 0, .int .i64 0] from ⟨⟨H5.out.1.1.trans (hb6.mono H5.out.1.1.size), H5.out.1.2.keep hb6⟩, H5.out.2.keep hb6⟩)
  clear s0 s1 H5 hb6
  obtain ⟨s0, s1⟩ := H6.out.2.c2
  go_wp2_with fail
  refine (wway_zero _ W6).mono ?_
  rintro e W7 ⟨⟨b7, rfl⟩, hb7⟩
  have H7 := hid (show (Below w.heap.size w W7 ∧ Blk W7 w.heap.size 73 #[.slice none 0 0, .slice none 0 0]) ∧ Blk W7 (r + 1) 153 #[.int .i64 0, .int .i64 0] from ⟨⟨H6.out.1.1.trans (hb7.mono H6.out.1.1.size), H6.out.1.2.keep hb7⟩, H6.out.2.keep hb7⟩)
  clear s0 s1 H6 hb7
  obtain ⟨s0, s1⟩ := H7.out.2.c2
  go_wp2_with fail
  refine (wlist_one' W7).mono ?_
  rintro e W8 ⟨a8, c8, rfl, _, _, _, _, hb8⟩
  have H8 := hid (show Below w.heap.size w W8 ∧ Blk W8 w.heap.size 73 #[.slice none 0 0, .slice none 0 0] from ⟨H7.out.1.1.trans (hb8.mono H7.out.1.1.size), H7.out.1.2.keep hb8⟩)
  clear s0 s1 H7 hb8
  obtain ⟨q0, q1⟩ := H8.out.2.c2
  have qf0 := H8.out.2.frozen 0
  have qf1 := H8.out.2.frozen 1
  have ql := H8.out.2.lt
  go_wp2
  have HX := hid (show Blk ((W8.setCell ⟨w.heap.size, 0, none⟩ (.slice (some ⟨r, 0, none⟩) 1 1)).setCell ⟨w.heap.size, 1, none⟩ (.slice (some a8) 1 c8)) w.heap.size 73 #[.slice (some ⟨r, 0, none⟩) 1 1, .slice (some a8) 1 c8] ∧ Below w.heap.size w ((W8.setCell ⟨w.heap.size, 0, none⟩ (.slice (some ⟨r, 0, none⟩) 1 1)).setCell ⟨w.heap.size, 1, none⟩ (.slice (some a8) 1 c8)) from ⟨(H8.out.2.set_ 0 _).set_ 1 _, (H8.out.1.setCell (p := ⟨w.heap.size, 0, none⟩) (Nat.le_refl _) _).setCell (p := ⟨w.heap.size, 1, none⟩) (Nat.le_refl _) _⟩)
  clear H8 q0 q1 qf0 qf1 ql
  generalize ((W8.setCell ⟨w.heap.size, 0, none⟩ (.slice (some ⟨r, 0, none⟩) 1 1)).setCell ⟨w.heap.size, 1, none⟩ (.slice (some a8) 1 c8)) = W9 at *
  obtain ⟨q0, q1⟩ := HX.out.1.c2
  exact bodyPost_ret (v := .agg #[.slice (some ⟨r, 0, none⟩) 1 1, .slice (some a8) 1 c8]) (by simp [results, Tryz.results36, go_sem, q0, q1]) rfl ⟨⟨_, _, _, rfl⟩, HX.out.2⟩
end Go.Proofs.YtlnamjhgbdacbaaGreat
