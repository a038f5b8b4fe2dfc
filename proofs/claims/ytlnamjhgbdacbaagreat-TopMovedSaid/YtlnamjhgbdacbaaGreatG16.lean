/- The walks and the plain laws of this part of the program, part 16: what each computes. Conditions stand at each theorem. -/
import Derived.Deep.Cut
import Derived.Laws.CopyOwn
import Derived.StillTailTactics
import Derived.Test.YtlnamjhgbdacbaaGreatG1
import Derived.Test.YtlnamjhgbdacbaaGreatG6
import Derived.Test.YtlnamjhgbdacbaaGreatG8
import Derived.Test.YtlnamjhgbdacbaaGreatG9
import Derived.Test.YtlnamjhgbdacbaaGreatG11
import Derived.Test.YtlnamjhgbdacbaaGreatG13
import Derived.Test.YtlnamjhgbdacbaaGreatG14
import Derived.Test.YtlnamjhgbdacbaaGreatG15
/- Tour of a map with one place. Conditions stand at each theorem. -/
namespace Go.Proofs.YtlnamjhgbdacbaaGreat
open Go.RowKit Go.Shelf

theorem jns_one {w : World} {B : Nat} {x y : Int} (h : Blk w B 87 #[.int .i64 x, .int .i64 y]) : IsJns w w.heap.size (some ⟨B, 0, none⟩) [⟨x, y⟩] := by
  obtain ⟨h0, h1⟩ := h.c2
  intro k j hk
  cases k with
  | zero => simp at hk; subst hk; exact ⟨_, rfl, h.lt, h0, h1⟩
  | succ k => simp at hk
theorem ints_one' {w : World} {B t : Nat} {x : Int} (h : Blk w B t #[.int .i64 x]) : IsInts w w.heap.size (some ⟨B, 0, none⟩) [x] := by
  have h0 := h.c1
  intro k j hk
  cases k with
  | zero => simp at hk; subst hk; exact ⟨_, rfl, h.lt, h0⟩
  | succ k => simp at hk

set_option maxRecDepth 100000 in
set_option maxHeartbeats 4000000 in
theorem wtour_top {B P : Nat} (w : World) (hb : Blk w B 87 #[.int .i64 1, .int .i64 2]) (hp : Blk w P 3 #[.int .i64 0]) :
    Calls Tryz.prog 20 #[.agg #[.slice (some ⟨B, 0, none⟩) 1 1, .slice none 0 0], .slice (some ⟨P, 0, none⟩) 1 1] w fun e w' => (∃ b a c, e = .returned (.tuple #[.agg #[.slice (some ⟨b, 0, none⟩) 1 1, .slice (some a) 1 c], .int .i64 2, .int .i64 0])) ∧ Below w.heap.size w w' := by
  have hB := (below_box (w := w) #[.slice (some ⟨B, 0, none⟩) 1 1, .slice none 0 0] 65).alloc (below_box (w := w) #[.slice (some ⟨B, 0, none⟩) 1 1, .slice none 0 0] 65).size (.cells #[.slice none 0 0, .slice none 0 0] 73)
  have hT := (Blk.new w 65 #[.slice (some ⟨B, 0, none⟩) 1 1, .slice none 0 0]).alloc (.cells #[.slice none 0 0, .slice none 0 0] 73)
  have hL := Blk.new (w.alloc (.cells #[.slice (some ⟨B, 0, none⟩) 1 1, .slice none 0 0] 65)) 73 #[.slice none 0 0, .slice none 0 0]
  rw [World.size_alloc] at hL
  have HB := hid hb
  have HP := hid hp
  have HS := hid (And.intro hB (And.intro hT hL))
  have hmx : (1 : Nat) ≤ maxLen := by unfold maxLen; omega
  have HMX := hid hmx
  clear hb hp hB hT hL hmx
  go_enter Tryz.func20, Tryz.ntmps20
  go_upto_region 1 with (fail)
  refine gen (p := Code.wp _ _ _ _) (fun W => Below w.heap.size w W ∧ Blk W w.heap.size 65 #[.slice (some ⟨B, 0, none⟩) 1 1, .slice none 0 0] ∧ Blk W (w.heap.size + 1) 73 #[.slice none 0 0, .slice none 0 0]) HS.out ?_
  clear HS
  rintro W1 h1
  have H1 := hid h1
  obtain ⟨t0, t1⟩ := h1.2.1.c2
  clear h1
  go_wp2_with fail
  refine (wcheck_plain (some ⟨B, 0, none⟩) 1 [⟨1, 2⟩] W1 (jns_one (HB.out.keep H1.out.1)) (Nat.le_refl _) HMX.out (Nat.le_refl _) (by decide) (by decide)).mono ?_
  rintro e W2 ⟨rfl, hb⟩
  have H2 := hid (show Below w.heap.size w W2 ∧ Blk W2 w.heap.size 65 #[.slice (some ⟨B, 0, none⟩) 1 1, .slice none 0 0] ∧ Blk W2 (w.heap.size + 1) 73 #[.slice none 0 0, .slice none 0 0] from ⟨H1.out.1.trans (hb.mono H1.out.1.size), H1.out.2.1.keep hb, H1.out.2.2.keep hb⟩)
  clear t0 t1 hb H1
  obtain ⟨t0, t1⟩ := H2.out.2.1.c2
  go_wp2_with fail
  refine (wrises_one (some ⟨P, 0, none⟩) 1 W2).mono ?_
  rintro e W3 ⟨rfl, hb⟩
  have H3 := hid (show Below w.heap.size w W3 ∧ Blk W3 w.heap.size 65 #[.slice (some ⟨B, 0, none⟩) 1 1, .slice none 0 0] ∧ Blk W3 (w.heap.size + 1) 73 #[.slice none 0 0, .slice none 0 0] from ⟨H2.out.1.trans (hb.mono H2.out.1.size), H2.out.2.1.keep hb, H2.out.2.2.keep hb⟩)
  clear t0 t1 hb H2
  obtain ⟨t0, t1⟩ := H3.out.2.1.c2
  go_wp2_with fail
  refine (wplaces_one (some ⟨P, 0, none⟩) 1 1 1 (some ⟨B, 0, none⟩) (.slice none 0 0) W3 (ints_one' (HP.out.keep H3.out.1)) (Nat.le_refl _) HMX.out (Nat.le_refl _) (by decide)).mono ?_
  rintro e W4 ⟨rfl, hb⟩
  have H4 := hid (show Below w.heap.size w W4 ∧ Blk W4 w.heap.size 65 #[.slice (some ⟨B, 0, none⟩) 1 1, .slice none 0 0] ∧ Blk W4 (w.heap.size + 1) 73 #[.slice none 0 0, .slice none 0 0] from ⟨H3.out.1.trans (hb.mono H3.out.1.size), H3.out.2.1.keep hb, H3.out.2.2.keep hb⟩)
  clear t0 t1 hb H3
  obtain ⟨t0, t1⟩ := H4.out.2.1.c2
  have p0 := (HP.out.keep H4.out.1).c1
  have hbits : bits BinOp.or IntKind.i64 0 1 = 1 := by decide
  go_wp2
  refine wp_loop_rounds 2 ?_
  rw [rounds_succ]
  go_wp2
  rw [rounds_succ]
  go_wp2_with fail
  refine (watlas_one (some ⟨B, 0, none⟩) 1 W4).mono ?_
  rintro e W5 ⟨rfl, h5⟩
  have H5 := hid h5
  have H5b := hid (show Below w.heap.size w W5 ∧ Blk W5 (w.heap.size + 1) 73 #[.slice none 0 0, .slice none 0 0] ∧ Blk W5 B 87 #[.int .i64 1, .int .i64 2] from ⟨H4.out.1.trans (h5.below.mono H4.out.1.size), H4.out.2.2.keep h5.below, (HB.out.keep H4.out.1).keep h5.below⟩)
  have HLT := hid (show w.heap.size + 1 < W4.heap.size ∧ B < w.heap.size from ⟨H4.out.2.2.lt, HB.out.lt⟩)
  clear t0 t1 p0 h5 hbits
  go_wp2_with fail
  refine (wlongest_one W5 H5.out.at_ H5.out.mp H5b.out.2.2 (by omega) (by have := HLT.out; omega)).mono ?_
  rintro e W6 ⟨rfl, hch, hto⟩
  have HTO := hid hto
  have H6 := hid (show Below w.heap.size w W6 ∧ Blk W6 (w.heap.size + 1) 73 #[.slice none 0 0, .slice none 0 0] ∧ AtOne W6 (W4.heap.size + 2) (W4.heap.size + 1) (some ⟨B, 0, none⟩) 1 (.int .i64 0) (.int .i64 0) from
    ⟨H5b.out.1.trans (hch.below (n := w.heap.size) (fun k e => by have := HLT.out; omega) H5b.out.1.size), hch.blk H5b.out.2.1 (fun e => by have := HLT.out; omega), by
      obtain ⟨cs, hc, hr⟩ := H5.out.at_.blk
      exact ⟨cs, hch.blk hc (fun e => by omega), hr⟩⟩)
  clear hch hto H5 H5b
  go_wp2_with fail
  refine (wtour_one W6 H6.out.2.2 HTO.out).mono ?_
  rintro e W7 ⟨⟨b, a7, c7, rfl⟩, hb⟩
  have H7 := hid (show Below w.heap.size w W7 ∧ Blk W7 (w.heap.size + 1) 73 #[.slice none 0 0, .slice none 0 0] from ⟨H6.out.1.trans (hb.mono H6.out.1.size), H6.out.2.1.keep hb⟩)
  clear hb H6 HTO
  obtain ⟨q0, q1⟩ := H7.out.2.c2
  have qf0 := H7.out.2.frozen 0
  have qf1 := H7.out.2.frozen 1
  have ql := H7.out.2.lt
  go_wp2
  have HX := hid (show Blk ((W7.setCell ⟨w.heap.size + 1, 0, none⟩ (.slice (some ⟨b, 0, none⟩) 1 1)).setCell ⟨w.heap.size + 1, 1, none⟩ (.slice (some a7) 1 c7)) (w.heap.size + 1) 73 #[.slice (some ⟨b, 0, none⟩) 1 1, .slice (some a7) 1 c7] ∧ Below w.heap.size w ((W7.setCell ⟨w.heap.size + 1, 0, none⟩ (.slice (some ⟨b, 0, none⟩) 1 1)).setCell ⟨w.heap.size + 1, 1, none⟩ (.slice (some a7) 1 c7)) from ⟨(H7.out.2.set_ 0 _).set_ 1 _, (H7.out.1.setCell (p := ⟨w.heap.size + 1, 0, none⟩) (Nat.le_succ _) _).setCell (p := ⟨w.heap.size + 1, 1, none⟩) (Nat.le_succ _) _⟩)
  clear H7 q0 q1 qf0 qf1 ql
  generalize ((W7.setCell ⟨w.heap.size + 1, 0, none⟩ (.slice (some ⟨b, 0, none⟩) 1 1)).setCell ⟨w.heap.size + 1, 1, none⟩ (.slice (some a7) 1 c7)) = W9 at *
  obtain ⟨q0, q1⟩ := HX.out.1.c2
  exact bodyPost_ret (v := .tuple #[.agg #[.slice (some ⟨b, 0, none⟩) 1 1, .slice (some a7) 1 c7], .int .i64 2, .int .i64 0]) (by simp [results, Tryz.results20, go_sem, q0, q1]) rfl ⟨⟨_, _, _, rfl⟩, HX.out.2⟩
end Go.Proofs.YtlnamjhgbdacbaaGreat
/- Rows of streets and of joins that a call makes. Conditions stand at each theorem. -/
namespace Go.Proofs.YtlnamjhgbdacbaaGreat
open Go.RowKit Go.Shelf

def sttL (s : Stt) : List Value := [.int .i64 s.o, .int .i64 s.n, .int .i64 s.wt, .int .i64 s.lo, .int .i64 s.hi]
def sttsL (ss : List Stt) : List Value := ss.flatMap sttL
def jnL (j : Jn) : List Value := [.int .i64 j.a, .int .i64 j.b]
def jnsL (js : List Jn) : List Value := js.flatMap jnL
theorem sttsL_snoc (ss : List Stt) (s : Stt) : sttsL (ss ++ [s]) = sttsL ss ++ sttL s := by simp [sttsL]
theorem jnsL_snoc (js : List Jn) (j : Jn) : jnsL (js ++ [j]) = jnsL js ++ jnL j := by simp [jnsL]
theorem sttsL_len : ∀ ss : List Stt, (sttsL ss).length = ss.length * 5
  | [] => rfl
  | s :: l => by
    have : sttsL (s :: l) = sttL s ++ sttsL l := rfl
    rw [this, List.length_append, sttsL_len l]
    simp [sttL]; omega
theorem jnsL_len : ∀ js : List Jn, (jnsL js).length = js.length * 2
  | [] => rfl
  | s :: l => by
    have : jnsL (s :: l) = jnL s ++ jnsL l := rfl
    rw [this, List.length_append, jnsL_len l]
    simp [jnL]; omega
theorem sttsL_at : ∀ {ss : List Stt} {k : Nat} {s : Stt}, ss[k]? = some s → (sttsL ss)[k * 5]? = some (.int .i64 s.o) ∧ (sttsL ss)[k * 5 + 1]? = some (.int .i64 s.n) ∧ (sttsL ss)[k * 5 + 2]? = some (.int .i64 s.wt) ∧ (sttsL ss)[k * 5 + 3]? = some (.int .i64 s.lo) ∧ (sttsL ss)[k * 5 + 4]? = some (.int .i64 s.hi)
  | [], k, s, h => by simp at h
  | q :: l, 0, s, h => by
    simp at h; subst h
    exact ⟨rfl, rfl, rfl, rfl, rfl⟩
  | q :: l, k + 1, s, h => by
    have : sttsL (q :: l) = .int .i64 q.o :: .int .i64 q.n :: .int .i64 q.wt :: .int .i64 q.lo :: .int .i64 q.hi :: sttsL l := rfl
    have ih := sttsL_at (ss := l) (k := k) (s := s) (by simpa using h)
    rw [this, show (k + 1) * 5 = k * 5 + 1 + 1 + 1 + 1 + 1 by omega]
    exact ih
theorem jnsL_at : ∀ {js : List Jn} {k : Nat} {j : Jn}, js[k]? = some j → (jnsL js)[k * 2]? = some (.int .i64 j.a) ∧ (jnsL js)[k * 2 + 1]? = some (.int .i64 j.b)
  | [], k, s, h => by simp at h
  | q :: l, 0, s, h => by
    simp at h; subst h
    exact ⟨rfl, rfl⟩
  | q :: l, k + 1, s, h => by
    have : jnsL (q :: l) = .int .i64 q.a :: .int .i64 q.b :: jnsL l := rfl
    have ih := jnsL_at (js := l) (k := k) (j := s) (by simpa using h)
    rw [this, show (k + 1) * 2 = k * 2 + 1 + 1 by omega]
    exact ih
theorem sttL_one (s : Stt) : ∀ u ∈ sttL s, u.oneCell' = true := fun u hu => by
  simp only [sttL, List.mem_cons, List.not_mem_nil, or_false] at hu
  rcases hu with rfl | rfl | rfl | rfl | rfl <;> rfl
theorem sttsL_one (ss : List Stt) : ∀ u ∈ sttsL ss, u.oneCell' = true := fun u hu => by
  obtain ⟨s, _, h⟩ := List.mem_flatMap.1 hu
  exact sttL_one s u h
theorem jnL_one (j : Jn) : ∀ u ∈ jnL j, u.oneCell' = true := fun u hu => by
  simp only [jnL, List.mem_cons, List.not_mem_nil, or_false] at hu
  rcases hu with rfl | rfl <;> rfl
theorem jnsL_one (js : List Jn) : ∀ u ∈ jnsL js, u.oneCell' = true := fun u hu => by
  obtain ⟨s, _, h⟩ := List.mem_flatMap.1 hu
  exact jnL_one s u h
theorem own_stts {W : World} {base n e : Nat} {v : Value} {ss : List Stt} (h : W.ownsRow base e 5 v n (sttsL ss)) (hn : n = ss.length) : ∃ A c, v = .slice A ss.length c ∧ IsStts W W.heap.size A ss ∧ ss.length ≤ c ∧ c ≤ maxLen ∧ (∀ a, A = some a → base ≤ a.block) ∧ (A = none → c = 0) := by
  subst hn
  rcases h.2 with ⟨e, h0⟩ | ⟨z, cap, cur, e, hb, _, hl, hm, _⟩
  · have : ss = [] := List.eq_nil_of_length_eq_zero h0
    subst this
    exact ⟨none, 0, e, fun k p hk => by simp at hk, Nat.le_refl _, Nat.zero_le _, (fun a e => by cases e), fun _ => rfl⟩
  · refine ⟨some ⟨z, 0, none⟩, cap, e, fun k p hk => ?_, hl, hm, (fun a e => by cases e; exact hb), fun e => by cases e⟩
    obtain ⟨q1, q2, q3, q4, q5⟩ := sttsL_at hk
    have c1 := h.cells (g := z) (by rw [e]; rfl) _ _ q1
    have c2 := h.cells (g := z) (by rw [e]; rfl) _ _ q2
    have c3 := h.cells (g := z) (by rw [e]; rfl) _ _ q3
    have c4 := h.cells (g := z) (by rw [e]; rfl) _ _ q4
    have c5 := h.cells (g := z) (by rw [e]; rfl) _ _ q5
    rw [add_blk] at c1 c2 c3 c4 c5
    have hz := World.block_lt_of_cell? W _ c1
    refine ⟨⟨z, 0, none⟩, rfl, hz, ?_⟩
    rw [add_blk]
    exact ⟨c1, c2, c3, c4, c5⟩
theorem own_jns {W : World} {base n e : Nat} {v : Value} {js : List Jn} (h : W.ownsRow base e 2 v n (jnsL js)) (hn : n = js.length) : ∃ A c, v = .slice A js.length c ∧ IsJns W W.heap.size A js ∧ js.length ≤ c ∧ c ≤ maxLen ∧ (∀ a, A = some a → base ≤ a.block) ∧ (A = none → c = 0) := by
  subst hn
  rcases h.2 with ⟨e, h0⟩ | ⟨z, cap, cur, e, hb, _, hl, hm, _⟩
  · have : js = [] := List.eq_nil_of_length_eq_zero h0
    subst this
    exact ⟨none, 0, e, fun k p hk => by simp at hk, Nat.le_refl _, Nat.zero_le _, (fun a e => by cases e), fun _ => rfl⟩
  · refine ⟨some ⟨z, 0, none⟩, cap, e, fun k p hk => ?_, hl, hm, (fun a e => by cases e; exact hb), fun e => by cases e⟩
    obtain ⟨q1, q2⟩ := jnsL_at hk
    have c1 := h.cells (g := z) (by rw [e]; rfl) _ _ q1
    have c2 := h.cells (g := z) (by rw [e]; rfl) _ _ q2
    rw [add_blk] at c1 c2
    have hz := World.block_lt_of_cell? W _ c1
    refine ⟨⟨z, 0, none⟩, rfl, hz, ?_⟩
    rw [add_blk]
    exact ⟨c1, c2⟩
/-- two rows of different elements lie apart -/
theorem rows_ne {W : World} {base base' e e' size size' n n' : Nat} {v v' : Value} {xs xs' : List Value} (h : W.ownsRow base e size v n xs) (h' : W.ownsRow base' e' size' v' n' xs') (hne : e ≠ e') : v.ownBlock = none ∨ v.ownBlock ≠ v'.ownBlock := by
  rcases h'.2 with ⟨ev, _⟩ | ⟨z, cap, cur, ev, _, hb, _⟩
  · subst ev
    cases hv : v.ownBlock with
    | none => exact .inl rfl
    | some g => exact .inr (by intro e; cases e)
  · subst ev
    exact mown_ne h fun cs hcs => by
      rw [hb] at hcs
      cases hcs
      exact hne rfl
/-- numbers in a block of numbers -/
def IntsB (A : Option Addr) (xs : List Int) (W : World) : Prop := IsInts W W.heap.size A xs ∧ ∀ a, A = some a → ∃ cs, Blk W a.block 3 cs
theorem IntsB.to {A : Option Addr} {xs : List Int} {W W' : World} (h : IntsB A xs W) (hs : W.heap.size ≤ W'.heap.size) (hb : ∀ (g : Nat) (cs : Array Value), Blk W g 3 cs → Blk W' g 3 cs) : IntsB A xs W' := by
  refine ⟨fun k x hk => ?_, fun a e => ?_⟩
  · obtain ⟨a, e, hl, hc⟩ := h.1 k x hk
    obtain ⟨cs, h1⟩ := h.2 a e
    refine ⟨a, e, by omega, ?_⟩
    have h2 := hb _ _ h1
    unfold World.cell? at hc ⊢
    rw [block_of_add] at hc ⊢
    rw [show W'.heap[a.block]? = _ from h2]
    rw [show W.heap[a.block]? = _ from h1] at hc
    exact hc
  · obtain ⟨cs, h1⟩ := h.2 a e
    exact ⟨cs, hb _ _ h1⟩
theorem bstt_info : (Tryz.prog.info? 70).map (fun i => (i.zero, i.size, i.bytes)) = some (some (.agg #[.int .i64 0, .int .i64 0, .int .i64 0, .int .i64 0, .int .i64 0]), 5, 40) := by kernel_rfl
theorem bjn_info : (Tryz.prog.info? 77).map (fun i => (i.zero, i.size, i.bytes)) = some (some (.agg #[.int .i64 0, .int .i64 0]), 2, 16) := by kernel_rfl
theorem stt_blk {W : World} {g t : Nat} {s : Stt} (h : Blk W g t (sttL s).toArray) : ∀ (j : Nat) (x : Value), (sttL s)[j]? = some x → W.cell? ((⟨g, 0, none⟩ : Addr).add j) = some x := by
  intro q x hq
  rw [add_blk, h.cell]
  simpa using hq
theorem jn_blk {W : World} {g t : Nat} {j : Jn} (h : Blk W g t (jnL j).toArray) : ∀ (k : Nat) (x : Value), (jnL j)[k]? = some x → W.cell? ((⟨g, 0, none⟩ : Addr).add k) = some x := by
  intro q x hq
  rw [add_blk, h.cell]
  simpa using hq
theorem take_snoc_at {α : Type} {l : List α} {k : Nat} {x : α} (h : l[k]? = some x) : l.take (k + 1) = l.take k ++ [x] := by
  obtain ⟨hk, rfl⟩ := List.getElem?_eq_some_iff.1 h
  exact List.take_succ_eq_append_getElem hk
/-- the program's map under construction -/
structure MapI (m : MapD) (A : Option Addr) (c : Nat) (A2 : Option Addr) (c2 : Nat) (A3 : Option Addr) (c3 : Nat) (P : Option Addr) (p Bo : Nat) (v2 v3 : Value) (k2 k3 : Nat) (w W : World) : Prop where
  bt : Blk W w.heap.size 26 #[.slice A m.old.length c, .int .i64 m.nw, .slice A2 m.ss.length c2, .slice A3 m.js.length c3]
  b2 : Blk W (w.heap.size + 1) 36 #[.slice none 0 0, .int .i64 0, .slice none 0 0, .slice none 0 0]
  bo : Blk W Bo 36 #[.slice P m.old.length p, .int .i64 m.nw, v2, v3]
  io : IntsB P m.old W
  s2 : W.ownsRow w.heap.size 70 5 v2 k2 (sttsL (m.ss.take k2))
  s3 : W.ownsRow w.heap.size 77 2 v3 k3 (jnsL (m.js.take k3))
  bl : Below w.heap.size w W
  ne : w.heap.size + 1 < Bo
section
variable {m : MapD} {A : Option Addr} {c : Nat} {A2 : Option Addr} {c2 : Nat} {A3 : Option Addr} {c3 : Nat} {P : Option Addr} {p Bo : Nat} {v2 v3 v' : Value} {k2 k3 : Nat} {w W W' : World}
theorem MapI.at_ (h : MapI m A c A2 c2 A3 c3 P p Bo v2 v3 k2 k3 w W) (hb : Below W.heap.size W W') : MapI m A c A2 c2 A3 c3 P p Bo v2 v3 k2 k3 w W' :=
  ⟨h.bt.keep hb, h.b2.keep hb, h.bo.keep hb, h.io.to hb.size fun _ _ q => q.keep hb, row_kept (vo := .slice none 0 0) h.s2 (grown_of_below hb _) (.inl rfl), row_kept (vo := .slice none 0 0) h.s3 (grown_of_below hb _) (.inl rfl), h.bl.trans (hb.mono h.bl.size), h.ne⟩
theorem MapI.add2 {s : Stt} (h : MapI m A c A2 c2 A3 c3 P p Bo v2 v3 k2 k3 w W) (hs : m.ss[k2]? = some s) (hg : W.grownBy W' v2.ownBlock) (ho : W'.ownsRow w.heap.size 70 5 v' (k2 + 1) (sttsL (m.ss.take k2) ++ sttL s)) :
    MapI m A c A2 c2 A3 c3 P p Bo v' v3 (k2 + 1) k3 w (W'.setCell ⟨Bo, 2, none⟩ v') := by
  have hbo := blk_grown h.s2 hg h.bo (by decide)
  have hne := h.ne
  have hsz : (W'.setCell ⟨Bo, 2, none⟩ v').heap.size = W'.heap.size := by simp [World.setCell]
  refine ⟨(blk_grown h.s2 hg h.bt (by decide)).far (p := ⟨Bo, 2, none⟩) (show w.heap.size ≠ Bo by omega) _, (blk_grown h.s2 hg h.b2 (by decide)).far (p := ⟨Bo, 2, none⟩) (show w.heap.size + 1 ≠ Bo by omega) _, hbo.set_ 2 v', ?_, ?_, ?_, ?_, h.ne⟩
  · refine h.io.to (by rw [hsz]; exact hg.size) fun g cs q => ?_
    have q' := blk_grown h.s2 hg q (by decide)
    exact q'.far (p := ⟨Bo, 2, none⟩) (Blk.ne_ q' hbo (by decide)) _
  · rw [take_snoc_at hs, sttsL_snoc]
    exact row_set ho hbo (by decide) _
  · exact row_set (row_kept h.s3 hg (rows_ne h.s2 h.s3 (by decide))) hbo (by decide) _
  · exact (below_row' h.bl h.s2 (Nat.le_refl _) hg h.bl.size).setCell (p := ⟨Bo, 2, none⟩) (show w.heap.size ≤ Bo by omega) _
theorem MapI.add3 {j : Jn} (h : MapI m A c A2 c2 A3 c3 P p Bo v2 v3 k2 k3 w W) (hs : m.js[k3]? = some j) (hg : W.grownBy W' v3.ownBlock) (ho : W'.ownsRow w.heap.size 77 2 v' (k3 + 1) (jnsL (m.js.take k3) ++ jnL j)) :
    MapI m A c A2 c2 A3 c3 P p Bo v2 v' k2 (k3 + 1) w (W'.setCell ⟨Bo, 3, none⟩ v') := by
  have hbo := blk_grown h.s3 hg h.bo (by decide)
  have hne := h.ne
  have hsz : (W'.setCell ⟨Bo, 3, none⟩ v').heap.size = W'.heap.size := by simp [World.setCell]
  refine ⟨(blk_grown h.s3 hg h.bt (by decide)).far (p := ⟨Bo, 3, none⟩) (show w.heap.size ≠ Bo by omega) _, (blk_grown h.s3 hg h.b2 (by decide)).far (p := ⟨Bo, 3, none⟩) (show w.heap.size + 1 ≠ Bo by omega) _, hbo.set_ 3 v', ?_, ?_, ?_, ?_, h.ne⟩
  · refine h.io.to (by rw [hsz]; exact hg.size) fun g cs q => ?_
    have q' := blk_grown h.s3 hg q (by decide)
    exact q'.far (p := ⟨Bo, 3, none⟩) (Blk.ne_ q' hbo (by decide)) _
  · exact row_set (row_kept h.s2 hg (rows_ne h.s3 h.s2 (by decide))) hbo (by decide) _
  · rw [take_snoc_at hs, jnsL_snoc]
    exact row_set ho hbo (by decide) _
  · exact (below_row' h.bl h.s3 (Nat.le_refl _) hg h.bl.size).setCell (p := ⟨Bo, 3, none⟩) (show w.heap.size ≤ Bo by omega) _
end
end Go.Proofs.YtlnamjhgbdacbaaGreat
/- The search for the best borders: what move computes. Conditions stand at each theorem. -/
namespace Go.Proofs.YtlnamjhgbdacbaaGreat
open Go.RowKit Go.Shelf

theorem MChg.off {Z : Nat → Prop} {A B D : World} (h : MChg Z A B) {g o : Nat} (hg : A.heap.size ≤ g) (v : Value) (e : D = B.setCell ⟨g, o, none⟩ v) : MChg Z A D := by
  subst e
  exact h.rows (Y := fun q => q = g) ((MChg.refl (Z := fun q => q = g) (A := B)).set rfl v) (fun q e => by omega)
theorem WAt.chg {m : MapD} {A : Option Addr} {c : Nat} {A2 : Option Addr} {c2 : Nat} {A3 : Option Addr} {c3 : Nat} {g b Bf t : Nat} {us : Array Value} {W W' : World} (h : WAt m A c A2 c2 A3 c3 g b W) (hf : Blk W Bf t us) (ht : t ≠ 159) (hc : MChg (fun q => q = Bf) W W') : WAt m A c A2 c2 A3 c3 g b W' :=
  ⟨hc.blk h.blk (fun e => by subst e; exact Blk.ne_ h.blk hf (fun e => ht e.symm) rfl), h.mp.chg hc (fun e => h.mp.ne hf e.symm)⟩
def set8 (W : World) (g : Nat) (f : Nat → Int) : World := (((((((W.setCell ⟨g, 0, none⟩ (.int .i64 (f 0))).setCell ⟨g, 1, none⟩ (.int .i64 (f 1))).setCell ⟨g, 2, none⟩ (.int .i64 (f 2))).setCell ⟨g, 3, none⟩ (.int .i64 (f 3))).setCell ⟨g, 4, none⟩ (.int .i64 (f 4))).setCell ⟨g, 5, none⟩ (.int .i64 (f 5))).setCell ⟨g, 6, none⟩ (.int .i64 (f 6))).setCell ⟨g, 7, none⟩ (.int .i64 (f 7))
theorem set8_chg (W : World) (g : Nat) (f : Nat → Int) : MChg (fun q => q = g) W (set8 W g f) :=
  (((((((MChg.refl (Z := fun q => q = g) (A := W)).set rfl _).set rfl _).set rfl _).set rfl _).set rfl _).set rfl _).set rfl _ |>.set rfl _
theorem set8_blk {W : World} {g t : Nat} {f0 : Nat → Int} (h : Blk W g t (liC f0)) (f : Nat → Int) : Blk (set8 W g f) g t (liC f) := by
  have q := (((((((h.set_ 0 (.int .i64 (f 0))).set_ 1 (.int .i64 (f 1))).set_ 2 (.int .i64 (f 2))).set_ 3 (.int .i64 (f 3))).set_ 4 (.int .i64 (f 4))).set_ 5 (.int .i64 (f 5))).set_ 6 (.int .i64 (f 6))).set_ 7 (.int .i64 (f 7))
  simp only [liC, List.setIfInBounds_toArray, List.set_cons_zero, List.set_cons_succ] at q
  exact q
section
variable {w0 : World} {m : MapD} {A : Option Addr} {c : Nat} {A2 : Option Addr} {c2 : Nat} {A3 : Option Addr} {c3 : Nat} {g b Bw Bf Bl Bv : Nat} {lo hi : Int} {W W' : World}
end
/-- what the search hands back -/
def GivesMv (Bf : Nat) (r : Option (Nat → Int)) (W : World) (e : Ending) (W' : World) : Prop := e = .returned (.bool r.isSome) ∧ MChg (fun q => q = Bf) W W' ∧ ∃ l', Blk W' Bf 120 (liC l') ∧ ∀ l'', r = some l'' → l' = l''

/-- what the search gives for the d-th district -/
def mvF (m : MapD) (lo hi : Int) (f : Nat) (l : Nat → Int) (s : Nat) (many : Int) (d : Nat) : Option (Nat → Int) := if 0 ≤ many - mc m s (d : Int) then mv m lo hi f (setL l s (d : Int)) (s + 1) (many - mc m s (d : Int)) else none
theorem mv_find {m : MapD} {lo hi : Int} {f s : Nat} {l : Nat → Int} {many : Int} (h : ¬ ((f : Int) + 1) < many) : mv m lo hi (f + 1) l s many = (List.range m.nw.toNat).findSome? (mvF m lo hi f l s many) := by
  rw [mv_succ, if_neg h]; rfl
theorem setL_same {l l1 : Nat → Int} {s : Nat} {d : Int} (h : ∀ i, i ≠ s → l1 i = l i) : setL l1 s d = setL l s d := by
  funext i
  unfold setL
  split
  · rfl
  · exact h i (by assumption)
theorem setL_off {l : Nat → Int} {s : Nat} {d : Int} : ∀ i, i ≠ s → setL l s d i = l i := fun _ hi => if_neg hi
end Go.Proofs.YtlnamjhgbdacbaaGreat
/- Best: the best borders. Conditions stand at each theorem. -/
namespace Go.Proofs.YtlnamjhgbdacbaaGreat
open Go.RowKit Go.Shelf

/-- what Best hands back of a map and limits without fault -/
def GivesBBest (m : MapD) (lo hi : Int) (w : World) (e : Ending) (w' : World) : Prop := Below w.heap.size w w' ∧
  match bestB m lo hi with
  | none => e = .returned (.tuple #[.slice none 0 0, .int .i64 0, .int .i64 7])
  | some (j, l) => ∃ A c, e = .returned (.tuple #[.slice A (lst m l).length c, .int .i64 (j : Int), .int .i64 0]) ∧ (lst m l).length ≤ c ∧ c ≤ maxLen ∧ IsInts w' w'.heap.size A (lst m l)

end Go.Proofs.YtlnamjhgbdacbaaGreat
/- ProveBorders. Conditions stand at each theorem. -/
namespace Go.Proofs.YtlnamjhgbdacbaaGreat
open Go.RowKit Go.Shelf

def fnO (xs : List Int) : Nat → Int := fun i => xs.getD i 0
theorem fnO_get {xs : List Int} {i : Nat} {x : Int} (h : xs[i]? = some x) : fnO xs i = x := by simp [fnO, List.getD, h]
theorem fnO_lst {m : MapD} {l : Nat → Int} {i : Nat} (h : i < m.ss.length) : fnO (lst m l) i = l i := fnO_get (lst_get h)
def areB (m : MapD) (xs : List Int) : Bool := decide (xs.length = m.ss.length) && xs.all fun x => inB x 0 (m.nw - 1)
def pbB (m : MapD) (xs : List Int) (lo hi mv : Int) : Bool := decide (askE m lo hi = 0) && (areB m xs && (decide (movN m (fnO xs) m.ss.length ≤ mv) && rightB m (fnO xs) lo hi))
theorem copied {xs : List Int} (h : xs.length ≤ 8) : (splice (List.replicate 8 (Value.int .i64 0)) 0 (xs.map (Value.int .i64))).toArray = liC (fnO xs) := by
  apply Array.ext_getElem?
  intro i
  have h8 : (liC (fnO xs)).size = 8 := rfl
  rcases Nat.lt_or_ge i 8 with hi | hi
  · rw [liC_get _ hi]
    unfold splice
    simp only [List.take_zero, List.nil_append, Nat.zero_add, List.getElem?_toArray]
    rcases Nat.lt_or_ge i xs.length with hl | hl
    · rw [List.getElem?_append_left (by simpa using hl), List.getElem?_map, List.getElem?_eq_getElem hl]
      simp [fnO, List.getD, List.getElem?_eq_getElem hl]
    · rw [List.getElem?_append_right (by simpa using hl), List.getElem?_drop]
      rw [List.getElem?_replicate, if_pos (by simp; omega)]
      simp [fnO, List.getD, List.getElem?_eq_none hl]
  · rw [Array.getElem?_eq_none (xs := liC (fnO xs)) (by rw [h8]; exact hi), Array.getElem?_eq_none]
    unfold splice
    simp
    omega
theorem min8 {xs : List Int} (h : xs.length ≤ 8) : (xs.map (Value.int .i64)).length = Nat.min xs.length 8 := by
  show _ = min xs.length 8
  rw [List.length_map]; omega
theorem pos_copy {xs : List Int} {Ax : Option Addr} {g n : Nat} {w : World} (h : IsInts w n Ax xs) (h0 : 0 < (xs.map (Value.int .i64)).length) : (some (⟨g, 0, none⟩ : Addr)) = some ⟨g, 0, none⟩ ∧ ∃ ad, Ax = some ad ∧ ∀ (j : Nat) (v : Value), (xs.map (Value.int .i64))[j]? = some v → w.cell? (ad.add j) = some v := by
  refine ⟨rfl, ?_⟩
  have h1 : 0 < xs.length := by simpa using h0
  obtain ⟨ad, e, _, _⟩ := h 0 xs[0] (List.getElem?_eq_getElem h1)
  refine ⟨ad, e, fun j v hv => ?_⟩
  rw [List.getElem?_map, Option.map_eq_some_iff] at hv
  obtain ⟨y, hy, rfl⟩ := hv
  obtain ⟨ad', e', _, hc⟩ := h j y hy
  rw [e] at e'
  cases e'
  exact hc
end Go.Proofs.YtlnamjhgbdacbaaGreat
/- The law's small tests: equal lists, equal ranges, sums. Conditions stand at each theorem. -/
namespace Go.Proofs.YtlnamjhgbdacbaaGreat
open Go.RowKit Go.Shelf

set_option maxRecDepth 10000 in
set_option maxHeartbeats 400000 in
theorem to_any (x y : Int) (w : World) : Calls Tryz.prog 26 #[.agg #[.int .i64 x, .int .i64 y]] w fun e w' => e = .returned (.agg #[.int .i64 x, .int .i64 y]) ∧ Below w.heap.size w w' := by
  go_enter Tryz.func26, Tryz.ntmps26
  go_wp2
  have b1 := ((Below.refl w.heap.size w).alloc (Nat.le_refl _) (.cells #[.int .i64 x, .int .i64 y] 43)).alloc (by simp) (.cells #[.int .i64 x, .int .i64 y] 68)
  have k1 := Blk.new (w.alloc (.cells #[.int .i64 x, .int .i64 y] 43)) 68 #[.int .i64 x, .int .i64 y]
  rw [World.size_alloc] at k1
  generalize ((w.alloc (.cells #[.int .i64 x, .int .i64 y] 43)).alloc (.cells #[.int .i64 x, .int .i64 y] 68)) = W at *
  obtain ⟨e0, e1⟩ := k1.c2
  exact bodyPost_ret (v := .agg #[.int .i64 x, .int .i64 y]) (by simp [results, Tryz.results26, go_sem, e0, e1]) rfl ⟨rfl, b1⟩
theorem IsRngs.below {w w' : World} {n : Nat} {A : Option Addr} {rs : List (Int × Int)} (h : IsRngs w n A rs) (hb : Below n w w') : IsRngs w' n A rs := fun k s hk => by
  obtain ⟨a, e, hl, h0, h1⟩ := h k s hk
  exact ⟨a, e, hl, (hb.cell (by rw [block_of_add]; exact hl)).trans h0, (hb.cell (by show (a.add _).block < _; rw [block_of_add]; exact hl)).trans h1⟩
end Go.Proofs.YtlnamjhgbdacbaaGreat
/- Map: the reference's map, as the program's. Conditions stand at each theorem. -/
namespace Go.Proofs.YtlnamjhgbdacbaaGreat
open Go.RowKit Go.Shelf

def set4 (W : World) (g : Nat) (u0 u1 u2 u3 : Value) : World := (((W.setCell ⟨g, 0, none⟩ u0).setCell ⟨g, 1, none⟩ u1).setCell ⟨g, 2, none⟩ u2).setCell ⟨g, 3, none⟩ u3
theorem grown_set (W : World) (p : Addr) (u : Value) : W.grownBy (W.setCell p u) (some p.block) := ⟨rfl, rfl, rfl, by simp [World.setCell], fun k _ hn => Below.heap_setCell W p u k (fun e => hn (by rw [e]))⟩
theorem grown_both {A B D : World} {g : Nat} (h : A.grownBy B (some g)) (k : B.grownBy D (some g)) : A.grownBy D (some g) :=
  ⟨k.os.trans h.os, k.tape.trans h.tape, k.output.trans h.output, Nat.le_trans h.size k.size, fun i hi hn => (k.block i (Nat.lt_of_lt_of_le hi h.size) hn).trans (h.block i hi hn)⟩
theorem grown4 (W : World) (g : Nat) (u0 u1 u2 u3 : Value) : W.grownBy (set4 W g u0 u1 u2 u3) (some g) :=
  grown_both (grown_both (grown_both (grown_set W ⟨g, 0, none⟩ u0) (grown_set _ ⟨g, 1, none⟩ u1)) (grown_set _ ⟨g, 2, none⟩ u2)) (grown_set _ ⟨g, 3, none⟩ u3)
theorem set4_blk {W : World} {g t : Nat} {v0 v1 v2 v3 : Value} (h : Blk W g t #[v0, v1, v2, v3]) (u0 u1 u2 u3 : Value) : Blk (set4 W g u0 u1 u2 u3) g t #[u0, u1, u2, u3] := (((h.set_ 0 u0).set_ 1 u1).set_ 2 u2).set_ 3 u3
/-- a map that a call has made -/
def GivesMap (m : MapD) (w : World) (e : Ending) (w' : World) : Prop :=
  ∃ P Q R : Option Addr × Nat, e = .returned (.agg #[.slice P.1 m.old.length P.2, .int .i64 m.nw, .slice Q.1 m.ss.length Q.2, .slice R.1 m.js.length R.2]) ∧ MIn m P.1 P.2 Q.1 Q.2 R.1 R.2 w' ∧ Below w.heap.size w w'

set_option maxRecDepth 100000 in
set_option maxHeartbeats 4000000 in
theorem map_any (m : MapD) (A : Option Addr) (c : Nat) (A2 : Option Addr) (c2 : Nat) (A3 : Option Addr) (c3 : Nat) (w : World) (h : MArg m A c A2 c2 A3 c3 w) (h7 : m.old.length ≤ 1000) (h11 : m.ss.length ≤ 1000) (h24 : m.js.length ≤ 1000) :
    Calls Tryz.prog 9 #[.agg #[.slice A m.old.length c, .int .i64 m.nw, .slice A2 m.ss.length c2, .slice A3 m.js.length c3]] w (GivesMap m w) := by
  have hm2 := h.m2
  have hl2 := h.l2
  have hm3 := h.m3
  have hl3 := h.l3
  unfold maxLen at hm2 hm3
  have hB := below_box (w := w) #[.slice A m.old.length c, .int .i64 m.nw, .slice A2 m.ss.length c2, .slice A3 m.js.length c3] 26
  have hB2 := hB.alloc hB.size (.cells #[.slice none 0 0, .int .i64 0, .slice none 0 0, .slice none 0 0] 36)
  have hT := (Blk.new w 26 #[.slice A m.old.length c, .int .i64 m.nw, .slice A2 m.ss.length c2, .slice A3 m.js.length c3]).alloc (.cells #[.slice none 0 0, .int .i64 0, .slice none 0 0, .slice none 0 0] 36)
  have hU := Blk.new (w.alloc (.cells #[.slice A m.old.length c, .int .i64 m.nw, .slice A2 m.ss.length c2, .slice A3 m.js.length c3] 26)) 36 #[.slice none 0 0, .int .i64 0, .slice none 0 0, .slice none 0 0]
  rw [World.size_alloc] at hU
  have HS := hid (And.intro hB2 (And.intro hT (And.intro hU (h.at_ hB2))))
  have HA := hid h
  clear hB hB2 hT hU h
  go_enter Tryz.func9, Tryz.ntmps9
  go_wp2
  generalize hW1 : ((w.alloc (.cells #[.slice A m.old.length c, .int .i64 m.nw, .slice A2 m.ss.length c2, .slice A3 m.js.length c3] 26)).alloc (.cells #[.slice none 0 0, .int .i64 0, .slice none 0 0, .slice none 0 0] 36)) = w1 at *
  clear hW1
  have KL := hid (fun (W : World) (hW : Below w1.heap.size w1 W) => list_any A c m.old W (HS.out.2.2.2.io.at_ hW) HS.out.2.2.2.z1 (by omega))
  refine (wpIn_wide (n := 0)).1 ?_
  refine wpIn_region_each 7 (fun i v W' => match i with | 0 => v = .pointer (some ⟨w.heap.size, 0, none⟩) | 1 => v = .slice A m.old.length c | 2 => ∃ y : Option Addr × Nat, v = .slice y.1 m.old.length y.2 ∧ m.old.length ≤ y.2 ∧ y.2 ≤ maxLen ∧ IntsB y.1 m.old W' | 3 => v = .pointer (some ⟨w.heap.size, 1, none⟩) | 4 => v = .int .i64 m.nw | 5 => ∃ y : Option Addr × Nat, v = .agg #[.slice y.1 m.old.length y.2, .int .i64 m.nw, .slice none 0 0, .slice none 0 0] ∧ m.old.length ≤ y.2 ∧ y.2 ≤ maxLen ∧ IntsB y.1 m.old W' | 6 => ∃ gl, v = .pointer (some ⟨gl, 0, none⟩) ∧ w1.heap.size ≤ gl ∧ Blk W' gl 36 #[.slice none 0 0, .int .i64 0, .slice none 0 0, .slice none 0 0] | _ => True) (fun A B => Below A.heap.size A B) (fun _ _ => True) (by kernel_rfl) (by kernel_rfl) ?_ (fun h k => h.trans (k.mono h.size)) ⟨rfl, rfl, rfl, Nat.le_refl _, fun _ _ => rfl⟩ trivial (by kernel_rfl) ?_ ?_
  · intro i v W1 W2 hb h
    match i, h with
    | 0, h => exact h
    | 1, h => exact h
    | 2, h =>
      obtain ⟨y, rfl, h1⟩ := h
      exact ⟨_, rfl, h1.1, h1.2.1, h1.2.2.to hb.size (fun _ _ q => q.keep hb)⟩
    | 3, h => exact h
    | 4, h => exact h
    | 5, h =>
      obtain ⟨y, rfl, h1⟩ := h
      exact ⟨_, rfl, h1.1, h1.2.1, h1.2.2.to hb.size (fun _ _ q => q.keep hb)⟩
    | 6, h =>
      obtain ⟨gl, rfl, h1⟩ := h
      exact ⟨_, rfl, h1.1, h1.2.keep hb⟩
    | i + 7, h => trivial
  · refine ⟨?_, ?_, ?_, ?_, ?_, ?_, ?_, trivial⟩
    · -- 0
      intro li a1 W2 hA K hK
      have e1 := hA.par 1 (by kernel_rfl)
      refine opStep none 0 rfl rfl (fun c hc => by cases hc) ?_
      go_simp
      exact hK _ _ rfl (Below.refl _ _) trivial
    · -- 1
      intro li a1 W2 hA K hK
      have e7 : a1.tmps.getD 7 undef = .pointer (some ⟨w.heap.size, 0, none⟩) := hA.val 0 7 (by kernel_rfl) (by kernel_rfl)
      obtain ⟨q1, q2, q3, q4⟩ := (HS.out.2.1.keep hA.st).c4
      refine opStep none 0 rfl rfl (fun c hc => by cases hc) ?_
      go_simp
      exact hK _ _ rfl (Below.refl _ _) trivial
    · -- 2
      intro li a1 W2 hA K hK
      have e8 : a1.tmps.getD 8 undef = .slice A m.old.length c := hA.val 1 8 (by kernel_rfl) (by kernel_rfl)
      refine opStep none 0 rfl rfl (fun c hc => by cases hc) ?_
      go_simp
      refine (KL.out W2 hA.st).mono ?_
      rintro e W3 ⟨P, p, rfl, z1, z2, z3, z4, z5, hb3⟩
      exact hK _ _ ⟨(P, p), rfl, z1, z2, z3, fun a e => (z4 a e).2⟩ hb3 trivial
    · -- 3
      intro li a1 W2 hA K hK
      have e1 := hA.par 1 (by kernel_rfl)
      refine opStep none 0 rfl rfl (fun c hc => by cases hc) ?_
      go_simp
      exact hK _ _ rfl (Below.refl _ _) trivial
    · -- 4
      intro li a1 W2 hA K hK
      have e10 : a1.tmps.getD 10 undef = .pointer (some ⟨w.heap.size, 1, none⟩) := hA.val 3 10 (by kernel_rfl) (by kernel_rfl)
      obtain ⟨q1, q2, q3, q4⟩ := (HS.out.2.1.keep hA.st).c4
      refine opStep none 0 rfl rfl (fun c hc => by cases hc) ?_
      go_simp
      exact hK _ _ rfl (Below.refl _ _) trivial
    · -- 5
      intro li a1 W2 hA K hK
      obtain ⟨y, e9, h9⟩ := hA.val 2 9 (by kernel_rfl) (by kernel_rfl)
      have e11 : a1.tmps.getD 11 undef = .int .i64 m.nw := hA.val 4 11 (by kernel_rfl) (by kernel_rfl)
      have e9' := e9
      have e11' := e11
      rw [Array.getD_eq_getD_getElem?] at e9' e11'
      refine opStep none 0 rfl rfl (fun c hc => by cases hc) ?_
      go_simp
      exact hK _ _ ⟨y, rfl, h9⟩ (Below.refl _ _) trivial
    · -- 6
      intro li a1 W2 hA K hK
      refine opStep none 0 rfl rfl (fun c hc => by cases hc) ?_
      go_simp
      exact hK _ _ ⟨_, rfl, hA.st.size, Blk.new _ _ _⟩ ((Below.refl _ _).alloc (Nat.le_refl _) _) trivial
  · intro li a1 W2 hD
    obtain ⟨⟨P, p⟩, e12, hp1, hp2, hio⟩ := hD.val 5 12 (by kernel_rfl) (by kernel_rfl)
    obtain ⟨Bo, e3, hgl, hbl⟩ := hD.val 6 3 (by kernel_rfl) (by kernel_rfl)
    simp only at e12 hp1 hp2 hio
    have hst := hD.st
    have hs1 := HS.out.2.2.1.lt
    have f0 := hbl.frozen 0
    have f1 := hbl.frozen 1
    have f2 := hbl.frozen 2
    have f3 := hbl.frozen 3
    have fl := hbl.lt
    obtain ⟨d0, d1, d2, d3⟩ := hbl.c4
    have hkp2 := hD.keeps (ds := [7, 8, 9, 10, 11, 12, 3]) (by kernel_rfl)
    have hds := hD.size
    have hdd := hD.defers
    have hsz5 : ((((W2.setCell ⟨Bo, 0, none⟩ (.slice P m.old.length p)).setCell ⟨Bo, 1, none⟩ (.int .i64 m.nw)).setCell ⟨Bo, 2, none⟩ (.slice none 0 0)).setCell ⟨Bo, 3, none⟩ (.slice none 0 0)).heap.size = W2.heap.size := by simp [World.setCell]
    have H5 := hid (show MapI m A c A2 c2 A3 c3 P p Bo (.slice none 0 0) (.slice none 0 0) 0 0 w ((((W2.setCell ⟨Bo, 0, none⟩ (.slice P m.old.length p)).setCell ⟨Bo, 1, none⟩ (.int .i64 m.nw)).setCell ⟨Bo, 2, none⟩ (.slice none 0 0)).setCell ⟨Bo, 3, none⟩ (.slice none 0 0)) from by
      refine ⟨(((((HS.out.2.1.keep hst).far (p := ⟨Bo, 0, none⟩) (show w.heap.size ≠ Bo by omega) (.slice P m.old.length p)).far (p := ⟨Bo, 1, none⟩) (show w.heap.size ≠ Bo by omega) (.int .i64 m.nw)).far (p := ⟨Bo, 2, none⟩) (show w.heap.size ≠ Bo by omega) (.slice none 0 0)).far (p := ⟨Bo, 3, none⟩) (show w.heap.size ≠ Bo by omega) (.slice none 0 0)), (((((HS.out.2.2.1.keep hst).far (p := ⟨Bo, 0, none⟩) (show w.heap.size + 1 ≠ Bo by omega) (.slice P m.old.length p)).far (p := ⟨Bo, 1, none⟩) (show w.heap.size + 1 ≠ Bo by omega) (.int .i64 m.nw)).far (p := ⟨Bo, 2, none⟩) (show w.heap.size + 1 ≠ Bo by omega) (.slice none 0 0)).far (p := ⟨Bo, 3, none⟩) (show w.heap.size + 1 ≠ Bo by omega) (.slice none 0 0)), ((((hbl.set_ 0 (.slice P m.old.length p)).set_ 1 (.int .i64 m.nw)).set_ 2 (.slice none 0 0)).set_ 3 (.slice none 0 0)), ?_, ⟨rfl, .inl ⟨rfl, rfl⟩⟩, ⟨rfl, .inl ⟨rfl, rfl⟩⟩, (((((HS.out.1.trans (hst.mono HS.out.1.size)).setCell (p := ⟨Bo, 0, none⟩) (show w.heap.size ≤ Bo by omega) (.slice P m.old.length p)).setCell (p := ⟨Bo, 1, none⟩) (show w.heap.size ≤ Bo by omega) (.int .i64 m.nw)).setCell (p := ⟨Bo, 2, none⟩) (show w.heap.size ≤ Bo by omega) (.slice none 0 0)).setCell (p := ⟨Bo, 3, none⟩) (show w.heap.size ≤ Bo by omega) (.slice none 0 0)), by omega⟩
      refine hio.to (by rw [hsz5]; exact Nat.le_refl _) fun g cs q => ?_
      have hne := Blk.ne_ q hbl (by decide)
      exact ((((q.far (p := ⟨Bo, 0, none⟩) hne (.slice P m.old.length p)).far (p := ⟨Bo, 1, none⟩) hne (.int .i64 m.nw)).far (p := ⟨Bo, 2, none⟩) hne (.slice none 0 0)).far (p := ⟨Bo, 3, none⟩) hne (.slice none 0 0)))
    clear hsz5 hs1
    refine tail_store (i := 7) (W' := ((((W2.setCell ⟨Bo, 0, none⟩ (.slice P m.old.length p)).setCell ⟨Bo, 1, none⟩ (.int .i64 m.nw)).setCell ⟨Bo, 2, none⟩ (.slice none 0 0)).setCell ⟨Bo, 3, none⟩ (.slice none 0 0))) none 0 rfl rfl rfl (fun c hc => by cases hc) (by clear H5 hst hbl hio hgl; go_simp) ?_
    revert H5
    generalize ((((W2.setCell ⟨Bo, 0, none⟩ (.slice P m.old.length p)).setCell ⟨Bo, 1, none⟩ (.int .i64 m.nw)).setCell ⟨Bo, 2, none⟩ (.slice none 0 0)).setCell ⟨Bo, 3, none⟩ (.slice none 0 0)) = w5
    intro H5
    have e := act_mix [7, 8, 9, 10, 11, 12, 3] hds hdd (fun i _ hc => hkp2 i hc)
    have hg3 : (fun i => a1.tmps.getD i undef) 3 = .pointer (some ⟨Bo, 0, none⟩) := e3
    generalize (fun i => a1.tmps.getD i undef) = g' at e hg3
    have HP := hid (And.intro hp1 hp2)
    refine wpListIn_nil ?_
    rw [e]
    clear e hD hkp2 e12 e3 hds hdd f0 f1 f2 f3 fl d0 d1 d2 d3 hbl hst hgl hio hp1 hp2 HS KL
    simp only [mix, List.contains_cons, List.contains_nil, Nat.reduceAdd, Nat.reduceBEq, Bool.or_false, Bool.or_true, cond_true, cond_false, hg3]
    clear hg3
    go_wp2
    go_loopw [4] (fun i W => ∃ (k : Nat) (v2 : Value), i = .int .i64 k ∧ k ≤ m.ss.length ∧ MapI m A c A2 c2 A3 c3 P p Bo v2 (.slice none 0 0) k 0 w W) (fun i _ => m.ss.length - (intOf i).toNat)
    case atStart => exact ⟨0, _, rfl, Nat.zero_le _, H5.out⟩
    case round =>
      clear H5
      obtain ⟨k, v2, rfl, hk, hi⟩ := hrel
      have HI := hid hi
      obtain ⟨t0, t1, t2, t3⟩ := hi.bt.c4
      have hsz := hi.bl.size
      clear hi
      by_cases hlt : k < m.ss.length
      · have hkI : (k : Int) < (m.ss.length : Int) := by omega
        obtain ⟨s, hs⟩ : ∃ s, m.ss[k]? = some s := ⟨_, List.getElem?_eq_getElem hlt⟩
        obtain ⟨aa, eA, g1, f0, f1, f2, f3, f4⟩ := (HA.out.at_ HI.out.bl).is k s hs
        subst eA
        have HSS := hid hs
        have hbx := below_box (w := wr) #[.int .i64 s.o, .int .i64 s.n, .int .i64 s.wt, .int .i64 s.lo, .int .i64 s.hi] 45
        have HX := hid (And.intro (HI.out.at_ hbx) (Blk.new wr 45 #[.int .i64 s.o, .int .i64 s.n, .int .i64 s.wt, .int .i64 s.lo, .int .i64 s.hi]))
        clear hs g1 hbx
        go_wp2
        clear f0 f1 f2 f3 f4 t0 t1 t2 t3 HI
        generalize wr.alloc (.cells #[.int .i64 s.o, .int .i64 s.n, .int .i64 s.wt, .int .i64 s.lo, .int .i64 s.hi] 45) = w2 at *
        generalize wr.heap.size = z at *
        refine (wpIn_wide (n := 0)).1 ?_
        refine wpIn_region_each 13 (fun i v W' => match i with | 0 => v = .pointer (some ⟨Bo, 2, none⟩) | 1 => v = v2 | 2 => v = .pointer (some ⟨z, 0, none⟩) | 3 => v = .int .i64 s.o | 4 => v = .pointer (some ⟨z, 1, none⟩) | 5 => v = .int .i64 s.n | 6 => v = .pointer (some ⟨z, 2, none⟩) | 7 => v = .int .i64 s.wt | 8 => v = .pointer (some ⟨z, 3, none⟩) | 9 => v = .agg #[.int .i64 s.lo, .int .i64 s.hi] | 10 => v = .agg #[.int .i64 s.lo, .int .i64 s.hi] | 11 => v = .agg #[.int .i64 s.o, .int .i64 s.n, .int .i64 s.wt, .int .i64 s.lo, .int .i64 s.hi] | 12 => ∃ gl, v = .slice (some ⟨gl, 0, none⟩) 1 1 ∧ Blk W' gl 70 (sttL s).toArray | _ => True) (fun A B => Below A.heap.size A B) (fun _ _ => True) (by kernel_rfl) (by kernel_rfl) ?_ (fun h k => h.trans (k.mono h.size)) ⟨rfl, rfl, rfl, Nat.le_refl _, fun _ _ => rfl⟩ trivial (by kernel_rfl) ?_ ?_
        · intro i v W1 W2 hb h
          match i, h with
          | 0, h => exact h
          | 1, h => exact h
          | 2, h => exact h
          | 3, h => exact h
          | 4, h => exact h
          | 5, h => exact h
          | 6, h => exact h
          | 7, h => exact h
          | 8, h => exact h
          | 9, h => exact h
          | 10, h => exact h
          | 11, h => exact h
          | 12, h =>
            obtain ⟨gl, rfl, h1⟩ := h
            exact ⟨_, rfl, h1.keep hb⟩
          | i + 13, h => trivial
        · refine ⟨?_, ?_, ?_, ?_, ?_, ?_, ?_, ?_, ?_, ?_, ?_, ?_, ?_, trivial⟩
          · -- 0
            intro li a1 W2 hA K hK
            have e3 := hA.par 3 (by kernel_rfl)
            refine opStep none 0 rfl rfl (fun c hc => by cases hc) ?_
            go_simp
            exact hK _ _ rfl (Below.refl _ _) trivial
          · -- 1
            intro li a1 W2 hA K hK
            have e25 : a1.tmps.getD 25 undef = .pointer (some ⟨Bo, 2, none⟩) := hA.val 0 25 (by kernel_rfl) (by kernel_rfl)
            obtain ⟨_, _, q1, _⟩ := (HX.out.1.bo.keep hA.st).c4
            refine opStep none 0 rfl rfl (fun c hc => by cases hc) ?_
            go_simp
            exact hK _ _ rfl (Below.refl _ _) trivial
          · -- 2
            intro li a1 W2 hA K hK
            have e5 := hA.par 5 (by kernel_rfl)
            refine opStep none 0 rfl rfl (fun c hc => by cases hc) ?_
            go_simp
            exact hK _ _ rfl (Below.refl _ _) trivial
          · -- 3
            intro li a1 W2 hA K hK
            have e27 : a1.tmps.getD 27 undef = .pointer (some ⟨z, 0, none⟩) := hA.val 2 27 (by kernel_rfl) (by kernel_rfl)
            obtain ⟨q1, q2, q3, q4, q5⟩ := (HX.out.2.keep hA.st).c5
            refine opStep none 0 rfl rfl (fun c hc => by cases hc) ?_
            go_simp
            exact hK _ _ rfl (Below.refl _ _) trivial
          · -- 4
            intro li a1 W2 hA K hK
            have e5 := hA.par 5 (by kernel_rfl)
            refine opStep none 0 rfl rfl (fun c hc => by cases hc) ?_
            go_simp
            exact hK _ _ rfl (Below.refl _ _) trivial
          · -- 5
            intro li a1 W2 hA K hK
            have e29 : a1.tmps.getD 29 undef = .pointer (some ⟨z, 1, none⟩) := hA.val 4 29 (by kernel_rfl) (by kernel_rfl)
            obtain ⟨q1, q2, q3, q4, q5⟩ := (HX.out.2.keep hA.st).c5
            refine opStep none 0 rfl rfl (fun c hc => by cases hc) ?_
            go_simp
            exact hK _ _ rfl (Below.refl _ _) trivial
          · -- 6
            intro li a1 W2 hA K hK
            have e5 := hA.par 5 (by kernel_rfl)
            refine opStep none 0 rfl rfl (fun c hc => by cases hc) ?_
            go_simp
            exact hK _ _ rfl (Below.refl _ _) trivial
          · -- 7
            intro li a1 W2 hA K hK
            have e31 : a1.tmps.getD 31 undef = .pointer (some ⟨z, 2, none⟩) := hA.val 6 31 (by kernel_rfl) (by kernel_rfl)
            obtain ⟨q1, q2, q3, q4, q5⟩ := (HX.out.2.keep hA.st).c5
            refine opStep none 0 rfl rfl (fun c hc => by cases hc) ?_
            go_simp
            exact hK _ _ rfl (Below.refl _ _) trivial
          · -- 8
            intro li a1 W2 hA K hK
            have e5 := hA.par 5 (by kernel_rfl)
            refine opStep none 0 rfl rfl (fun c hc => by cases hc) ?_
            go_simp
            exact hK _ _ rfl (Below.refl _ _) trivial
          · -- 9
            intro li a1 W2 hA K hK
            have e33 : a1.tmps.getD 33 undef = .pointer (some ⟨z, 3, none⟩) := hA.val 8 33 (by kernel_rfl) (by kernel_rfl)
            obtain ⟨q1, q2, q3, q4, q5⟩ := (HX.out.2.keep hA.st).c5
            refine opStep none 0 rfl rfl (fun c hc => by cases hc) ?_
            go_simp
            exact hK _ _ rfl (Below.refl _ _) trivial
          · -- 10
            intro li a1 W2 hA K hK
            have e34 : a1.tmps.getD 34 undef = .agg #[.int .i64 s.lo, .int .i64 s.hi] := hA.val 9 34 (by kernel_rfl) (by kernel_rfl)
            refine opStep none 0 rfl rfl (fun c hc => by cases hc) ?_
            go_simp
            refine (to_any s.lo s.hi W2).mono ?_
            rintro e W3 ⟨rfl, hb3⟩
            exact hK _ _ rfl hb3 trivial
          · -- 11
            intro li a1 W2 hA K hK
            have e28 : a1.tmps.getD 28 undef = .int .i64 s.o := hA.val 3 28 (by kernel_rfl) (by kernel_rfl)
            have e30 : a1.tmps.getD 30 undef = .int .i64 s.n := hA.val 5 30 (by kernel_rfl) (by kernel_rfl)
            have e32 : a1.tmps.getD 32 undef = .int .i64 s.wt := hA.val 7 32 (by kernel_rfl) (by kernel_rfl)
            have e35 : a1.tmps.getD 35 undef = .agg #[.int .i64 s.lo, .int .i64 s.hi] := hA.val 10 35 (by kernel_rfl) (by kernel_rfl)
            have e28' := e28
            have e30' := e30
            have e32' := e32
            have e35' := e35
            rw [Array.getD_eq_getD_getElem?] at e28' e30' e32' e35'
            refine opStep none 0 rfl rfl (fun c hc => by cases hc) ?_
            go_simp
            exact hK _ _ rfl (Below.refl _ _) trivial
          · -- 12
            intro li a1 W2 hA K hK
            have e36 : a1.tmps.getD 36 undef = .agg #[.int .i64 s.o, .int .i64 s.n, .int .i64 s.wt, .int .i64 s.lo, .int .i64 s.hi] := hA.val 11 36 (by kernel_rfl) (by kernel_rfl)
            have e36' := e36
            rw [Array.getD_eq_getD_getElem?] at e36'
            refine opStep none 0 rfl rfl (fun c hc => by cases hc) ?_
            go_simp
            exact hK _ _ ⟨_, rfl, Blk.new _ _ _⟩ ((Below.refl _ _).alloc (Nat.le_refl _) _) trivial
        · intro li a1 W2 hD
          obtain ⟨gl, e37, hgl⟩ := hD.val 12 37 (by kernel_rfl) (by kernel_rfl)
          have e26 : a1.tmps.getD 26 undef = v2 := hD.val 1 26 (by kernel_rfl) (by kernel_rfl)
          have hst := hD.st
          have hI2 := HX.out.1.at_ hst
          have hsz2 := hI2.bl.size
          obtain ⟨i0, hi0, hz0, hz1, hz2⟩ := info_parts bstt_info
          obtain ⟨v', w7, hrun, hr7, hg7, _, _⟩ := run_append_own_at (P := Tryz.prog) W2 w.heap.size 33 33 70 i0 (.agg #[.int .i64 0, .int .i64 0, .int .i64 0, .int .i64 0, .int .i64 0]) 5 40 Tryz.underlying33 hi0 hz0 hz1 hz2 rfl (by decide) v2 k _ hI2.s2 ⟨gl, 0, none⟩ 1 1 (sttL s) rfl (stt_blk hgl) (sttL_one _) (by simp only [maxLen]; omega) (by omega) (by omega)
          obtain ⟨g6, cap6, rfl⟩ := Go.ownsRow_succ hr7
          have HNX := hid (hI2.add2 HSS.out hg7 hr7)
          have hbo7 := blk_grown hI2.s2 hg7 hI2.bo (by decide)
          obtain ⟨u0, u1, u2, u3⟩ := hbo7.c4
          have uf := hbo7.frozen 2
          have ul := hbo7.lt
          have e3 := hD.par 3 (by kernel_rfl)
          have hkp2 := hD.keeps (ds := [25, 26, 27, 28, 29, 30, 31, 32, 33, 34, 35, 36, 37, 38, 39]) (by kernel_rfl)
          have hds := hD.size
          have hsz3 : a1.tmps.size = 66 := hD.size
          have hdd := hD.defers
          clear hst hr7 hg7 hgl hI2 hsz2 hbo7
          refine tail_val (i := 13) (v := .slice (some ⟨g6, 0, none⟩) (k + 1) cap6) (W' := w7) none 0 rfl rfl rfl (fun c hc => by cases hc) (by simp [execOp, resolve, invoke, builtin, Act.eval, e26, e37, hrun, Result.andThen]) (by rw [hsz3]; decide) ?_
          intro a3 s3 d3 f3 o3
          have hkp3 := keeps_then hkp2 o3 (by decide)
          have e3' := (o3 3 (by decide)).trans e3
          refine tail_val (i := 14) (v := .pointer (some ⟨Bo, 2, none⟩)) (W' := w7) none 0 rfl rfl rfl (fun c hc => by cases hc) (by go_simp) (by rw [s3, hsz3]; decide) ?_
          intro a4 s4 d4 f4 o4
          have hkp4 := keeps_then hkp3 o4 (by decide)
          have f3' := (o4 38 (by decide)).trans f3
          refine tail_store (i := 15) (W' := w7.setCell ⟨Bo, 2, none⟩ (.slice (some ⟨g6, 0, none⟩) (k + 1) cap6)) none 0 rfl rfl rfl (fun c hc => by cases hc) (by go_simp) ?_
          have e := act_mix [25, 26, 27, 28, 29, 30, 31, 32, 33, 34, 35, 36, 37, 38, 39] (s4.trans (s3.trans hds)) (d4.trans (d3.trans hdd)) (fun i _ hc => hkp4 i hc)
          generalize (fun i => a4.tmps.getD i undef) = g' at e
          refine wpListIn_nil ?_
          rw [e]
          clear e hD hkp2 hkp3 hkp4 s3 s4 d3 d4 f3 f4 o3 o4 e26 e37 e3 e3' f3' hds hdd hsz3 hi0 hz0 hz1 hz2 hrun u0 u1 u2 u3 uf ul HX
          simp only [mix, List.contains_cons, List.contains_nil, Nat.reduceAdd, Nat.reduceBEq, Bool.or_false, Bool.or_true, cond_true, cond_false]
          go_wp2
          go_roundw
          case rel => exact ⟨k + 1, _, by go_num, by omega, HNX.out⟩
          case measure => first | (simp [intOf]; done) | (simp [intOf]; omega)
      · have hkI : decide ((k : Int) < (m.ss.length : Int)) = false := by simp; omega
        obtain rfl : k = m.ss.length := by omega
        have H5 := HI
        clear HI
        go_wp2
        clear t0 t1 t2 t3 hsz
        generalize wr = w6 at *
        go_loopw [6] (fun i W => ∃ (k : Nat) (v3 : Value), i = .int .i64 k ∧ k ≤ m.js.length ∧ MapI m A c A2 c2 A3 c3 P p Bo v2 v3 m.ss.length k w W) (fun i _ => m.js.length - (intOf i).toNat)
        case atStart => exact ⟨0, _, rfl, Nat.zero_le _, H5.out⟩
        case round =>
          clear H5
          obtain ⟨k, v3, rfl, hk, hi⟩ := hrel
          have HI := hid hi
          obtain ⟨t0, t1, t2, t3⟩ := hi.bt.c4
          have hsz := hi.bl.size
          clear hi
          by_cases hlt : k < m.js.length
          · have hkI : (k : Int) < (m.js.length : Int) := by omega
            obtain ⟨j, hj⟩ : ∃ j, m.js[k]? = some j := ⟨_, List.getElem?_eq_getElem hlt⟩
            obtain ⟨aa, eA, g1, f0, f1⟩ := (HA.out.at_ HI.out.bl).ij k j hj
            subst eA
            have HSS := hid hj
            have HX := hid (And.intro HI.out (And.intro f0 f1))
            clear hj g1 f0 f1 HI
            go_wp2
            refine (wpIn_wide (n := 0)).1 ?_
            refine wpIn_region_each 16 (fun i v W' => match i with | 0 => v = .pointer (some ⟨Bo, 3, none⟩) | 1 => v = v3 | 2 => v = .pointer (some ⟨w.heap.size, 3, none⟩) | 3 => v = .slice (some aa) m.js.length c3 | 4 => v = .int .i64 (k : Int) | 5 => v = .pointer (some (aa.add (k * 2))) | 6 => v = .pointer (some (aa.add (k * 2))) | 7 => v = .int .i64 j.a | 8 => v = .pointer (some ⟨w.heap.size, 3, none⟩) | 9 => v = .slice (some aa) m.js.length c3 | 10 => v = .int .i64 (k : Int) | 11 => v = .pointer (some (aa.add (k * 2))) | 12 => v = .pointer (some ⟨(aa.add (k * 2)).block, (aa.add (k * 2)).off + 1, none⟩) | 13 => v = .int .i64 j.b | 14 => v = .agg #[.int .i64 j.a, .int .i64 j.b] | 15 => ∃ gl, v = .slice (some ⟨gl, 0, none⟩) 1 1 ∧ Blk W' gl 77 (jnL j).toArray | _ => True) (fun A B => Below A.heap.size A B) (fun _ _ => True) (by kernel_rfl) (by kernel_rfl) ?_ (fun h k => h.trans (k.mono h.size)) ⟨rfl, rfl, rfl, Nat.le_refl _, fun _ _ => rfl⟩ trivial (by kernel_rfl) ?_ ?_
            · intro i v W1 W2 hb h
              match i, h with
              | 0, h => exact h
              | 1, h => exact h
              | 2, h => exact h
              | 3, h => exact h
              | 4, h => exact h
              | 5, h => exact h
              | 6, h => exact h
              | 7, h => exact h
              | 8, h => exact h
              | 9, h => exact h
              | 10, h => exact h
              | 11, h => exact h
              | 12, h => exact h
              | 13, h => exact h
              | 14, h => exact h
              | 15, h =>
                obtain ⟨gl, rfl, h1⟩ := h
                exact ⟨_, rfl, h1.keep hb⟩
              | i + 16, h => trivial
            · refine ⟨?_, ?_, ?_, ?_, ?_, ?_, ?_, ?_, ?_, ?_, ?_, ?_, ?_, ?_, ?_, ?_, trivial⟩
              · -- 0
                intro li a1 W2 hA K hK
                have e3 := hA.par 3 (by kernel_rfl)
                refine opStep none 0 rfl rfl (fun c hc => by cases hc) ?_
                go_simp
                exact hK _ _ rfl (Below.refl _ _) trivial
              · -- 1
                intro li a1 W2 hA K hK
                have e47 : a1.tmps.getD 47 undef = .pointer (some ⟨Bo, 3, none⟩) := hA.val 0 47 (by kernel_rfl) (by kernel_rfl)
                obtain ⟨_, _, _, q1⟩ := (HX.out.1.bo.keep hA.st).c4
                refine opStep none 0 rfl rfl (fun c hc => by cases hc) ?_
                go_simp
                exact hK _ _ rfl (Below.refl _ _) trivial
              · -- 2
                intro li a1 W2 hA K hK
                have e1 := hA.par 1 (by kernel_rfl)
                refine opStep none 0 rfl rfl (fun c hc => by cases hc) ?_
                go_simp
                exact hK _ _ rfl (Below.refl _ _) trivial
              · -- 3
                intro li a1 W2 hA K hK
                have e49 : a1.tmps.getD 49 undef = .pointer (some ⟨w.heap.size, 3, none⟩) := hA.val 2 49 (by kernel_rfl) (by kernel_rfl)
                obtain ⟨_, _, _, q1⟩ := (HX.out.1.bt.keep hA.st).c4
                refine opStep none 0 rfl rfl (fun c hc => by cases hc) ?_
                go_simp
                exact hK _ _ rfl (Below.refl _ _) trivial
              · -- 4
                intro li a1 W2 hA K hK
                have e6 := hA.par 6 (by kernel_rfl)
                refine opStep none 0 rfl rfl (fun c hc => by cases hc) ?_
                go_simp
                exact hK _ _ rfl (Below.refl _ _) trivial
              · -- 5
                intro li a1 W2 hA K hK
                have e50 : a1.tmps.getD 50 undef = .slice (some aa) m.js.length c3 := hA.val 3 50 (by kernel_rfl) (by kernel_rfl)
                have e51 : a1.tmps.getD 51 undef = .int .i64 (k : Int) := hA.val 4 51 (by kernel_rfl) (by kernel_rfl)
                refine opStep none 0 rfl rfl (fun c hc => by cases hc) ?_
                go_simp
                exact hK _ _ (by first | rfl | exact congrArg (fun q => Value.pointer (some q)) (add_blk _ _)) (Below.refl _ _) trivial
              · -- 6
                intro li a1 W2 hA K hK
                have e52 : a1.tmps.getD 52 undef = .pointer (some (aa.add (k * 2))) := hA.val 5 52 (by kernel_rfl) (by kernel_rfl)
                refine opStep none 0 rfl rfl (fun c hc => by cases hc) ?_
                go_simp
                exact hK _ _ rfl (Below.refl _ _) trivial
              · -- 7
                intro li a1 W2 hA K hK
                have e53 : a1.tmps.getD 53 undef = .pointer (some (aa.add (k * 2))) := hA.val 6 53 (by kernel_rfl) (by kernel_rfl)
                have q1 := (hA.st.cell (World.block_lt_of_cell? _ _ HX.out.2.1)).trans HX.out.2.1
                refine opStep none 0 rfl rfl (fun c hc => by cases hc) ?_
                go_simp
                exact hK _ _ rfl (Below.refl _ _) trivial
              · -- 8
                intro li a1 W2 hA K hK
                have e1 := hA.par 1 (by kernel_rfl)
                refine opStep none 0 rfl rfl (fun c hc => by cases hc) ?_
                go_simp
                exact hK _ _ rfl (Below.refl _ _) trivial
              · -- 9
                intro li a1 W2 hA K hK
                have e55 : a1.tmps.getD 55 undef = .pointer (some ⟨w.heap.size, 3, none⟩) := hA.val 8 55 (by kernel_rfl) (by kernel_rfl)
                obtain ⟨_, _, _, q1⟩ := (HX.out.1.bt.keep hA.st).c4
                refine opStep none 0 rfl rfl (fun c hc => by cases hc) ?_
                go_simp
                exact hK _ _ rfl (Below.refl _ _) trivial
              · -- 10
                intro li a1 W2 hA K hK
                have e6 := hA.par 6 (by kernel_rfl)
                refine opStep none 0 rfl rfl (fun c hc => by cases hc) ?_
                go_simp
                exact hK _ _ rfl (Below.refl _ _) trivial
              · -- 11
                intro li a1 W2 hA K hK
                have e56 : a1.tmps.getD 56 undef = .slice (some aa) m.js.length c3 := hA.val 9 56 (by kernel_rfl) (by kernel_rfl)
                have e57 : a1.tmps.getD 57 undef = .int .i64 (k : Int) := hA.val 10 57 (by kernel_rfl) (by kernel_rfl)
                refine opStep none 0 rfl rfl (fun c hc => by cases hc) ?_
                go_simp
                exact hK _ _ (by first | rfl | exact congrArg (fun q => Value.pointer (some q)) (add_blk _ _)) (Below.refl _ _) trivial
              · -- 12
                intro li a1 W2 hA K hK
                have e58 : a1.tmps.getD 58 undef = .pointer (some (aa.add (k * 2))) := hA.val 11 58 (by kernel_rfl) (by kernel_rfl)
                refine opStep none 0 rfl rfl (fun c hc => by cases hc) ?_
                go_simp
                exact hK _ _ rfl (Below.refl _ _) trivial
              · -- 13
                intro li a1 W2 hA K hK
                have e59 : a1.tmps.getD 59 undef = .pointer (some ⟨(aa.add (k * 2)).block, (aa.add (k * 2)).off + 1, none⟩) := hA.val 12 59 (by kernel_rfl) (by kernel_rfl)
                have q1 := (hA.st.cell (World.block_lt_of_cell? _ _ HX.out.2.2)).trans HX.out.2.2
                refine opStep none 0 rfl rfl (fun c hc => by cases hc) ?_
                go_simp
                exact hK _ _ rfl (Below.refl _ _) trivial
              · -- 14
                intro li a1 W2 hA K hK
                have e54 : a1.tmps.getD 54 undef = .int .i64 j.a := hA.val 7 54 (by kernel_rfl) (by kernel_rfl)
                have e60 : a1.tmps.getD 60 undef = .int .i64 j.b := hA.val 13 60 (by kernel_rfl) (by kernel_rfl)
                have e54' := e54
                have e60' := e60
                rw [Array.getD_eq_getD_getElem?] at e54' e60'
                refine opStep none 0 rfl rfl (fun c hc => by cases hc) ?_
                go_simp
                exact hK _ _ rfl (Below.refl _ _) trivial
              · -- 15
                intro li a1 W2 hA K hK
                have e61 : a1.tmps.getD 61 undef = .agg #[.int .i64 j.a, .int .i64 j.b] := hA.val 14 61 (by kernel_rfl) (by kernel_rfl)
                have e61' := e61
                rw [Array.getD_eq_getD_getElem?] at e61'
                refine opStep none 0 rfl rfl (fun c hc => by cases hc) ?_
                go_simp
                exact hK _ _ ⟨_, rfl, Blk.new _ _ _⟩ ((Below.refl _ _).alloc (Nat.le_refl _) _) trivial
            · intro li a1 W2 hD
              obtain ⟨gl, e62, hgl⟩ := hD.val 15 62 (by kernel_rfl) (by kernel_rfl)
              have e48 : a1.tmps.getD 48 undef = v3 := hD.val 1 48 (by kernel_rfl) (by kernel_rfl)
              have hst := hD.st
              have hI2 := HX.out.1.at_ hst
              have hsz2 := hI2.bl.size
              obtain ⟨i0, hi0, hz0, hz1, hz2⟩ := info_parts bjn_info
              obtain ⟨v', w7, hrun, hr7, hg7, _, _⟩ := run_append_own_at (P := Tryz.prog) W2 w.heap.size 34 34 77 i0 (.agg #[.int .i64 0, .int .i64 0]) 2 16 Tryz.underlying34 hi0 hz0 hz1 hz2 rfl (by decide) v3 k _ hI2.s3 ⟨gl, 0, none⟩ 1 1 (jnL j) rfl (jn_blk hgl) (jnL_one _) (by simp only [maxLen]; omega) (by omega) (by omega)
              obtain ⟨g6, cap6, rfl⟩ := Go.ownsRow_succ hr7
              have HNX := hid (hI2.add3 HSS.out hg7 hr7)
              have hbo7 := blk_grown hI2.s3 hg7 hI2.bo (by decide)
              obtain ⟨u0, u1, u2, u3⟩ := hbo7.c4
              have uf := hbo7.frozen 3
              have ul := hbo7.lt
              have e3 := hD.par 3 (by kernel_rfl)
              have hkp2 := hD.keeps (ds := [47, 48, 49, 50, 51, 52, 53, 54, 55, 56, 57, 58, 59, 60, 61, 62, 63, 64]) (by kernel_rfl)
              have hds := hD.size
              have hsz3 : a1.tmps.size = 66 := hD.size
              have hdd := hD.defers
              clear hst hr7 hg7 hgl hI2 hsz2 hbo7
              refine tail_val (i := 16) (v := .slice (some ⟨g6, 0, none⟩) (k + 1) cap6) (W' := w7) none 0 rfl rfl rfl (fun c hc => by cases hc) (by simp [execOp, resolve, invoke, builtin, Act.eval, e48, e62, hrun, Result.andThen]) (by rw [hsz3]; decide) ?_
              intro a3 s3 d3 f3 o3
              have hkp3 := keeps_then hkp2 o3 (by decide)
              have e3' := (o3 3 (by decide)).trans e3
              refine tail_val (i := 17) (v := .pointer (some ⟨Bo, 3, none⟩)) (W' := w7) none 0 rfl rfl rfl (fun c hc => by cases hc) (by go_simp) (by rw [s3, hsz3]; decide) ?_
              intro a4 s4 d4 f4 o4
              have hkp4 := keeps_then hkp3 o4 (by decide)
              have f3' := (o4 63 (by decide)).trans f3
              refine tail_store (i := 18) (W' := w7.setCell ⟨Bo, 3, none⟩ (.slice (some ⟨g6, 0, none⟩) (k + 1) cap6)) none 0 rfl rfl rfl (fun c hc => by cases hc) (by go_simp) ?_
              have e := act_mix [47, 48, 49, 50, 51, 52, 53, 54, 55, 56, 57, 58, 59, 60, 61, 62, 63, 64] (s4.trans (s3.trans hds)) (d4.trans (d3.trans hdd)) (fun i _ hc => hkp4 i hc)
              generalize (fun i => a4.tmps.getD i undef) = g' at e
              refine wpListIn_nil ?_
              rw [e]
              clear e hD hkp2 hkp3 hkp4 s3 s4 d3 d4 f3 f4 o3 o4 e48 e62 e3 e3' f3' hds hdd hsz3 hi0 hz0 hz1 hz2 hrun u0 u1 u2 u3 uf ul HX
              simp only [mix, List.contains_cons, List.contains_nil, Nat.reduceAdd, Nat.reduceBEq, Bool.or_false, Bool.or_true, cond_true, cond_false]
              go_wp2
              go_roundw
              case rel => exact ⟨k + 1, _, by go_num, by omega, HNX.out⟩
              case measure => first | (simp [intOf]; done) | (simp [intOf]; omega)
          · have hkI : decide ((k : Int) < (m.js.length : Int)) = false := by simp; omega
            obtain rfl : k = m.js.length := by omega
            obtain ⟨c0, c1, c2', c3'⟩ := HI.out.bo.c4
            obtain ⟨d0, d1, d2, d3⟩ := HI.out.b2.c4
            have df0 := HI.out.b2.frozen 0
            have df1 := HI.out.b2.frozen 1
            have df2 := HI.out.b2.frozen 2
            have df3 := HI.out.b2.frozen 3
            have dl := HI.out.b2.lt
            have hgs := grown4 wr (w.heap.size + 1) (.slice P m.old.length p) (.int .i64 m.nw) v2 v3
            have hs2 := HI.out.s2
            have hs3 := HI.out.s3
            rw [List.take_length] at hs2 hs3
            have hs2' := hs2.kept hgs (mown_ne hs2 (mblk_not HI.out.b2 (by decide)))
            have hs3' := hs3.kept hgs (mown_ne hs3 (mblk_not HI.out.b2 (by decide)))
            obtain ⟨A7, c7, e7, r1, r2, r3, _, _⟩ := own_stts hs2' rfl
            obtain ⟨A8, c8, e8, r4, r5, r6, _, _⟩ := own_jns hs3' rfl
            have hio := HI.out.io.to (hgs.size) (fun g cs q => (hgs.block g q.lt (fun e => by cases e; exact Blk.ne_ q HI.out.b2 (by decide) rfl)).trans q)
            have hbl := set4_blk HI.out.b2 (.slice P m.old.length p) (.int .i64 m.nw) v2 v3
            have HF := hid (show MIn m P p A7 c7 A8 c8 (set4 wr (w.heap.size + 1) (.slice P m.old.length p) (.int .i64 m.nw) v2 v3) ∧ Below w.heap.size w (set4 wr (w.heap.size + 1) (.slice P m.old.length p) (.int .i64 m.nw) v2 v3) ∧ Blk (set4 wr (w.heap.size + 1) (.slice P m.old.length p) (.int .i64 m.nw) v2 v3) (w.heap.size + 1) 36 #[.slice P m.old.length p, .int .i64 m.nw, v2, v3] from
              ⟨⟨hio.1, r1, r4, HP.out.1, HP.out.2, r2, r3, r5, r6⟩, HI.out.bl.grown hgs HI.out.bl.size (fun q hq => by cases hq; omega), hbl⟩)
            subst e7 e8
            clear hgs hs2 hs3 hs2' hs3' r1 r2 r3 r4 r5 r6 hio hbl HI
            go_wp2
            refine gen (p := bodyPost _ _ _ _ _) (fun W => MIn m P p A7 c7 A8 c8 W ∧ Below w.heap.size w W ∧ Blk W (w.heap.size + 1) 36 #[.slice P m.old.length p, .int .i64 m.nw, .slice A7 m.ss.length c7, .slice A8 m.js.length c8]) HF.out ?_
            rintro W ⟨hm, hb, hk⟩
            obtain ⟨e0, e1, e2, e3⟩ := hk.c4
            exact bodyPost_ret (v := .agg #[.slice P m.old.length p, .int .i64 m.nw, .slice A7 m.ss.length c7, .slice A8 m.js.length c8]) (by simp [results, Tryz.results9, go_sem, e0, e1, e2, e3]) rfl ⟨(P, p), (A7, c7), (A8, c8), rfl, hm, hb⟩
end Go.Proofs.YtlnamjhgbdacbaaGreat
/- The chapter's map. No condition. -/
namespace Go.Proofs.YtlnamjhgbdacbaaGreat
open Go.RowKit Go.Shelf

def townM : MapD := ⟨[100, 60], 2, [⟨0, 0, 3, 40, 70⟩, ⟨0, 1, 2, 30, 50⟩, ⟨1, 1, 5, 20, 60⟩, ⟨1, 0, 1, 0, 30⟩], [⟨0, 1⟩, ⟨1, 2⟩, ⟨2, 3⟩]⟩
theorem stts_of {w : World} {g : Nat} {ss : List Stt} {cs : Array Value} (h : Blk w g 70 cs) (hc : ∀ k s, ss[k]? = some s → cs[k * 5]? = some (.int .i64 s.o) ∧ cs[k * 5 + 1]? = some (.int .i64 s.n) ∧ cs[k * 5 + 2]? = some (.int .i64 s.wt) ∧ cs[k * 5 + 3]? = some (.int .i64 s.lo) ∧ cs[k * 5 + 4]? = some (.int .i64 s.hi)) : IsStts w w.heap.size (some ⟨g, 0, none⟩) ss := fun k s hk => by
  obtain ⟨h0, h1, h2, h3, h4⟩ := hc k s hk
  refine ⟨_, rfl, h.lt, ?_⟩
  rw [add_blk]
  exact ⟨by rw [h.cell]; exact h0, by rw [h.cell]; exact h1, by rw [h.cell]; exact h2, by rw [h.cell]; exact h3, by rw [h.cell]; exact h4⟩
theorem jns_of {w : World} {g : Nat} {js : List Jn} {cs : Array Value} (h : Blk w g 77 cs) (hc : ∀ k s, js[k]? = some s → cs[k * 2]? = some (.int .i64 s.a) ∧ cs[k * 2 + 1]? = some (.int .i64 s.b)) : IsJns w w.heap.size (some ⟨g, 0, none⟩) js := fun k s hk => by
  obtain ⟨h0, h1⟩ := hc k s hk
  refine ⟨_, rfl, h.lt, ?_⟩
  rw [add_blk]
  exact ⟨by rw [h.cell]; exact h0, by rw [h.cell]; exact h1⟩
theorem ints_of {w : World} {g : Nat} {xs : List Int} {cs : Array Value} (h : Blk w g 3 cs) (hc : ∀ (k : Nat) x, xs[k]? = some x → cs[k]? = some (.int .i64 x)) : IsInts w w.heap.size (some ⟨g, 0, none⟩) xs := fun k x hk => by
  refine ⟨_, rfl, h.lt, ?_⟩
  rw [add_blk, h.cell]
  exact hc k x hk
def townO : Array Value := #[.int .i64 100, .int .i64 60]
def townS : Array Value := #[.int .i64 0, .int .i64 0, .int .i64 3, .int .i64 40, .int .i64 70, .int .i64 0, .int .i64 1, .int .i64 2, .int .i64 30, .int .i64 50, .int .i64 1, .int .i64 1, .int .i64 5, .int .i64 20, .int .i64 60, .int .i64 1, .int .i64 0, .int .i64 1, .int .i64 0, .int .i64 30]
def townJ : Array Value := #[.int .i64 0, .int .i64 1, .int .i64 1, .int .i64 2, .int .i64 2, .int .i64 3]
theorem town_s : ∀ k s, townM.ss[k]? = some s → townS[k * 5]? = some (.int .i64 s.o) ∧ townS[k * 5 + 1]? = some (.int .i64 s.n) ∧ townS[k * 5 + 2]? = some (.int .i64 s.wt) ∧ townS[k * 5 + 3]? = some (.int .i64 s.lo) ∧ townS[k * 5 + 4]? = some (.int .i64 s.hi) := fun k s hk => by
  match k, hk with
  | 0, hk => cases hk; exact ⟨rfl, rfl, rfl, rfl, rfl⟩
  | 1, hk => cases hk; exact ⟨rfl, rfl, rfl, rfl, rfl⟩
  | 2, hk => cases hk; exact ⟨rfl, rfl, rfl, rfl, rfl⟩
  | 3, hk => cases hk; exact ⟨rfl, rfl, rfl, rfl, rfl⟩
  | k + 4, hk => simp [townM] at hk
theorem town_j : ∀ k s, townM.js[k]? = some s → townJ[k * 2]? = some (.int .i64 s.a) ∧ townJ[k * 2 + 1]? = some (.int .i64 s.b) := fun k s hk => by
  match k, hk with
  | 0, hk => cases hk; exact ⟨rfl, rfl⟩
  | 1, hk => cases hk; exact ⟨rfl, rfl⟩
  | 2, hk => cases hk; exact ⟨rfl, rfl⟩
  | k + 3, hk => simp [townM] at hk
theorem town_o : ∀ (k : Nat) x, townM.old[k]? = some x → townO[k]? = some (.int .i64 x) := fun k s hk => by
  match k, hk with
  | 0, hk => cases hk; rfl
  | 1, hk => cases hk; rfl
  | k + 2, hk => simp [townM] at hk
/-- the chapter's map, in three blocks -/
def TownAt (g1 g2 g3 : Nat) (w : World) : Prop := Blk w g1 3 townO ∧ Blk w g2 70 townS ∧ Blk w g3 77 townJ
theorem TownAt.keep {g1 g2 g3 : Nat} {w w' : World} (h : TownAt g1 g2 g3 w) (hb : Below w.heap.size w w') : TownAt g1 g2 g3 w' := ⟨h.1.keep hb, h.2.1.keep hb, h.2.2.keep hb⟩
theorem TownAt.min {g1 g2 g3 : Nat} {w : World} (h : TownAt g1 g2 g3 w) : MIn townM (some ⟨g1, 0, none⟩) 2 (some ⟨g2, 0, none⟩) 4 (some ⟨g3, 0, none⟩) 3 w :=
  ⟨ints_of h.1 town_o, stts_of h.2.1 town_s, jns_of h.2.2 town_j, by decide, by decide, by decide, by decide, by decide, by decide⟩
def GivesTown (w : World) (e : Ending) (w' : World) : Prop := ∃ g1 g2 g3, e = .returned (.agg #[.slice (some ⟨g1, 0, none⟩) 2 2, .int .i64 2, .slice (some ⟨g2, 0, none⟩) 4 4, .slice (some ⟨g3, 0, none⟩) 3 3]) ∧ w.heap.size ≤ g1 ∧ w.heap.size ≤ g2 ∧ w.heap.size ≤ g3 ∧ TownAt g1 g2 g3 w' ∧ Below w.heap.size w w'
end Go.Proofs.YtlnamjhgbdacbaaGreat
/- awake: the chapter's examples hold. No condition. -/
namespace Go.Proofs.YtlnamjhgbdacbaaGreat
open Go.RowKit Go.Shelf

theorem town_chk : chkM townM = 0 := by decide +kernel
theorem town_cst : cstM townM = 0 := by decide +kernel
theorem town_car : car townM = [60, 40, 50, 10] := by decide +kernel
theorem town_sm : smD townM (ownL townM) (car townM) = [70, 90] := by decide +kernel
theorem town_bnd : bndL townM = [(50, 100), (60, 110)] := by decide +kernel
theorem town_off : offL townM = [30, 30] := by decide +kernel
theorem town_ask : askE townM 30 130 = 0 := by decide +kernel
theorem town_best : (bestB townM 30 130).map (fun p => (p.1, lst townM p.2)) = some (1, [0, 1, 1, 1]) := by decide +kernel
theorem ints_lit {w : World} {g : Nat} {xs : List Int} (h : Blk w g 3 (xs.map (Value.int .i64)).toArray) : IsInts w w.heap.size (some ⟨g, 0, none⟩) xs := ints_of h fun k x hk => by
  rw [List.getElem?_toArray, List.getElem?_map, hk]; rfl
theorem rng_at {w : World} {n : Nat} {a : Addr} {rs : List (Int × Int)} {k : Nat} {x y : Int} (h : IsRngs w n (some a) rs) (hk : rs[k]? = some (x, y)) : w.cell? (a.add (k * 2)) = some (.int .i64 x) ∧ w.cell? ⟨(a.add (k * 2)).block, (a.add (k * 2)).off + 1, none⟩ = some (.int .i64 y) := by
  obtain ⟨a', e, _, h0, h1⟩ := h k _ hk
  cases e
  exact ⟨h0, h1⟩
theorem carry_town {w : World} {g1 g2 g3 : Nat} (h : TownAt g1 g2 g3 w) : Calls Tryz.prog 8 #[.agg #[.slice (some ⟨g1, 0, none⟩) 2 2, .int .i64 2, .slice (some ⟨g2, 0, none⟩) 4 4, .slice (some ⟨g3, 0, none⟩) 3 3]] w fun e w' => ∃ A1 c1 A2 c2, e = .returned (.tuple #[.slice A1 4 c1, .slice A2 2 c2, .int .i64 0]) ∧ (IsInts w' w'.heap.size A1 [60, 40, 50, 10] ∧ 4 ≤ c1 ∧ c1 ≤ maxLen) ∧ (IsInts w' w'.heap.size A2 [70, 90] ∧ 2 ≤ c2 ∧ c2 ≤ maxLen) ∧ Below w.heap.size w w' := by
  refine (carry_any townM _ _ _ _ _ _ w h.min).mono fun e w' h' => ?_
  rw [if_neg (by simp [town_chk])] at h'
  obtain ⟨⟨A1, c1⟩, ⟨A2, c2⟩, he, h1, h2, h3, h4, h5, h6, h7⟩ := h'
  rw [town_car] at he h1 h2 h4 h5
  rw [show smD townM (ownL townM) [60, 40, 50, 10] = [70, 90] by rw [← town_car]; exact town_sm] at he h4 h5
  exact ⟨A1, c1, A2, c2, he, ⟨h1, h2, h3⟩, ⟨h4, h5, h6⟩, h7⟩
end Go.Proofs.YtlnamjhgbdacbaaGreat
/- The reference of layer 11: sums of numbers by the districts of borders. Conditions stand at the theorem. -/
namespace Go.Proofs.YtlnamjhgbdacbaaGreat
open Go.RowKit Go.Shelf

end Go.Proofs.YtlnamjhgbdacbaaGreat
/- One more to the part that lacks most, one after the other: the order of Divide's parts. -/
namespace Go.Proofs.YtlnamjhgbdacbaaGreat

/-- the first of the greatest among the first numbers -/
def bestTo (l : List Int) : Nat → Nat
  | 0 => 0
  | j + 1 => if l.getD (bestTo l j) 0 < l.getD (j + 1) 0 then j + 1 else bestTo l j
theorem bestTo_spec (l : List Int) : ∀ j, bestTo l j ≤ j ∧ (∀ x, x < bestTo l j → l.getD x 0 < l.getD (bestTo l j) 0) ∧ ∀ x, bestTo l j < x → x ≤ j → l.getD x 0 ≤ l.getD (bestTo l j) 0
  | 0 => ⟨Nat.le_refl _, fun x h => absurd h (Nat.not_lt_zero _), fun x h1 h2 => by simp only [bestTo] at h1; omega⟩
  | j + 1 => by
    obtain ⟨h1, h2, h3⟩ := bestTo_spec l j
    unfold bestTo
    by_cases hc : l.getD (bestTo l j) 0 < l.getD (j + 1) 0
    · rw [if_pos hc]
      refine ⟨Nat.le_refl _, fun x hx => ?_, fun x h4 h5 => by omega⟩
      rcases Nat.lt_trichotomy x (bestTo l j) with h | h | h
      · have := h2 x h; omega
      · rw [h]; exact hc
      · have := h3 x h (by omega); omega
    · rw [if_neg hc]
      refine ⟨by omega, h2, fun x h4 h5 => ?_⟩
      by_cases e : x = j + 1
      · rw [e]; omega
      · exact h3 x h4 (by omega)
def restL (whole sum : Int) (ws : List Int) : List Int := ws.map fun x => (whole * x) % sum
/-- what each part lacks when j are given out -/
def lackTo (whole sum : Int) (ws : List Int) (j : Nat) : List Int := ((orderOf whole sum ws).take j).foldl (fun l i => l.set i (l.getD i 0 - sum)) (restL whole sum ws)
theorem lackTo_succ {whole sum : Int} {ws : List Int} {j i : Nat} (h : (orderOf whole sum ws)[j]? = some i) : lackTo whole sum ws (j + 1) = (lackTo whole sum ws j).set i ((lackTo whole sum ws j).getD i 0 - sum) := by
  obtain ⟨hj, rfl⟩ := List.getElem?_eq_some_iff.1 h
  unfold lackTo
  rw [List.take_succ_eq_append_getElem hj, List.foldl_append]; rfl
theorem lackTo_len (whole sum : Int) (ws : List Int) (j : Nat) : (lackTo whole sum ws j).length = ws.length := by
  unfold lackTo
  have : ∀ (l : List Nat) (o : List Int), (l.foldl (fun l i => l.set i (l.getD i 0 - sum)) o).length = o.length := by
    intro l
    induction l with
    | nil => intro o; rfl
    | cons i l ih => intro o; rw [List.foldl_cons, ih]; simp
  rw [this]; simp [restL]
theorem order_get {whole sum : Int} {ws : List Int} {j : Nat} (hj : j < ws.length) : (orderOf whole sum ws)[j]? = some ((orderOf whole sum ws).getD j 0) := by
  have hl := order_len whole sum ws
  rw [List.getElem?_eq_getElem (show j < (orderOf whole sum ws).length by omega)]
  simp [List.getD, List.getElem?_eq_getElem (show j < (orderOf whole sum ws).length by omega)]
theorem lackTo_at (whole sum : Int) (ws : List Int) {i p : Nat} (hp : p < ws.length) (hi : (orderOf whole sum ws).getD p 0 = i) : ∀ j, j ≤ ws.length →
    (lackTo whole sum ws j).getD i 0 = restOf whole sum ws i - if p < j then sum else 0
  | 0, _ => by
    have hil : i < ws.length := by rw [← hi]; exact (order_ord whole sum ws).lt p hp
    simp [lackTo, restL, restOf, List.getD, List.getElem?_eq_getElem hil]
  | j + 1, hj => by
    have O := order_ord whole sum ws
    have ih := lackTo_at whole sum ws hp hi j (by omega)
    rw [lackTo_succ (order_get (by omega : j < ws.length))]
    have hjl := O.lt j (by omega)
    rw [getD_set_at _ _ _ _ _ (by rw [lackTo_len]; exact hjl)]
    by_cases e : j = p
    · subst e
      rw [if_pos hi, hi, ih, if_neg (show ¬ j < j by omega), if_pos (show j < j + 1 by omega)]; omega
    · have hne : (orderOf whole sum ws).getD j 0 ≠ i := fun h => e (O.inj (by omega) hp (h.trans hi.symm))
      rw [if_neg hne, ih]
      by_cases hpj : p < j
      · rw [if_pos hpj, if_pos (show p < j + 1 by omega)]
      · rw [if_neg hpj, if_neg (show ¬ p < j + 1 by omega)]
theorem lackTo_bound {whole : Int} {ws : List Int} (ok : DOk whole ws.sum ws) {j : Nat} (hj : j ≤ ws.length) : ∀ y ∈ lackTo whole ws.sum ws j, -ws.sum ≤ y ∧ y ≤ ws.sum := by
  intro y hy
  obtain ⟨i, hi⟩ := List.getElem?_of_mem hy
  have hil := (List.getElem?_eq_some_iff.1 hi).1
  rw [lackTo_len] at hil
  obtain ⟨p, hp, e⟩ := (order_ord whole ws.sum ws).mem hil
  have h := lackTo_at whole ws.sum ws hp e j hj
  rw [getD_some hi] at h
  have := rest_range ok i
  have := ok.s0
  split at h <;> omega
/-- the part that lacks most is the next of the order -/
theorem best_next {whole : Int} {ws : List Int} (ok : DOk whole ws.sum ws) {j : Nat} (hj : j < ws.length) : bestTo (lackTo whole ws.sum ws j) (ws.length - 1) = (orderOf whole ws.sum ws).getD j 0 := by
  have O := order_ord whole ws.sum ws
  obtain ⟨b1, b2, b3⟩ := bestTo_spec (lackTo whole ws.sum ws j) (ws.length - 1)
  generalize bestTo (lackTo whole ws.sum ws j) (ws.length - 1) = b at *
  have hi := lackTo_at whole ws.sum ws hj rfl j (by omega)
  rw [if_neg (show ¬ j < j by omega)] at hi
  have hil := O.lt j hj
  obtain ⟨q, hq, e⟩ := O.mem (show b < ws.length by omega)
  have hb := lackTo_at whole ws.sum ws hq e j (by omega)
  have hrb := rest_range ok b
  have hri := rest_range ok ((orderOf whole ws.sum ws).getD j 0)
  have hkey : b = (orderOf whole ws.sum ws).getD j 0 ∨ (lackTo whole ws.sum ws j).getD b 0 < (lackTo whole ws.sum ws j).getD ((orderOf whole ws.sum ws).getD j 0) 0 ∨
      ((lackTo whole ws.sum ws j).getD b 0 = (lackTo whole ws.sum ws j).getD ((orderOf whole ws.sum ws).getD j 0) 0 ∧ (orderOf whole ws.sum ws).getD j 0 < b) := by
    rcases Nat.lt_trichotomy q j with h | h | h
    · rw [if_pos h] at hb
      exact .inr (.inl (by omega))
    · subst h
      exact .inl e.symm
    · rw [if_neg (show ¬ q < j by omega)] at hb
      have := O.srt j q h hq
      rw [e] at this
      rcases this with h1 | ⟨h1, h2⟩
      · exact .inr (.inl (by omega))
      · exact .inr (.inr ⟨by omega, h2⟩)
  rcases hkey with h | h | ⟨h, h'⟩
  · exact h
  · rcases Nat.lt_trichotomy b ((orderOf whole ws.sum ws).getD j 0) with hl | hl | hl
    · have := b3 _ hl (by omega); omega
    · exact hl
    · have := b2 _ hl; omega
  · have := b2 _ h'; omega
end Go.Proofs.YtlnamjhgbdacbaaGreat
/- The reference's Divide: it is the program's. -/
namespace Go.Proofs.YtlnamjhgbdacbaaGreat
open Go.RowKit Go.Shelf

/-- when k parts are reckoned -/
structure RdI (whole : Int) (A : Option Addr) (ws : List Int) (w : World) (k : Nat) (vo vr : Value) (W : World) : Prop where
  iw : IsInts W w.heap.size A ws
  o : W.ownsRow w.heap.size 3 1 vo k (((baseOf whole ws.sum ws).take k).map (Value.int .i64))
  r : W.ownsRow w.heap.size 3 1 vr k (((restL whole ws.sum ws).take k).map (Value.int .i64))
  ne : vo.ownBlock = none ∨ vo.ownBlock ≠ vr.ownBlock
  below : Below w.heap.size w W
/-- the parts, in memory of their own -/
def GivesParts (ws : List Int) (whole : Int) (w : World) (e : Ending) (w' : World) : Prop :=
  ∃ A c, e = .returned (.slice A ws.length c) ∧ IsInts w' w'.heap.size A (divOf ws whole) ∧ ws.length ≤ c ∧ c ≤ maxLen ∧ Below w.heap.size w w'
def GivesPartsF (ws : List Int) (whole : Int) (w : World) (e : Ending) (w' : World) : Prop :=
  ∃ A c, e = .returned (.slice A ws.length c) ∧ IsInts w' w'.heap.size A (divOf ws whole) ∧ ws.length ≤ c ∧ c ≤ maxLen ∧ (∀ a, A = some a → w.heap.size ≤ a.block) ∧ Below w.heap.size w w'
theorem part_le {ws : List Int} (hx : ∀ x ∈ ws, 0 ≤ x) (k : Nat) : 0 ≤ (ws.take k).sum ∧ (ws.take k).sum ≤ ws.sum := by
  have e : (ws.take k).sum + (ws.drop k).sum = ws.sum := by rw [← List.sum_append, List.take_append_drop]
  have h1 := sum_nonneg (ws.take k) fun y hy => hx y (List.mem_of_mem_take hy)
  have h2 := sum_nonneg (ws.drop k) fun y hy => hx y (List.mem_of_mem_drop hy)
  omega

end Go.Proofs.YtlnamjhgbdacbaaGreat
/- The reference of layer 11: the carried counts. Conditions stand at each theorem. -/
namespace Go.Proofs.YtlnamjhgbdacbaaGreat
open Go.RowKit Go.Shelf

theorem blk_low {W W' : World} {base e size n g t : Nat} {v : Value} {xs : List Value} {us : Array Value} (ho : W.ownsRow base e size v n xs) (hg : W.grownBy W' v.ownBlock) (hb : Blk W g t us) (hlt : g < base) : Blk W' g t us :=
  (hg.block _ hb.lt (fun e' => by have := (ho.lt g e'.symm).1; omega)).trans hb
def atV (m : MapD) (d k : Nat) : List Value := (atTo m d k).map fun (i : Nat) => Value.int .i64 (i : Int)
def wsV (m : MapD) (d k : Nat) : List Value := (wsTo m d k).map (Value.int .i64)
/-- the streets and weights of a district, when k streets are looked at -/
structure CarI (m : MapD) (A : Option Addr) (c : Nat) (A2 : Option Addr) (c2 : Nat) (A3 : Option Addr) (c3 : Nat) (w : World) (d k : Nat) (v5 v6 : Value) (W : World) : Prop where
  r5 : W.ownsRow (w.heap.size + 2) 3 1 v5 (wsTo m d k).length (wsV m d k)
  r6 : W.ownsRow (w.heap.size + 2) 3 1 v6 (atTo m d k).length (atV m d k)
  ne : v6.ownBlock = none ∨ v6.ownBlock ≠ v5.ownBlock
  bo : Blk W (w.heap.size + 1) 3 (intC (carTo m d))
  bt : Blk W w.heap.size 26 #[.slice A m.old.length c, .int .i64 m.nw, .slice A2 m.ss.length c2, .slice A3 m.js.length c3]
  bl : Below w.heap.size w W
section
variable {m : MapD} {A : Option Addr} {c : Nat} {A2 : Option Addr} {c2 : Nat} {A3 : Option Addr} {c3 : Nat} {w W W1 W5 W6 W7 : World} {d k : Nat} {v5 v6 u5 u6 : Value}
theorem CarI.at_ (h : CarI m A c A2 c2 A3 c3 w d k v5 v6 W) (hb : Below W.heap.size W W1) : CarI m A c A2 c2 A3 c3 w d k v5 v6 W1 :=
  ⟨row_kept (vo := .slice none 0 0) h.r5 (grown_of_below hb _) (.inl rfl), row_kept (vo := .slice none 0 0) h.r6 (grown_of_below hb _) (.inl rfl), h.ne, h.bo.keep hb, h.bt.keep hb, h.bl.trans (hb.mono h.bl.size)⟩
theorem CarI.skip {s : Stt} (h : CarI m A c A2 c2 A3 c3 w d k v5 v6 W) (hs : m.ss[k]? = some s) (hd : s.o ≠ (d : Int)) : CarI m A c A2 c2 A3 c3 w d (k + 1) v5 v6 W := by
  obtain ⟨e1, e2⟩ := atTo_skip hs hd
  have h5 := h.r5
  have h6 := h.r6
  unfold wsV at h5
  unfold atV at h6
  exact ⟨by unfold wsV; rw [e2]; exact h5, by unfold atV; rw [e1]; exact h6, h.ne, h.bo, h.bt, h.bl⟩
theorem nn {x y : Option Nat} (h : x = none ∨ x ≠ y) : y = none ∨ y ≠ x := by
  rcases h with h | h
  · cases y with
    | none => exact .inl rfl
    | some z => exact .inr (by rw [h]; intro e; cases e)
  · exact .inr fun e => h e.symm
theorem CarI.mid (h : CarI m A c A2 c2 A3 c3 w d k v5 v6 W) (g5 : W.grownBy W5 v5.ownBlock) : W5.ownsRow (w.heap.size + 2) 3 1 v6 (atTo m d k).length (atV m d k) := row_kept h.r6 g5 (nn h.ne)
theorem CarI.add {s : Stt} (h : CarI m A c A2 c2 A3 c3 w d k v5 v6 W) (hs : m.ss[k]? = some s) (hd : s.o = (d : Int)) (o5 : W5.ownsRow (w.heap.size + 2) 3 1 u5 ((wsTo m d k).length + 1) (wsV m d k ++ [.int .i64 s.wt])) (g5 : W.grownBy W5 v5.ownBlock) (f5 : u5.ownBlock = v5.ownBlock ∨ u5.ownBlock = some W.heap.size)
    (hb : Below W5.heap.size W5 W6) (o7 : W7.ownsRow (w.heap.size + 2) 3 1 u6 ((atTo m d k).length + 1) (atV m d k ++ [.int .i64 (k : Int)])) (g7 : W6.grownBy W7 v6.ownBlock) (f7 : u6.ownBlock = v6.ownBlock ∨ u6.ownBlock = some W6.heap.size) : CarI m A c A2 c2 A3 c3 w d (k + 1) u5 u6 W7 := by
  obtain ⟨e1, e2⟩ := atTo_take hs hd
  have n65 : v6.ownBlock = none ∨ v6.ownBlock ≠ u5.ownBlock := by
    rcases f5 with e | e
    · rw [e]; exact h.ne
    · rw [e]
      refine .inr fun e' => ?_
      have := (h.r6.lt _ e').2
      omega
  have o5' := row_kept (row_kept (vo := .slice none 0 0) o5 (grown_of_below hb _) (.inl rfl)) g7 n65
  have r6' := row_kept (vo := .slice none 0 0) (h.mid g5) (grown_of_below hb none) (.inl rfl)
  refine ⟨?_, ?_, ?_, ?_, ?_, ?_⟩
  · unfold wsV at o5' ⊢
    rw [e2, List.length_append, List.map_append]; exact o5'
  · unfold atV at o7 ⊢
    rw [e1, List.length_append, List.map_append]; exact o7
  · rcases f7 with e | e
    · rw [e]; exact n65
    · rw [e]
      refine .inr fun e' => ?_
      have h1 := (o5.lt _ e'.symm).2
      have := hb.size
      omega
  · exact blk_low r6' g7 ((blk_low h.r5 g5 h.bo (by omega)).keep hb) (by omega)
  · exact blk_low r6' g7 ((blk_low h.r5 g5 h.bt (by omega)).keep hb) (by omega)
  · have b5 := below_row' h.bl h.r5 (by omega) g5 h.bl.size
    exact below_row' (b5.trans (hb.mono b5.size)) r6' (by omega) g7 (by have := b5.size; have := hb.size; omega)
end

end Go.Proofs.YtlnamjhgbdacbaaGreat
