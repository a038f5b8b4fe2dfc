/- The walks and the plain laws of this part of the program, part 6: what each computes. Conditions stand at each theorem. -/
import Derived.Laws.CopyOwn
import Derived.LoopIn
import Derived.Deep.OwnRows
import Derived.Test.YtlnamjhgbdacbaaGreatG1
import Derived.Test.YtlnamjhgbdacbaaGreatG2
import Derived.Test.YtlnamjhgbdacbaaGreatG5
/- Best, walked: where there is none. -/
namespace Go.Proofs.YtlnamjhgbdacbaaGreat
open Go.RowKit Go.Shelf

set_option maxRecDepth 10000 in
set_option maxHeartbeats 1000000 in
theorem best_bad (b : Int) (A : Option Addr) (c : Nat) (cs : List (List Int)) (A2 : Option Addr) (c2 : Nat) (fs : List Fx) (w : World) (h : TIn A c cs A2 c2 fs w) (hc : chkE b cs fs ≠ 0) :
    Calls Tryz.prog 10 #[.agg #[.int .i64 b, .slice A cs.length c, .slice A2 fs.length c2]] w fun e w' => e = .returned (.tuple #[.slice none 0 0, .int .i64 0, .int .i64 (chkE b cs fs)]) ∧ Below w.heap.size w w' := by
  have hB := below_box (w := w) #[.int .i64 b, .slice A cs.length c, .slice A2 fs.length c2] 41
  have K := hid (work_bad b A c cs A2 c2 fs _ (h.at_ hB) hc)
  have hne : (chkE b cs fs != 0) = true := by simpa using hc
  clear h hc
  generalize chkE b cs fs = ce at *
  go_enter Tryz.func10, Tryz.ntmps10
  go_wp2_with (go_at_call 27; refine (K.out).mono ?_; rintro e w2 ⟨rfl, hb2⟩)
  exact bodyPost_ret (v := .tuple #[.slice none 0 0, .int .i64 0, .int .i64 ce]) (by simp [results, Tryz.results10, go_sem]) rfl ⟨rfl, hB.trans (hb2.mono hB.size)⟩

theorem Began.below {b : Int} {A : Option Addr} {c : Nat} {cs : List (List Int)} {A2 : Option Addr} {c2 : Nat} {fs : List Fx} {n mb : Nat} {w w' : World} (h : Began b A c cs A2 c2 fs n mb w) (hb : Below w.heap.size w w') : Began b A c cs A2 c2 fs n mb w' :=
  ⟨h.ok, h.env.below hb, h.memo.below hb, h.hn, Nat.lt_of_lt_of_le h.lt hb.size⟩

set_option maxRecDepth 10000 in
set_option maxHeartbeats 1000000 in
theorem best_none (b : Int) (A : Option Addr) (c : Nat) (cs : List (List Int)) (A2 : Option Addr) (c2 : Nat) (fs : List Fx) (w : World) (h : TIn A c cs A2 c2 fs w) (hc : chkE b cs fs = 0) (hw : (spec b cs fs cs.length zeroS).ways = 0) :
    Calls Tryz.prog 10 #[.agg #[.int .i64 b, .slice A cs.length c, .slice A2 fs.length c2]] w fun e w' => e = .returned (.tuple #[.slice none 0 0, .int .i64 0, .int .i64 9]) ∧ Below w.heap.size w w' := by
  have hB := below_box (w := w) #[.int .i64 b, .slice A cs.length c, .slice A2 fs.length c2] 41
  have h' := h.at_ hB
  have K := hid (work_ok b A c cs A2 c2 fs _ h' hc)
  have KB := hid (fun w' mb hb h1 h2 h3 => (began (w' := w') (mb := mb) h' hc hb h1 h2 h3))
  have HW := hid hw
  clear h h' hc hw
  go_enter Tryz.func10, Tryz.ntmps10
  go_wp2_with (go_at_call 27; refine (K.out).mono ?_; rintro e w2 ⟨mb, rfl, hb2, h1, h2, h3⟩; have KC := KB.out w2 mb hb2 h1 h2 h3; have KD := hid (And.intro KC (And.intro hb2 h1)); clear KC hb2 h1 h2 h3)
  have hbl := (Below.refl w2.heap.size w2).alloc (Nat.le_refl _) (.cells #[.int .i64 0, .int .i64 0, .int .i64 0, .int .i64 0, .int .i64 0] 100)
  refine ((KD.out.1.below hbl).from).mono ?_
  rintro e w3 ⟨A', c', rfl, hg, _, _⟩
  have hz := HW.out
  simp only [restV, hz]
  go_wp2
  refine bodyPost_ret (v := .tuple #[.slice none 0 0, .int .i64 0, .int .i64 9]) (by simp [results, Tryz.results10, go_sem]) rfl ⟨rfl, ?_⟩
  have hq := below_new (KD.out.2.1.trans (hbl.mono KD.out.2.1.size)) hg KD.out.2.2
  exact (hB.trans (hq.mono hB.size)).alloc (Nat.le_trans hB.size hq.size) _
end Go.Proofs.YtlnamjhgbdacbaaGreat
/- The frame behind a statement whose order is open, written out. -/
namespace Go.Proofs.YtlnamjhgbdacbaaGreat
open Go.RowKit

/-- a list in which some places are replaced -/
def mix (ds : List Nat) (g : Nat → Value) : Nat → List Value → List Value
  | _, [] => []
  | i, v :: vs => (bif ds.contains i then g i else v) :: mix ds g (i + 1) vs
theorem mix_get (ds : List Nat) (g : Nat → Value) : ∀ (vs : List Value) (i k : Nat), (mix ds g i vs)[k]? = (vs[k]?).map fun v => bif ds.contains (i + k) then g (i + k) else v
  | [], i, k => by simp [mix]
  | v :: vs, i, 0 => by simp [mix]
  | v :: vs, i, k + 1 => by
    simp only [mix, List.getElem?_cons_succ]
    rw [mix_get ds g vs (i + 1) k, Nat.add_assoc, Nat.add_comm 1 k]
theorem act_mix {a a' : Act} (ds : List Nat) (hs : a'.tmps.size = a.tmps.size) (hd : a'.defers = a.defers) (h : ∀ i, i < a.tmps.size → ds.contains i = false → a'.tmps.getD i undef = a.tmps.getD i undef) :
    a' = { tmps := (mix ds (fun i => a'.tmps.getD i undef) 0 a.tmps.toList).toArray, defers := a.defers } := by
  obtain ⟨t', d'⟩ := a'
  obtain ⟨t, d⟩ := a
  simp only at hs hd h ⊢
  subst hd
  congr 1
  apply Array.ext_getElem?
  intro i
  show t'[i]? = (mix ds (fun i => t'.getD i undef) 0 t.toList).toArray[i]?
  rw [show (mix ds (fun i => t'.getD i undef) 0 t.toList).toArray[i]? = (mix ds (fun i => t'.getD i undef) 0 t.toList)[i]? from by simp, mix_get, Nat.zero_add]
  by_cases hi : i < t.size
  · have h1 : t.toList[i]? = some t[i] := by simp [hi]
    rw [h1]
    simp only [Option.map_some]
    have h2 : t'[i]? = some (t'.getD i undef) := by simp [Array.getD, hs, hi]
    rw [h2]
    cases hc : ds.contains i
    · simp only [cond_false]
      rw [h i hi hc]
      simp [Array.getD, hi]
    · simp only [cond_true]
  · have h1 : t.toList[i]? = none := by simp; omega
    rw [h1]
    simp only [Option.map_none]
    exact Array.getElem?_eq_none (by omega)
def dstsIn (l : List Oper) (n : Nat) (ds : List Nat) : Bool := (List.range n).all fun i => ((l.toArray[i]?).bind (·.dst)).all fun d => ds.contains d
section
variable {l : List Oper} {n : Nat} {R : Nat → Value → World → Prop} {St : World → World → Prop} {G : Array Bool → World → Prop} {a : Act} {w : World} {li : Array Bool} {a' : Act} {W : World}
theorem Done.act (h : Done l n R St G a w li a' W) (ds : List Nat) (hds : dstsIn l n ds = true) :
    a' = { tmps := (mix ds (fun i => a'.tmps.getD i undef) 0 a.tmps.toList).toArray, defers := a.defers } := by
  refine act_mix ds h.size h.defers fun i hi hc => h.rest i fun k hk e => ?_
  have h1 := List.all_eq_true.1 hds k (List.mem_range.2 hk)
  rw [e] at h1
  simp only [Option.all_some] at h1
  rw [h1] at hc
  cases hc
theorem Done.act_then (h : Done l n R St G a w li a' W) (ds : List Nat) (hds : dstsIn l n ds = true) {a4 : Act} {d : Nat} (hs : a4.tmps.size = a'.tmps.size) (hd : a4.defers = a'.defers) (ho : ∀ d', d' ≠ d → a4.tmps.getD d' undef = a'.tmps.getD d' undef) (hdd : ds.contains d = true) :
    a4 = { tmps := (mix ds (fun i => a4.tmps.getD i undef) 0 a.tmps.toList).toArray, defers := a.defers } := by
  refine act_mix ds (hs.trans h.size) (hd.trans h.defers) fun i hi hc => (ho i (fun e => by rw [e, hdd] at hc; cases hc)).trans (h.rest i fun k hk e => ?_)
  have h1 := List.all_eq_true.1 hds k (List.mem_range.2 hk)
  rw [e] at h1
  simp only [Option.all_some] at h1
  rw [h1] at hc
  cases hc
theorem Done.keeps (h : Done l n R St G a w li a' W) {ds : List Nat} (hds : dstsIn l n ds = true) : ∀ i, ds.contains i = false → a'.tmps.getD i undef = a.tmps.getD i undef := fun i hc => h.rest i fun k hk e => by
  have h1 := List.all_eq_true.1 hds k (List.mem_range.2 hk)
  rw [e] at h1
  simp only [Option.all_some] at h1
  rw [h1] at hc
  cases hc
theorem keeps_then {ds : List Nat} {b b' : Act} {d : Nat} (h : ∀ i, ds.contains i = false → b.tmps.getD i undef = a.tmps.getD i undef) (ho : ∀ d', d' ≠ d → b'.tmps.getD d' undef = b.tmps.getD d' undef) (hdd : ds.contains d = true) :
    ∀ i, ds.contains i = false → b'.tmps.getD i undef = a.tmps.getD i undef := fun i hc => (ho i (fun e => by rw [e, hdd] at hc; cases hc)).trans (h i hc)
end
end Go.Proofs.YtlnamjhgbdacbaaGreat
/- Best, walked: the loop over the rows. -/
namespace Go.Proofs.YtlnamjhgbdacbaaGreat
open Go.RowKit Go.Shelf

theorem rows_info : (Tryz.prog.info? 22).map (fun i => (i.zero, i.size, i.bytes)) = some (some (.slice none 0 0), 1, 24) := by kernel_rfl

/-- the best rounding, when j rows are chosen -/
structure BestI (b : Int) (A : Option Addr) (c : Nat) (cs : List (List Int)) (A2 : Option Addr) (c2 : Nat) (fs : List Fx) (n mb B6 B7 : Nat) (w : World) (j : Nat) (v : Value) (W : World) : Prop where
  env : FEnv (mb + 1) n mb b A c cs A2 c2 fs W
  memo : Memo b cs fs mb (fun q => q = mb) W
  tb : Blk W w.heap.size 41 #[.int .i64 b, .slice A cs.length c, .slice A2 fs.length c2]
  t6 : Blk W B6 100 #[.int .i64 j, .int .i64 (sAt b cs fs j).a, .int .i64 (sAt b cs fs j).b, .int .i64 (sAt b cs fs j).c, .int .i64 (sAt b cs fs j).d]
  t7 : ∃ A' c', Blk W B7 102 #[.int .i64 (spec b cs fs cs.length zeroS).ways, .int .i64 (spec b cs fs cs.length zeroS).change, .slice A' (spec b cs fs cs.length zeroS).first.length c']
  rows : Rows_ (w.heap.size + 1) v j (bestOf b cs fs cs.length zeroS) W
  below : Below w.heap.size w W
section
variable {W W' : World} {base e size n : Nat} {v : Value} {vs : List Value}
theorem Keep.of_row {Z : Nat → Prop} {row : Option Nat} (h : W.grownBy W' row) (hz : ∀ k, row = some k → Z k) : Keep Z W W' :=
  ⟨h.os, h.tape, h.output, h.size, fun i _ _ _ hi hn => (h.block i (Array.getElem?_eq_some_iff.1 hi).1 (fun e => hn (hz i e.symm))).trans hi⟩
theorem keep_row (hg : W.grownBy W' v.ownBlock) : Keep (fun q => v.ownBlock = some q) W W' := Keep.of_row hg (fun _ h => h)
theorem own_not (ho : W.ownsRow base e size v n vs) {z : Nat} (hz : ∀ cs, W.heap[z]? ≠ some (.cells cs e (0, 0))) : ¬ v.ownBlock = some z := by
  rcases own_ne ho hz with h | h
  · rw [h]; intro e; cases e
  · exact h
theorem Blk.row {g t : Nat} {cs : Array Value} (h : Blk W g t cs) (ho : W.ownsRow base e size v n vs) (he : t ≠ e) (hg : W.grownBy W' v.ownBlock) : Blk W' g t cs := (keep_row hg).blk h (own_not ho (blk_not h he))
theorem FEnv.row {P n' mb : Nat} {b : Int} {At : Option Addr} {ct : Nat} {cs : List (List Int)} {Af : Option Addr} {cf : Nat} {fs : List Fx} (h : FEnv P n' mb b At ct cs Af cf fs W) (ho : W.ownsRow base e size v n vs) (he : 143 ≠ e) (hn : n' ≤ base) (hg : W.grownBy W' v.ownBlock) : FEnv P n' mb b At ct cs Af cf fs W' :=
  h.keep (keep_row hg) (own_not ho (blk_not h.bp he)) (fun q hq => by have := ho.lt q hq; omega)
theorem Good.row {Y : Nat → Prop} {x : Rst} {A : Option Addr} {c : Nat} (h : Good Y W x A c) (ho : W.ownsRow base e size v n vs) (he : 3 ≠ e) (hg : W.grownBy W' v.ownBlock) : Good Y W' x A c :=
  h.keep (keep_row hg) (fun a e' => by
    obtain ⟨⟨us, hb⟩, _⟩ := h.av a e'
    exact own_not ho (blk_not hb he))
theorem Memo.row {Y : Nat → Prop} {b : Int} {cs : List (List Int)} {fs : List Fx} {mb : Nat} (h : Memo b cs fs mb Y W) (ho : W.ownsRow base e size v n vs) (he : 3 ≠ e) (hg : W.grownBy W' v.ownBlock) : Memo b cs fs mb Y W' := by
  obtain ⟨es, clock, h1, h2, h3⟩ := h
  refine ⟨es, clock, (hg.block mb (Array.getElem?_eq_some_iff.1 h1).1 (fun e => own_not ho (map_not h1) e.symm)).trans h1, h2, fun e' he' => ?_⟩
  obtain ⟨k, s, A, c, g1, g2, g3, g4, g5⟩ := h3 e' he'
  exact ⟨k, s, A, c, g1, g2, g3, g4, g5.row ho he hg⟩
theorem below_row {B : Nat} {A : World} (h : Below B A W) (ho : W.ownsRow base e size v n vs) (hb : B ≤ base) (hg : W.grownBy W' v.ownBlock) (hB : B ≤ W.heap.size) : Below B A W' := h.grown hg hB (fun k hk => by have := ho.lt k hk; omega)
end
def set5 (W : World) (g : Nat) (u0 u1 u2 u3 u4 : Value) : World := ((((W.setCell ⟨g, 0, none⟩ u0).setCell ⟨g, 1, none⟩ u1).setCell ⟨g, 2, none⟩ u2).setCell ⟨g, 3, none⟩ u3).setCell ⟨g, 4, none⟩ u4
theorem set5_grown (W : World) (g : Nat) (u0 u1 u2 u3 u4 : Value) : W.grownBy (set5 W g u0 u1 u2 u3 u4) (some g) :=
  grown_one (grown_one (grown_one (grown_one (grown_of_set W ⟨g, 0, none⟩ u0) (grown_of_set _ ⟨g, 1, none⟩ u1)) (grown_of_set _ ⟨g, 2, none⟩ u2)) (grown_of_set _ ⟨g, 3, none⟩ u3)) (grown_of_set _ ⟨g, 4, none⟩ u4)
theorem set5_blk {W : World} {g : Nat} {t : TypeId} {v0 v1 v2 v3 v4 : Value} (h : Blk W g t #[v0, v1, v2, v3, v4]) (u0 u1 u2 u3 u4 : Value) : Blk (set5 W g u0 u1 u2 u3 u4) g t #[u0, u1, u2, u3, u4] := ((((h.set_ 0 u0).set_ 1 u1).set_ 2 u2).set_ 3 u3).set_ 4 u4
def lenOf : Value → Nat
  | .slice _ n _ => n
  | _ => 0
theorem Rows_.shape {base j : Nat} {v : Value} {rows : List (List Int)} {W : World} (h : Rows_ base v j rows W) : ∃ A c, v = .slice A j c := by
  obtain ⟨vs, ho, _⟩ := h
  rcases ho.2 with ⟨rfl, rfl⟩ | ⟨g, cap, cur, rfl, _⟩
  · exact ⟨_, _, rfl⟩
  · exact ⟨_, _, rfl⟩
theorem Rows_.zero {base : Nat} {rows : List (List Int)} {W : World} : Rows_ base (.slice none 0 0) 0 rows W := ⟨[], World.ownsRow_nil _ _ _ _, fun _ _ hi => absurd hi (Nat.not_lt_zero _)⟩
/-- a result of Best that is a rounding -/
def GivesBest (b : Int) (cs : List (List Int)) (fs : List Fx) (w : World) (e : Ending) (w' : World) : Prop :=
  ∃ A c, e = .returned (.tuple #[.slice A cs.length c, .int .i64 (spec b cs fs cs.length zeroS).change, .int .i64 0]) ∧ IsRows w' w'.heap.size A (bestOf b cs fs cs.length zeroS) ∧ cs.length ≤ c ∧ c ≤ maxLen ∧ (A = none → c = 0) ∧ (∀ a, A = some a → w.heap.size ≤ a.block) ∧ Below w.heap.size w w'
theorem Rows_.out {base : Nat} {v : Value} {rows : List (List Int)} {W : World} (h : Rows_ base v rows.length rows W) : ∃ A c, v = .slice A rows.length c ∧ IsRows W W.heap.size A rows ∧ rows.length ≤ c ∧ c ≤ maxLen ∧ (A = none → c = 0) ∧ (∀ a, A = some a → base ≤ a.block) := by
  obtain ⟨vs, ho, hv⟩ := h
  rcases ho.2 with ⟨rfl, h0⟩ | ⟨g, cap, cur, rfl, hb, hg, h1, h2, h3, h4⟩
  · rw [h0]
    refine ⟨none, 0, rfl, ?_, Nat.le_refl _, Nat.zero_le _, fun _ => rfl, fun a e => by cases e⟩
    intro r xs hx
    rw [List.eq_nil_of_length_eq_zero h0] at hx
    simp at hx
  · refine ⟨_, cap, rfl, ?_, h1, h2, (fun e => by cases e), fun a e => by cases e; exact hb⟩
    intro r xs hx
    obtain ⟨A, c, g1, g2⟩ := hv r xs (List.getElem?_eq_some_iff.1 hx).1 hx
    exact ⟨_, A, c, rfl, (Array.getElem?_eq_some_iff.1 hg).1, ho.cells (g := g) rfl r _ g1, g2.le, g2.mx, g2.ints⟩
theorem sAt_small {b : Int} {cs : List (List Int)} {fs : List Fx} (ok : TOk b cs fs) : ∀ (j : Nat), j ≤ cs.length → Small (10100 * (j : Int)) (sAt b cs fs j)
  | 0, _ => zeroS_small (by decide)
  | j + 1, hj => by
    have ih := sAt_small ok j (by omega)
    have := (bnd_spec ok (cs.length - j) (by omega) (sAt b cs fs j)).1
    exact (plusS_small' ih this.cell).mono (by omega)

set_option maxRecDepth 100000 in
set_option maxHeartbeats 4000000 in
theorem best_some (b : Int) (A : Option Addr) (c : Nat) (cs : List (List Int)) (A2 : Option Addr) (c2 : Nat) (fs : List Fx) (w : World) (h : TIn A c cs A2 c2 fs w) (hc : chkE b cs fs = 0) (hw : (spec b cs fs cs.length zeroS).ways ≠ 0) :
    Calls Tryz.prog 10 #[.agg #[.int .i64 b, .slice A cs.length c, .slice A2 fs.length c2]] w (GivesBest b cs fs w) := by
  have hB := below_box (w := w) #[.int .i64 b, .slice A cs.length c, .slice A2 fs.length c2] 41
  have h' := h.at_ hB
  have K := hid (work_ok b A c cs A2 c2 fs _ h' hc)
  have KB := hid (fun w' mb hb h1 h2 h3 => (began (w' := w') (mb := mb) h' hc hb h1 h2 h3))
  have hne : ((spec b cs fs cs.length zeroS).ways == 0) = false := by simpa using hw
  have OK := hid (chk_ok hc)
  clear h h' hc hw
  go_enter Tryz.func10, Tryz.ntmps10
  go_wp2_with (go_at_call 27; refine (K.out).mono ?_; rintro e w2 ⟨mb, rfl, hb2, h1, h2, h3⟩; have KC := KB.out w2 mb hb2 h1 h2 h3; have KD := hid (And.intro KC (And.intro hb2 h1)); clear KC hb2 h1 h2 h3)
  have hbl := (Below.refl w2.heap.size w2).alloc (Nat.le_refl _) (.cells #[.int .i64 0, .int .i64 0, .int .i64 0, .int .i64 0, .int .i64 0] 100)
  refine ((KD.out.1.below hbl).from).mono ?_
  rintro e w3 ⟨A', c', rfl, hg, hm, hgd⟩
  simp only [restV]
  have HX := hid (And.intro hg (And.intro hm hgd))
  clear hg hm hgd
  go_wp2
  refine gen (p := Code.wp _ _ _ _) (fun W => BestI b A c cs A2 c2 fs (w.heap.size + 1) mb w2.heap.size w3.heap.size w 0 (.slice none 0 0) W ∧ w.heap.size + 1 ≤ mb ∧ mb + 1 < w2.heap.size ∧ w2.heap.size < w3.heap.size) ?_ ?_
  · obtain ⟨hg, hm, hgd⟩ := HX.out
    obtain ⟨kb, k2, k3⟩ := KD.out
    have hs2 := kb.env.bp.lt
    have hs3 := hg.size
    have hsz : (w.alloc (.cells #[.int .i64 b, .slice A cs.length c, .slice A2 fs.length c2] 41)).heap.size = w.heap.size + 1 := by simp
    have hk2 := k2.size
    simp only [World.size_alloc] at hs3
    have hb3 := below_new (k2.trans (hbl.mono k2.size)) hg k3
    have hbn := (Below.refl w3.heap.size w3).alloc (Nat.le_refl _) (.cells #[.int .i64 (spec b cs fs cs.length zeroS).ways, .int .i64 (spec b cs fs cs.length zeroS).change, .slice A' (spec b cs fs cs.length zeroS).first.length c'] 102)
    have hk : Keep (fun q => q = mb) (w2.alloc (.cells #[.int .i64 0, .int .i64 0, .int .i64 0, .int .i64 0, .int .i64 0] 100)) w3 := Keep.of_grown hg rfl
    have h6 := (hk.blk (Blk.new w2 100 #[.int .i64 0, .int .i64 0, .int .i64 0, .int .i64 0, .int .i64 0]) (by omega)).keep hbn
    refine ⟨⟨by rw [← hsz]; exact ((kb.env.below hbl).keep hk (by omega) (fun q hq => by omega)).below hbn, hm.below hbn, ?_, h6, ⟨A', c', Blk.new _ _ _⟩, Rows_.zero, ?_⟩, by omega, by omega, by omega⟩
    · exact (((Blk.new w 41 #[.int .i64 b, .slice A cs.length c, .slice A2 fs.length c2]).below hb3 (by simp)).keep hbn)
    · exact (hB.trans (hb3.mono hB.size)).trans (hbn.mono (by omega))
  rintro W1 ⟨HI1, z1, z2, z3⟩
  have HZ := hid (And.intro z1 (And.intro z2 z3))
  have HI := hid HI1
  clear HI1 z1 z2 z3 HX KD KB K hbl
  generalize w2.heap.size = B6 at *
  generalize w3.heap.size = B7 at *
  go_loopw [2, 8] (fun v _ wr => ∃ j : Nat, j ≤ cs.length ∧ lenOf v = j ∧ BestI b A c cs A2 c2 fs (w.heap.size + 1) mb B6 B7 w j v wr) (fun v _ _ => cs.length - lenOf v)
  case atStart => exact ⟨0, Nat.zero_le _, rfl, HI.out⟩
  case round =>
    obtain ⟨j, hj, hl, hi⟩ := hrel
    clear HI
    obtain ⟨A0, c0, rfl⟩ := hi.rows.shape
    obtain ⟨z1, z2, z3⟩ := HZ.out
    obtain ⟨s0, s1, s2, s3, s4⟩ := hi.t6.c5
    obtain ⟨t0, t1, t2⟩ := hi.tb.c3
    obtain ⟨A7, c7, hr7⟩ := hi.t7
    have HI := hid hi
    by_cases hlt : j < cs.length
    · have hltI : (j : Int) < (cs.length : Int) := by omega
      have HF := hid (from_any OK.out (by omega) (by omega) (cs.length - j) j (sAt b cs fs j) (fun q => q = mb) wr (by omega) (sAt_small OK.out j hj) rfl (fun q hq => by subst hq; have := hi.env.bp.lt; omega) hi.env hi.memo)
      clear hi hr7 z1 z2 z3 hl
      go_wp2_with fail
      refine HF.out.mono ?_
      rintro e w4 ⟨A', c', rfl, hg, hm, hgd⟩
      have HS := hid (show sAt b cs fs (j + 1) = plusS (sAt b cs fs j) (spec b cs fs (cs.length - j) (sAt b cs fs j)).first from rfl)
      have HG := hid (bestOf_get (b := b) (cs := cs) (fs := fs) j 0 cs.length (by omega) hlt)
      have hbn := (bnd_spec OK.out (cs.length - j) (by omega) (sAt b cs fs j)).1
      have hx4 := hbn.len
      have HC := hid hbn.cell
      have HM := hid (sAt_small OK.out j hj)
      have hn2 := OK.out.okc.n2
      simp only [Nat.zero_add] at HG
      have e0 : sAt b cs fs 0 = zeroS := rfl
      rw [e0] at HG
      generalize spec b cs fs (cs.length - j) (sAt b cs fs j) = x at *
      have hfl := rest_field (u0 := .int .i64 x.ways) (u1 := .int .i64 x.change) (u2 := .slice A' x.first.length c') 2 22 _ w4 rfl rfl (by simp [go_sem, isAgg])
      have HX := hid (And.intro hg (And.intro hm hgd))
      clear hg hm hgd hbn e0
      simp only [restV]
      go_simp
      clear s0 s1 s2 s3 s4 t0 t1 t2
      go_wp2_with fail
      clear hfl
      refine (clone_any A' c' x.first w4 HX.out.2.2.ints HX.out.2.2.nil (by omega)).mono ?_
      rintro e w5 ⟨A5, c5, rfl, g1, g2, g3, g4, g5, hb5⟩
      obtain ⟨i0, hi0, hz0, hz1, hz2⟩ := info_parts rows_info
      have hmem := HI.out.memo
      obtain ⟨es, ck, hmap, _⟩ := hmem
      obtain ⟨vs, ho, hv⟩ := (HI.out.rows.grown HX.out.1 (map_not hmap) (map_not hmap)).below hb5
      have HV := hid (And.intro hv (And.intro g1 (And.intro g2 (And.intro g3 (And.intro g4 g5)))))
      have HO := hid (ho.alloc (.cells #[.slice A5 x.first.length c5] 22))
      have HB5 := hid hb5
      have hbase := HI.out.below.size
      have hbase4 := HX.out.1.size
      have hbase5 := hb5.size
      clear ho hv g1 g2 g3 g4 g5 hmap hb5
      go_wp2_with (at_builtin; refine wpList_append_own_at _ rfl _ _ 38 rfl (w.heap.size + 1) 22 i0 (.slice none 0 0) 1 24 Tryz.underlying38 hi0 hz0 hz1 hz2 rfl (by decide) _ j vs rfl HO.out ⟨w5.heap.size, 0, none⟩ 1 1 [.slice A5 x.first.length c5] rfl rfl (by intro q u hq; cases q with | zero => simp at hq; subst hq; exact (World.cell?_alloc_new _ _ _ _) | succ q => simp at hq) (by intro u hu; simp at hu; subst hu; rfl) (by simp only [maxLen]; omega) (by omega) (by simp; omega) ?_; intro v' w6 hown' hgrow _ _)
      have hown := HO.out
      have hga : w5.grownBy (w5.alloc (.cells #[.slice A5 x.first.length c5] 22)) none := grown_of_below ((Below.refl _ _).alloc (Nat.le_refl _) _) _
      have hba : Below w5.heap.size w5 (w5.alloc (.cells #[.slice A5 x.first.length c5] 22)) := (Below.refl _ _).alloc (Nat.le_refl _) _
      obtain ⟨es, ck, hmap, _⟩ := HI.out.memo
      have hk4 : Keep (fun q => q = mb) wr w4 := Keep.of_grown HX.out.1 rfl
      obtain ⟨z1, z2, z3⟩ := HZ.out
      have e4 := HI.out.env.keep hk4 (by omega) (fun q hq => by omega)
      have hb45 := HB5.out.trans (hba.mono HB5.out.size)
      have e6 := (e4.below hb45).row hown (by decide) (Nat.le_refl _) hgrow
      have m6 := (HX.out.2.1.below hb45).row hown (by decide) hgrow
      have tb6 := ((hk4.blk HI.out.tb (by omega)).keep hb45).row hown (by decide) hgrow
      have t66 := ((hk4.blk HI.out.t6 (by omega)).keep hb45).row hown (by decide) hgrow
      obtain ⟨A7, c7, hr7⟩ := HI.out.t7
      have t76 := ((hk4.blk hr7 (by omega)).keep hb45).row hown (by decide) hgrow
      have x6 := ((HX.out.2.2.below hb45).row hown (by decide) hgrow)
      have b5 : Below w.heap.size w (w5.alloc (.cells #[.slice A5 x.first.length c5] 22)) := ((HI.out.below.grown HX.out.1 hbase (fun k hk => by cases hk; omega)).trans (hb45.mono (by omega)))
      have b6 := below_row b5 hown (by omega) hgrow (by simp; omega)
      have hz6 := hgrow.size
      have r6 : Rows_ (w.heap.size + 1) v' (j + 1) (bestOf b cs fs cs.length zeroS) w6 := by
        obtain ⟨hv, g1, g2, g3, g4, g5⟩ := HV.out
        refine ⟨_, hown', fun i y hi hy => ?_⟩
        by_cases hij : i < j
        · obtain ⟨Ai, ci, q1, q2⟩ := hv i y hij hy
          have : vs.length = j := by have := hown.1; omega
          exact ⟨Ai, ci, by rw [List.getElem?_append_left (by omega)]; exact q1, (q2.below hba).row hown (by decide) hgrow⟩
        · obtain rfl : i = j := by omega
          rw [HG.out] at hy
          injection hy with hy
          subst hy
          have : vs.length = i := by have := hown.1; omega
          refine ⟨A5, c5, by rw [List.getElem?_append_right (by omega), this]; simp, Good.row (Good.below ⟨g3, fun a e => ⟨(g4 a e).2, id⟩, g1, g2, g5⟩ hba) hown (by decide) hgrow⟩
      have H6 := hid (And.intro e6 (And.intro m6 (And.intro tb6 (And.intro t66 (And.intro t76 (And.intro x6 (And.intro b6 r6)))))))
      clear HI HX HV HO HB5 hown hga hba hmap hk4 e4 hb45 e6 m6 tb6 t66 t76 x6 b5 b6 r6 hr7 hown' hgrow hbase hbase4 hbase5 hz6 HG hi0 hz0 hz1 hz2
      have HQ := hid (show ∀ W1, Below w6.heap.size w6 W1 → W1.cell? ⟨B6, 0, none⟩ = some (.int .i64 j) ∧ W1.cell? ⟨B6, 1, none⟩ = some (.int .i64 (sAt b cs fs j).a) ∧ W1.cell? ⟨B6, 2, none⟩ = some (.int .i64 (sAt b cs fs j).b) ∧ W1.cell? ⟨B6, 3, none⟩ = some (.int .i64 (sAt b cs fs j).c) ∧ W1.cell? ⟨B6, 4, none⟩ = some (.int .i64 (sAt b cs fs j).d) from
        fun W1 hb => (H6.out.2.2.2.1.keep hb).c5)
      have HP := hid (show ∀ W1, Below w6.heap.size w6 W1 → _ from fun W1 hb => plus_any (sAt b cs fs j) A' c' x.first W1 (HM.out.mono (by omega)) (H6.out.2.2.2.2.2.1.below hb).ints hx4 (fun v hv => by have := HC.out v hv; omega))
      generalize hsj : sAt b cs fs j = s at *
      clear hsj
      refine (wpIn_wide (n := 0)).1 ?_
      refine wpIn_region_each 8 (fun i v W' => match i with | 0 => v = .pointer (some ⟨B6, 0, none⟩) | 1 => v = .int .i64 j | 2 => v = .int .i64 ((j : Int) + 1) | 3 => v = .pointer (some ⟨B6, 1, none⟩) | 4 => v = .agg #[.int .i64 s.a, .int .i64 s.b, .int .i64 s.c, .int .i64 s.d] | 5 => v = .slice A' x.first.length c' | 6 => v = .agg #[.int .i64 (plusS s x.first).a, .int .i64 (plusS s x.first).b, .int .i64 (plusS s x.first).c, .int .i64 (plusS s x.first).d] | 7 => v = .agg #[.int .i64 ((j : Int) + 1), .int .i64 (plusS s x.first).a, .int .i64 (plusS s x.first).b, .int .i64 (plusS s x.first).c, .int .i64 (plusS s x.first).d] | _ => True) (fun A B => Below A.heap.size A B) (fun _ _ => True) (by kernel_rfl) (by kernel_rfl) ?_ (fun h k => h.trans (k.mono h.size)) ⟨rfl, rfl, rfl, Nat.le_refl _, fun _ _ => rfl⟩ trivial (by kernel_rfl) ?_ ?_
      · intro i v _ _ _ h; exact h
      · refine ⟨?_, ?_, ?_, ?_, ?_, ?_, ?_, ?_, trivial⟩
        · -- 0: fieldAddr t6 0
          intro li a1 W2 hA K hK
          have e6 := hA.par 6 (by kernel_rfl)
          refine opStep none 0 rfl rfl (fun c hc => by cases hc) ?_
          go_simp
          exact hK _ _ rfl (Below.refl _ _) trivial
        · -- 1: load t39
          intro li a1 W2 hA K hK
          have e39 : a1.tmps.getD 39 undef = .pointer (some ⟨B6, 0, none⟩) := hA.val 0 39 (by kernel_rfl) (by kernel_rfl)
          obtain ⟨q1, q2, q3, q4, q5⟩ := HQ.out W2 hA.st
          refine opStep none 0 rfl rfl (fun c hc => by cases hc) ?_
          go_simp
          exact hK _ _ rfl (Below.refl _ _) trivial
        · -- 2: add
          intro li a1 W2 hA K hK
          have e40 : a1.tmps.getD 40 undef = .int .i64 j := hA.val 1 40 (by kernel_rfl) (by kernel_rfl)
          refine opStep none 0 rfl rfl (fun c hc => by cases hc) ?_
          have hw : IntKind.i64.wrap ((j : Int) + 1) = (j : Int) + 1 := by rw [IntKind.wrap_i64]; omega
          go_simp
          exact hK _ _ (by first | rfl | exact congrArg (Value.int .i64) hw) (Below.refl _ _) trivial
        · -- 3: fieldAddr t6 1
          intro li a1 W2 hA K hK
          have e6 := hA.par 6 (by kernel_rfl)
          refine opStep none 0 rfl rfl (fun c hc => by cases hc) ?_
          go_simp
          exact hK _ _ rfl (Below.refl _ _) trivial
        · -- 4: load t42
          intro li a1 W2 hA K hK
          have e42 : a1.tmps.getD 42 undef = .pointer (some ⟨B6, 1, none⟩) := hA.val 3 42 (by kernel_rfl) (by kernel_rfl)
          obtain ⟨q1, q2, q3, q4, q5⟩ := HQ.out W2 hA.st
          refine opStep none 0 rfl rfl (fun c hc => by cases hc) ?_
          go_simp
          exact hK _ _ rfl (Below.refl _ _) trivial
        · -- 5: move t8
          intro li a1 W2 hA K hK
          have e8 := hA.par 8 (by kernel_rfl)
          refine opStep none 0 rfl rfl (fun c hc => by cases hc) ?_
          go_simp
          exact hK _ _ rfl (Below.refl _ _) trivial
        · -- 6: call plus
          intro li a1 W2 hA K hK
          have e43 : a1.tmps.getD 43 undef = .agg #[.int .i64 s.a, .int .i64 s.b, .int .i64 s.c, .int .i64 s.d] := hA.val 4 43 (by kernel_rfl) (by kernel_rfl)
          have e44 : a1.tmps.getD 44 undef = .slice A' x.first.length c' := hA.val 5 44 (by kernel_rfl) (by kernel_rfl)
          refine opStep none 0 rfl rfl (fun c hc => by cases hc) ?_
          go_simp
          refine (HP.out W2 hA.st).mono ?_
          rintro e W3 ⟨rfl, hb3⟩
          exact hK _ _ rfl hb3 trivial
        · -- 7: build
          intro li a1 W2 hA K hK
          have e41 : a1.tmps.getD 41 undef = .int .i64 ((j : Int) + 1) := hA.val 2 41 (by kernel_rfl) (by kernel_rfl)
          have e45 : a1.tmps.getD 45 undef = .agg #[.int .i64 (plusS s x.first).a, .int .i64 (plusS s x.first).b, .int .i64 (plusS s x.first).c, .int .i64 (plusS s x.first).d] := hA.val 6 45 (by kernel_rfl) (by kernel_rfl)
          refine opStep none 0 rfl rfl (fun c hc => by cases hc) ?_
          have e41' := e41
          have e45' := e45
          rw [Array.getD_eq_getD_getElem?] at e41' e45'
          go_simp
          exact hK _ _ rfl (Below.refl _ _) trivial
      · intro li a1 W2 hD
        have e46 : a1.tmps.getD 46 undef = .agg #[.int .i64 ((j : Int) + 1), .int .i64 (plusS s x.first).a, .int .i64 (plusS s x.first).b, .int .i64 (plusS s x.first).c, .int .i64 (plusS s x.first).d] := hD.val 7 46 (by kernel_rfl) (by kernel_rfl)
        have e6 : a1.tmps.getD 6 undef = .pointer (some ⟨B6, 0, none⟩) := hD.par 6 (by kernel_rfl)
        have hbl := H6.out.2.2.2.1.keep hD.st
        obtain ⟨d0, d1, d2, d3, d4⟩ := hbl.c5
        have f0 := hbl.frozen 0
        have f1 := hbl.frozen 1
        have f2 := hbl.frozen 2
        have f3 := hbl.frozen 3
        have f4 := hbl.frozen 4
        have hgl := hbl.lt
        refine tail_store (i := 8) (W' := set5 W2 B6 (.int .i64 ((j : Int) + 1)) (.int .i64 (plusS s x.first).a) (.int .i64 (plusS s x.first).b) (.int .i64 (plusS s x.first).c) (.int .i64 (plusS s x.first).d)) none 0 rfl rfl rfl (fun c hc => by cases hc) (by unfold set5; go_simp) ?_
        have e := hD.act [39, 40, 41, 42, 43, 44, 45, 46] (by kernel_rfl)
        obtain ⟨k1, k2, k3, k4, k5, k6, k7, k8⟩ := H6.out
        have hst := hD.st
        have hg5 := set5_grown W2 B6 (.int .i64 ((j : Int) + 1)) (.int .i64 (plusS s x.first).a) (.int .i64 (plusS s x.first).b) (.int .i64 (plusS s x.first).c) (.int .i64 (plusS s x.first).d)
        have hb5 := set5_blk hbl (.int .i64 ((j : Int) + 1)) (.int .i64 (plusS s x.first).a) (.int .i64 (plusS s x.first).b) (.int .i64 (plusS s x.first).c) (.int .i64 (plusS s x.first).d)
        have hk5 : Keep (fun q => q = B6) W2 _ := Keep.of_grown hg5 rfl
        obtain ⟨z1, z2, z3⟩ := HZ.out
        have hws := k7.size
        have hst2 := hst.size
        have hcast : ((j : Int) + 1) = ((j + 1 : Nat) : Int) := by omega
        have HN := hid (show BestI b A c cs A2 c2 fs (w.heap.size + 1) mb B6 B7 w (j + 1) v' (set5 W2 B6 (.int .i64 ((j : Int) + 1)) (.int .i64 (plusS s x.first).a) (.int .i64 (plusS s x.first).b) (.int .i64 (plusS s x.first).c) (.int .i64 (plusS s x.first).d)) from
          ⟨(k1.below hst).keep hk5 (by omega) (fun q hq => by omega), (k2.below hst).set_ hbl (by decide) hg5, hk5.blk (k3.keep hst) (by omega), by rw [HS.out, ← hcast]; exact hb5, ⟨_, _, hk5.blk (k5.keep hst) (by omega)⟩,
            (k8.below hst).grown hg5 (blk_not hbl (by decide)) (blk_not hbl (by decide)), (k7.trans (hst.mono (by omega))).grown hg5 (by omega) (fun k hk => by cases hk; omega)⟩)
        have hlen' : lenOf v' = j + 1 := by obtain ⟨Av, cv, rfl⟩ := k8.shape; rfl
        clear hD e46 e6 hbl d0 d1 d2 d3 d4 f0 f1 f2 f3 f4 hgl k1 k2 k3 k4 k5 k6 k7 k8 hst hg5 hb5 hk5 hws hst2 hcast H6 HQ HP HM HC HS
        generalize set5 W2 B6 (.int .i64 ((j : Int) + 1)) (.int .i64 (plusS s x.first).a) (.int .i64 (plusS s x.first).b) (.int .i64 (plusS s x.first).c) (.int .i64 (plusS s x.first).d) = W3 at *
        generalize (fun i => a1.tmps.getD i undef) = g at e
        refine wpListIn_nil ?_
        rw [e]
        have HL := hid hlen'
        clear e hlen' hltI
        simp only [mix, List.contains_cons, List.contains_nil, Nat.reduceAdd, Nat.reduceBEq, Bool.or_false, Bool.or_true, cond_true, cond_false]
        go_wp2
        go_roundw
        case rel => exact ⟨j + 1, hlt, HL.out, HN.out⟩
        case measure => rw [HL.out]; simp [lenOf]; omega
    · have hltI : decide ((j : Int) < (cs.length : Int)) = false := by simp; omega
      obtain rfl : j = cs.length := by omega
      obtain ⟨u0, u1, u2⟩ := xt_c3 hr7
      have hr1 := hi.rows
      have hb1 := hi.below
      clear hi hl hltI HI
      go_wp2
      clear s0 s1 s2 s3 s4 t0 t1 t2
      refine wp_region_quiet_xt (by kernel_rfl) (by kernel_rfl) ?_
      repeat (go_big_quiet_step (fail))
      refine wpQuiet_nil ?_
      intro W2 hw2
      replace hw2 := of_xt hw2
      have HR := hid (And.intro (hr1.below hw2) (hb1.trans (hw2.mono hb1.size)))
      clear hr1 hb1 hw2 u0 u1 u2 hr7
      go_wp2
      obtain ⟨hr, hb⟩ := HR.out
      have hbl := bestOf_len (b := b) (cs := cs) (fs := fs) cs.length zeroS
      obtain ⟨vs, ho, hv⟩ := hr
      have hrr : Rows_ (w.heap.size + 1) (.slice A0 cs.length c0) (bestOf b cs fs cs.length zeroS).length (bestOf b cs fs cs.length zeroS) W2 := by rw [hbl]; exact ⟨vs, ho, hv⟩
      obtain ⟨Ao, co, he, q1, q2, q3, q4, q5⟩ := hrr.out
      rw [hbl] at he q2
      injection he with he1 _ he2
      subst he1 he2
      exact bodyPost_ret (v := .tuple #[.slice A0 cs.length c0, .int .i64 (spec b cs fs cs.length zeroS).change, .int .i64 0]) (by simp [results, Tryz.results10, go_sem]) rfl ⟨_, _, rfl, q1, q2, q3, q4, fun a e => by have := q5 a e; omega, hb⟩

theorem best_any (b : Int) (A : Option Addr) (c : Nat) (cs : List (List Int)) (A2 : Option Addr) (c2 : Nat) (fs : List Fx) (w : World) (h : TIn A c cs A2 c2 fs w) :
    Calls Tryz.prog 10 #[.agg #[.int .i64 b, .slice A cs.length c, .slice A2 fs.length c2]] w fun e w' =>
      if chkE b cs fs ≠ 0 then e = .returned (.tuple #[.slice none 0 0, .int .i64 0, .int .i64 (chkE b cs fs)]) ∧ Below w.heap.size w w'
      else if (spec b cs fs cs.length zeroS).ways = 0 then e = .returned (.tuple #[.slice none 0 0, .int .i64 0, .int .i64 9]) ∧ Below w.heap.size w w' else GivesBest b cs fs w e w' := by
  by_cases hc : chkE b cs fs = 0
  · by_cases hw : (spec b cs fs cs.length zeroS).ways = 0
    · refine (best_none b A c cs A2 c2 fs w h hc hw).mono fun e w' h => ?_
      rw [if_neg (by simp [hc]), if_pos hw]; exact h
    · refine (best_some b A c cs A2 c2 fs w h hc hw).mono fun e w' h => ?_
      rw [if_neg (by simp [hc]), if_neg hw]; exact h
  · refine (best_bad b A c cs A2 c2 fs w h hc).mono fun e w' h => ?_
    rw [if_pos hc]; exact h
end Go.Proofs.YtlnamjhgbdacbaaGreat
/- bits.Mul at small numbers. -/
namespace Go.Proofs.YtlnamjhgbdacbaaGreat
open Go.RowKit

end Go.Proofs.YtlnamjhgbdacbaaGreat
/- Repeat: a row of ranges, all alike. -/
namespace Go.Proofs.YtlnamjhgbdacbaaGreat
open Go.RowKit

theorem run_copy_sz {P : Program} (w : World) (dT sT ty elem : TypeId) (g o dLen dCap : Nat) (a : Addr) (sLen sCap sz : Nat) (cur : Array Value) (t : TypeId) (cs : List Value)
    (hu : P.underlying dT = some (.slice elem)) (hs : (P.info? elem).map (·.size) = some sz)
    (hg : w.heap[g]? = some (.cells cur t (0, 0))) (hn : cs.length = Nat.min sLen dLen * sz)
    (hsrc : ∀ j v, cs[j]? = some v → w.cell? (a.add j) = some v) (hfit : o + cs.length ≤ cur.size) (h1 : ∀ v ∈ cs, v.oneCell' = true) (new : Array Value) (hnew : cur.toList.take o ++ cs ++ cur.toList.drop (o + cs.length) = new.toList) :
    (Builtin.copy_ #[dT, sT] ty #[.slice (some ⟨g, o, none⟩) dLen dCap, .slice (some a) sLen sCap]).run P w =
      .ok (goInt (Nat.min sLen dLen)) (w.setRow g new) := by
  have hl := run_loadCells_list (P := P) w a cs hsrc
  have hst := run_storeCells_at P g o t cs 0 cur w hg (by simpa using hfit) h1
  have e : (cur.toList.take o ++ cs ++ cur.toList.drop (o + cs.length)).toArray = new := by rw [hnew]
  cases hq : P.info? elem with
  | none => simp [hq] at hs
  | some i =>
    have hi : i.size = sz := by simpa [hq] using hs
    simp only [Nat.add_zero, e] at hst
    simp [Builtin.copy_, run_underlying hu, Builtin.lenOf, Builtin.firstCells, sizeOf, typeInfo, hq, hi, ← hn, hl, hst]
theorem grown_setRow {w : World} {g : Nat} {cs : Array Value} : w.grownBy (w.setRow g cs) (some g) := ⟨rfl, rfl, rfl, by simp [World.setRow], fun k _ hn => setRow_other w g k cs (fun e => hn (by rw [e]))⟩

theorem wpList_copy_sz {P : Program} {w : World} {ops : Array Oper} {rest : List Oper} {o : Oper} {a : Act} {Q : Exit → Act → World → Prop} (hgd : o.guard = none) (d s : Operand) (dT sT : TypeId)
    (ho : o.op = .call { callee := .builtin .copy, args := #[d, s], argTypes := #[dT, sT] }) (elem sz : Nat) (hu : P.underlying dT = some (.slice elem)) (hsz : (P.info? elem).map (·.size) = some sz)
    (g off dLen dCap : Nat) (ad : Addr) (sLen sCap : Nat) (hd : a.eval d = .slice (some ⟨g, off, none⟩) dLen dCap) (hs : a.eval s = .slice (some ad) sLen sCap)
    (cur : Array Value) (t : TypeId) (hg : w.heap[g]? = some (.cells cur t (0, 0))) (cs : List Value) (hn : cs.length = Nat.min sLen dLen * sz)
    (hsrc : ∀ j v, cs[j]? = some v → w.cell? (ad.add j) = some v) (hfit : off + cs.length ≤ cur.size) (h1 : ∀ v ∈ cs, v.oneCell' = true) (new : Array Value) (hnew : cur.toList.take off ++ cs ++ cur.toList.drop (off + cs.length) = new.toList)
    (h : ∀ w', Hid (w'.heap[g]? = some (.cells new t (0, 0))) → w.grownBy w' (some g) → wpList P ops Q rest (a.put o.dst (goInt (Nat.min sLen dLen))) w') : wpList P ops Q (o :: rest) a w := by
  refine wpList_plain hgd fun K hK => ?_
  have hrun := run_copy_sz (P := P) w dT sT o.type elem g off dLen dCap ad sLen sCap sz cur t cs hu hsz hg hn hsrc hfit h1 new hnew
  unfold Oper.wp
  simp [execOp, ho, resolve, invoke, builtin, hd, hs, hrun, Result.andThen]
  exact hK _ _ (h _ (hid (setRow_heap w g _ _ t _ hg)) grown_setRow)

theorem range_info : (Tryz.prog.info? 48).map (·.size) = some 2 := by kernel_rfl
/-- a row of c ranges, the first k of which are filled -/
def rptL (x y : Int) (c k : Nat) : List Value := (List.replicate k [Value.int .i64 x, .int .i64 y] ++ List.replicate (c - k) [Value.int .i64 0, .int .i64 0]).flatten
theorem range_info3 : (Tryz.prog.info? 48).map (fun i => (i.zero, i.size, i.bytes)) = some (some (.agg #[.int .i64 0, .int .i64 0]), 2, 16) := by kernel_rfl
theorem rpt_made (x y : Int) {c : Nat} (hc : 1 ≤ c ∧ c ≤ 4) : madeCells #[.int .i64 0, .int .i64 0] (c * 2) = (rptL x y c 0).toArray := by
  have : c = 1 ∨ c = 2 ∨ c = 3 ∨ c = 4 := by omega
  rcases this with rfl | rfl | rfl | rfl <;> (rw [madeCells, ← List.toArray_range]; simp [rptL, List.range, List.range.loop, List.replicate])
theorem rpt_len {x y : Int} {c k : Nat} (hk : k ≤ c) : (rptL x y c k).length = c * 2 := by
  simp [rptL, List.length_flatten]; omega
theorem rpt_fill {x y : Int} {c k : Nat} (hc : c ≤ 4) (hk : k < c) : (rptL x y c k).take (k * 2) ++ (List.replicate (Nat.min (if k = 0 then 1 else k) (c - k)) [Value.int .i64 x, .int .i64 y]).flatten ++ (rptL x y c k).drop (k * 2 + (List.replicate (Nat.min (if k = 0 then 1 else k) (c - k)) [Value.int .i64 x, .int .i64 y]).flatten.length) = rptL x y c (k + Nat.min (if k = 0 then 1 else k) (c - k)) := by
  have h1 : c = 1 ∨ c = 2 ∨ c = 3 ∨ c = 4 := by omega
  have h2 : k = 0 ∨ k = 1 ∨ k = 2 ∨ k = 3 := by omega
  rcases h1 with rfl | rfl | rfl | rfl <;> rcases h2 with rfl | rfl | rfl | rfl <;> first | omega | rfl
theorem rpt_cell {x y : Int} {c k : Nat} : ∀ (j : Nat) (v : Value), (List.replicate (Nat.min k (c - k)) [Value.int .i64 x, Value.int .i64 y]).flatten[j]? = some v → (rptL x y c k)[j]? = some v := by
  intro j v h
  unfold rptL
  obtain ⟨d, hd⟩ : ∃ d, k = Nat.min k (c - k) + d := ⟨k - Nat.min k (c - k), by have : Nat.min k (c - k) ≤ k := Nat.min_le_left k (c - k); omega⟩
  have e : List.replicate k [Value.int .i64 x, Value.int .i64 y] = List.replicate (Nat.min k (c - k)) [Value.int .i64 x, Value.int .i64 y] ++ List.replicate d [Value.int .i64 x, Value.int .i64 y] := by
    rw [List.replicate_append_replicate, ← hd]
  rw [e, List.append_assoc, List.flatten_append, List.getElem?_append_left (List.getElem?_eq_some_iff.1 h).1]
  exact h
theorem rpt_one {x y : Int} {n : Nat} : ∀ v ∈ (List.replicate n [Value.int .i64 x, .int .i64 y]).flatten, v.oneCell' = true := by
  intro v hv
  rw [List.mem_flatten] at hv
  obtain ⟨l, hl, hv⟩ := hv
  obtain rfl := (List.mem_replicate.1 hl).2
  simp at hv
  rcases hv with rfl | rfl <;> rfl

theorem add_blk (g j : Nat) : (⟨g, 0, none⟩ : Addr).add j = ⟨g, j, none⟩ := by unfold Addr.add; split <;> simp_all
theorem rpt_first {x y : Int} {c : Nat} (hc : 1 ≤ c ∧ c ≤ 4) : (rptL x y c 0).toArray.toList.take 0 ++ [Value.int .i64 x, .int .i64 y] ++ (rptL x y c 0).toArray.toList.drop (0 + [Value.int .i64 x, .int .i64 y].length) = (rptL x y c 1).toArray.toList := by
  have : c = 1 ∨ c = 2 ∨ c = 3 ∨ c = 4 := by omega
  rcases this with rfl | rfl | rfl | rfl <;> rfl
theorem rpt_next {x y : Int} {c k : Nat} (hc : c ≤ 4) (h1 : 1 ≤ k) (hk : k < c) : (rptL x y c k).toArray.toList.take (k * 2) ++ (List.replicate (Nat.min k (c - k)) [Value.int .i64 x, .int .i64 y]).flatten ++ (rptL x y c k).toArray.toList.drop (k * 2 + (List.replicate (Nat.min k (c - k)) [Value.int .i64 x, .int .i64 y]).flatten.length) = (rptL x y c (k + Nat.min k (c - k))).toArray.toList := by
  have := rpt_fill (x := x) (y := y) hc hk
  rw [if_neg (by omega)] at this
  exact this

theorem grown_same {A B C : World} {m : Option Nat} (h : A.grownBy B m) (k : B.grownBy C m) : A.grownBy C m :=
  ⟨k.os.trans h.os, k.tape.trans h.tape, k.output.trans h.output, Nat.le_trans h.size k.size, fun i hi hn => (k.block i (Nat.lt_of_lt_of_le hi h.size) hn).trans (h.block i hi hn)⟩
def RptPh (x y : Int) (c k g : Nat) (li : Array Bool) (W : World) : Prop := Blk W g 48 (if li.getD 7 false = true then rptL x y c (k + Nat.min k (c - k)) else rptL x y c k).toArray
theorem rpt_ph {x y : Int} {c k g i : Nat} {li : Array Bool} {W : World} (h : RptPh x y c k g li W) (hi : i ≠ 7) : RptPh x y c k g (li.setIfInBounds i true) W := by unfold RptPh; rw [getD_set_oth hi]; exact h
/-- a row of ranges, in memory of its own -/
def GivesRanges (x y : Int) (c : Nat) (w : World) (e : Ending) (w' : World) : Prop := ∃ g, e = .returned (.slice (some ⟨g, 0, none⟩) c c) ∧ w.heap.size ≤ g ∧ Blk w' g 48 (rptL x y c c).toArray ∧ Below w.heap.size w w'

end Go.Proofs.YtlnamjhgbdacbaaGreat
/- smallest: the smallest of some numbers, at least one. -/
namespace Go.Proofs.YtlnamjhgbdacbaaGreat
open Go.RowKit

def minTo (xs : List Int) (k : Nat) : Int := (xs.take k).foldl min (xs.getD 0 0)
def minOf (xs : List Int) : Int := xs.foldl min (xs.getD 0 0)
theorem minTo_succ {xs : List Int} {k : Nat} (h : k < xs.length) : minTo xs (k + 1) = min (minTo xs k) xs[k] := by
  unfold minTo; rw [List.take_succ_eq_append_getElem h, List.foldl_append]; rfl
theorem minTo_one {xs : List Int} (h : 0 < xs.length) : minTo xs 1 = xs[0] := by
  cases xs with
  | nil => simp at h
  | cons x l => simp [minTo]
theorem minTo_all (xs : List Int) : minTo xs xs.length = minOf xs := by unfold minTo minOf; rw [List.take_length]
theorem minOf_two (x y : Int) : minOf [x, y] = min x y := by simp [minOf]

end Go.Proofs.YtlnamjhgbdacbaaGreat
/- Span: what it computes, and what lies in memory. -/
namespace Go.Proofs.YtlnamjhgbdacbaaGreat
open Go.RowKit Go.Shelf

instance : DecidableEq S4 := fun s t =>
  if h : s.a = t.a ∧ s.b = t.b ∧ s.c = t.c ∧ s.d = t.d then isTrue (by
    obtain ⟨a, b, c, d⟩ := s
    obtain ⟨a', b', c', d'⟩ := t
    obtain ⟨h1, h2, h3, h4⟩ := h
    simp only at h1 h2 h3 h4
    subst h1 h2 h3 h4
    rfl) else isFalse (fun e => h (by subst e; exact ⟨rfl, rfl, rfl, rfl⟩))

/-- what a visit goes on: the spots that were met, and the ranges -/
structure VSt where
  seen : List (Nat × S4)
  grid : List (List (Int × Int))
def updC (p : Int × Int) (n : Int) : Int × Int := (min p.1 n, max p.2 n)
def updTo (row : List (Int × Int)) (l : List Int) (j : Nat) : List (Int × Int) := List.zipWith updC (row.take j) (l.take j) ++ row.drop j
def updR (row : List (Int × Int)) (l : List Int) : List (Int × Int) := updTo row l l.length
def updG (g : List (List (Int × Int))) (r : Nat) (l : List Int) : List (List (Int × Int)) := g.set r (updR (g.getD r []) l)
def visit (b : Int) (cs : List (List Int)) (fs : List Fx) : Nat → S4 → VSt → VSt
  | 0, _, st => st
  | k + 1, s, st => if (k + 1, s) ∈ st.seen then st else
      (outsAt b cs fs (k + 1)).foldl (fun st l => if (spec b cs fs k (plusS s l)).ways == 0 then st else visit b cs fs k (plusS s l) ⟨st.seen, updG st.grid (cs.length - (k + 1)) l⟩) ⟨(k + 1, s) :: st.seen, st.grid⟩
def visitTo (b : Int) (cs : List (List Int)) (fs : List Fx) (k : Nat) (s : S4) (st : VSt) (j : Nat) : VSt :=
  ((outsAt b cs fs (k + 1)).take j).foldl (fun st l => if (spec b cs fs k (plusS s l)).ways == 0 then st else visit b cs fs k (plusS s l) ⟨st.seen, updG st.grid (cs.length - (k + 1)) l⟩) ⟨(k + 1, s) :: st.seen, st.grid⟩
theorem visitTo_succ {b : Int} {cs : List (List Int)} {fs : List Fx} {k : Nat} {s : S4} {st : VSt} {j : Nat} {l : List Int} (h : (outsAt b cs fs (k + 1))[j]? = some l) :
    visitTo b cs fs k s st (j + 1) = if (spec b cs fs k (plusS s l)).ways == 0 then visitTo b cs fs k s st j else visit b cs fs k (plusS s l) ⟨(visitTo b cs fs k s st j).seen, updG (visitTo b cs fs k s st j).grid (cs.length - (k + 1)) l⟩ := by
  obtain ⟨hj, rfl⟩ := List.getElem?_eq_some_iff.1 h
  unfold visitTo
  rw [List.take_succ_eq_append_getElem hj, List.foldl_append]; rfl
theorem visitTo_all {b : Int} {cs : List (List Int)} {fs : List Fx} {k : Nat} {s : S4} {st : VSt} (h : ¬ (k + 1, s) ∈ st.seen) : visitTo b cs fs k s st (outsAt b cs fs (k + 1)).length = visit b cs fs (k + 1) s st := by
  unfold visitTo; rw [List.take_length, visit, if_neg h]

theorem updTo_len {row : List (Int × Int)} {l : List Int} {j : Nat} (h : row.length = l.length) : (updTo row l j).length = row.length := by
  simp [updTo, List.length_zipWith]; omega
theorem updTo_zero (row : List (Int × Int)) (l : List Int) : updTo row l 0 = row := by simp [updTo]
theorem updTo_get {row : List (Int × Int)} {l : List Int} {j : Nat} (h : row.length = l.length) (hj : j < l.length) : (updTo row l j)[j]? = row[j]? := by
  unfold updTo
  rw [List.getElem?_append_right (by simp [List.length_zipWith]; omega)]
  simp [List.length_zipWith, List.getElem?_drop]
  congr 1; omega
theorem updTo_succ {row : List (Int × Int)} {l : List Int} {j : Nat} (h : row.length = l.length) (hj : j < l.length) : updTo row l (j + 1) = (updTo row l j).set j (updC (row[j]'(by omega)) l[j]) := by
  have hj' : j < row.length := by omega
  unfold updTo
  have hz : (List.zipWith updC (row.take j) (l.take j)).length = j := by simp [List.length_zipWith]; omega
  rw [List.set_append_right _ _ (by omega), hz, Nat.sub_self, List.take_succ_eq_append_getElem hj', List.take_succ_eq_append_getElem hj, List.zipWith_append (by simp; omega), List.append_assoc]
  congr 1
  have hd : (row.drop j).set 0 (updC row[j] l[j]) = updC row[j] l[j] :: row.drop (j + 1) := by
    rw [List.drop_eq_getElem_cons hj']; rfl
  rw [hd]; simp

/-- a row of ranges, cell by cell -/
def rowCells (row : List (Int × Int)) : List Value := row.flatMap fun p => [.int .i64 p.1, .int .i64 p.2]
theorem rowCells_len : ∀ (row : List (Int × Int)), (rowCells row).length = row.length * 2
  | [] => rfl
  | p :: l => by
    have : rowCells (p :: l) = [Value.int .i64 p.1, .int .i64 p.2] ++ rowCells l := rfl
    rw [this, List.length_append, rowCells_len l]; simp; omega
theorem rowCells_lo : ∀ {row : List (Int × Int)} {c : Nat} {p : Int × Int}, row[c]? = some p → (rowCells row)[c * 2]? = some (.int .i64 p.1) ∧ (rowCells row)[c * 2 + 1]? = some (.int .i64 p.2)
  | [], c, p, h => by simp at h
  | q :: l, 0, p, h => by
    simp at h; subst h
    exact ⟨rfl, rfl⟩
  | q :: l, c + 1, p, h => by
    have : rowCells (q :: l) = Value.int .i64 q.1 :: Value.int .i64 q.2 :: rowCells l := rfl
    have ih := rowCells_lo (row := l) (c := c) (p := p) (by simpa using h)
    rw [this, show (c + 1) * 2 = c * 2 + 1 + 1 by omega]
    exact ih
theorem rowCells_set : ∀ {row : List (Int × Int)} {c : Nat} (x y : Int), ((rowCells row).set (c * 2) (.int .i64 x)).set (c * 2 + 1) (.int .i64 y) = rowCells (row.set c (x, y))
  | [], c, x, y => by simp [rowCells]
  | q :: l, 0, x, y => rfl
  | q :: l, c + 1, x, y => by
    have e : rowCells (q :: l) = Value.int .i64 q.1 :: Value.int .i64 q.2 :: rowCells l := rfl
    have ih := rowCells_set (row := l) (c := c) x y
    rw [e, show (c + 1) * 2 = c * 2 + 1 + 1 by omega]
    simp only [List.set_cons_succ]
    rw [ih]; rfl
theorem rowCells_rpt (x y : Int) (m : Nat) : rowCells (List.replicate m (x, y)) = rptL x y m m := by
  induction m with
  | zero => rfl
  | succ m ih =>
    have e : rptL x y (m + 1) (m + 1) = Value.int .i64 x :: Value.int .i64 y :: rptL x y m m := by simp [rptL, List.replicate_succ]
    rw [e, ← ih]; rfl

/-- a map that holds just the spots that were met -/
def Seen (ms len : Nat) (W : World) (seen : List (Nat × S4)) : Prop :=
  ∃ es clock, W.heap[ms]? = some (.map es clock) ∧ SpotKeys es ∧ (∀ e ∈ es.toList, ∃ k s, (k, s) ∈ seen ∧ 1 ≤ k ∧ k ≤ len ∧ e.key = spotV ((len - k : Nat) : Int) s ∧ e.val = .bool true) ∧ ∀ k s, (k, s) ∈ seen → ∃ e ∈ es.toList, e.key = spotV ((len - k : Nat) : Int) s

theorem spot_push {W : World} {b t e : Nat} {es : Array MapEntry} {clock : Nat} {key : Value} (ht : Tryz.prog.underlying t = some (.map 100 e)) (hb : W.heap[b]? = some (.map es clock)) (hes : SpotKeys es) (hk : ∃ l, keyOf Tryz.prog 100 key = some l) (hno : ∀ x ∈ es.toList, x.key ≠ key) (v : Value) :
    ∃ clock', (Instr.mapUpdate t (.map (some b)) key v).run Tryz.prog W = .ok () (W.putObj b (.map (es.push ⟨key, v, clock⟩) clock')) ∧ SpotKeys (es.push ⟨key, v, clock⟩) := by
  obtain ⟨l, hk⟩ := hk
  rcases spot_law.find W hk es.toList hes with ⟨h1, h2⟩ | ⟨j, e0, h1, h2, h3⟩
  · refine ⟨clock + 1, ?_, ?_⟩
    · simp [Instr.mapUpdate, run_underlying ht, MapKept.run_getObj_map hb, spot_law.check W false hk, h1, MapKept.run_setObj_map _ hb, Result.andThen, World.putObj]
    · intro x hx
      simp only [Array.toList_push, List.mem_append, List.mem_singleton] at hx
      rcases hx with hx | rfl
      · exact hes x hx
      · exact ⟨l, hk⟩
  · exact absurd h3 (hno e0 (List.mem_of_getElem? h2))

/-- what stays the same while a table is visited: where all lies -/
structure VC where
  b : Int
  At : Option Addr
  ct : Nat
  cs : List (List Int)
  Af : Option Addr
  cf : Nat
  fs : List Fx
  n : Nat
  mb : Nat
  ms : Nat
  Bt : Nat
  Bs : Nat
  Bw : Nat
  Bo : Nat
  Bv : Nat
  Ro : Nat
  Rr : Nat → Nat
structure VOk (C : VC) : Prop where
  ok : TOk C.b C.cs C.fs
  hm : C.n ≤ C.mb
  hs : C.n ≤ C.ms
  hr : ∀ r, r < C.cs.length → C.n ≤ C.Rr r
  ne : C.mb ≠ C.ms
  inj : ∀ r r', r < C.cs.length → r' < C.cs.length → C.Rr r = C.Rr r' → r = r'
def rowPtrs (C : VC) : Array Value := ((List.range C.cs.length).map fun r => Value.slice (some ⟨C.Rr r, 0, none⟩) (colsOf C.cs) (colsOf C.cs)).toArray
/-- what a visit may change -/
def ZV (C : VC) (q : Nat) : Prop := q = C.mb ∨ q = C.ms ∨ ∃ r, r < C.cs.length ∧ q = C.Rr r
structure Chg (Z : Nat → Prop) (W W' : World) : Prop where
  os : W'.os = W.os
  tape : W'.tape = W.tape
  output : W'.output = W.output
  size : W.heap.size ≤ W'.heap.size
  block : ∀ k, k < W.heap.size → ¬ Z k → W'.heap[k]? = W.heap[k]?
section
variable {Z Y : Nat → Prop} {A B D : World} {C : VC} {st : VSt} {W W' : World}
theorem Chg.refl : Chg Z A A := ⟨rfl, rfl, rfl, Nat.le_refl _, fun _ _ _ => rfl⟩
theorem Chg.trans (h : Chg Z A B) (k : Chg Z B D) : Chg Z A D := ⟨k.os.trans h.os, k.tape.trans h.tape, k.output.trans h.output, Nat.le_trans h.size k.size, fun i hi hn => (k.block i (Nat.lt_of_lt_of_le hi h.size) hn).trans (h.block i hi hn)⟩
theorem Chg.of_below (h : Below A.heap.size A B) : Chg Z A B := ⟨h.os, h.tape, h.output, h.size, fun k hk _ => h.block k hk⟩
theorem Chg.of_grown {row : Option Nat} (h : A.grownBy B row) (hz : ∀ k, row = some k → Z k) : Chg Z A B := ⟨h.os, h.tape, h.output, h.size, fun k hk hn => h.block k hk (fun e => hn (hz k e.symm))⟩
theorem Chg.keep (h : Chg Z A B) : Keep Z A B := ⟨h.os, h.tape, h.output, h.size, fun i _ _ _ hi hz => (h.block i (Array.getElem?_eq_some_iff.1 hi).1 hz).trans hi⟩
/-- new blocks may be changed as well -/
theorem Chg.new (h : Chg (fun q => Z q ∨ A.heap.size ≤ q) A B) : Chg Z A B := ⟨h.os, h.tape, h.output, h.size, fun k hk hn => h.block k hk (fun e => e.elim hn (fun e => by omega))⟩
theorem Seen.same {ms len : Nat} {seen : List (Nat × S4)} (h : Seen ms len W seen) (hw : W'.heap[ms]? = W.heap[ms]?) : Seen ms len W' seen := by
  obtain ⟨es, ck, h1, h2, h3, h4⟩ := h
  exact ⟨es, ck, hw.trans h1, h2, h3, h4⟩
theorem Seen.lt {ms len : Nat} {seen : List (Nat × S4)} (h : Seen ms len W seen) : ms < W.heap.size := by
  obtain ⟨es, ck, h1, _⟩ := h
  exact (Array.getElem?_eq_some_iff.1 h1).1
theorem blk_ne_map {g m t ck : Nat} {us : Array Value} {es : Array MapEntry} (hg : Blk W g t us) (hm : W.heap[m]? = some (.map es ck)) : g ≠ m := fun e => by
  unfold Blk at hg
  rw [e, hm] at hg
  cases hg
end
end Go.Proofs.YtlnamjhgbdacbaaGreat
/- A visit of a spot: where nothing is to be done. -/
namespace Go.Proofs.YtlnamjhgbdacbaaGreat
open Go.RowKit Go.Shelf

theorem bool_zero (W : World) : (zeroValue 4).run Tryz.prog W = .ok (.bool false) W := by kernel_rfl
end Go.Proofs.YtlnamjhgbdacbaaGreat
/- A visit: words for its loops. -/
namespace Go.Proofs.YtlnamjhgbdacbaaGreat
open Go.RowKit Go.Shelf

theorem Chg.more {Z : Nat → Prop} {A B D : World} {z : Nat} (h : Chg Z A B) (k : B.grownBy D (some z)) (hz : A.heap.size ≤ z) : Chg Z A D :=
  ⟨k.os.trans h.os, k.tape.trans h.tape, k.output.trans h.output, Nat.le_trans h.size k.size, fun i hi hn => (k.block i (Nat.lt_of_lt_of_le hi h.size) (fun e => by cases e; omega)).trans (h.block i hi hn)⟩

/-- all lies below this block -/
def VLt (C : VC) (lo : Nat) : Prop := C.mb + 1 < lo ∧ C.ms < lo ∧ C.Bt < lo ∧ C.Bs < lo ∧ C.Bw < lo ∧ C.Bo < lo ∧ C.Bv < lo ∧ C.Ro < lo ∧ (∀ r, r < C.cs.length → C.Rr r < lo) ∧ C.n ≤ lo
theorem VLt.mono {C : VC} {a b : Nat} (h : VLt C a) (hab : a ≤ b) : VLt C b := by
  obtain ⟨h1, h2, h3, h4, h5, h6, h7, h8, h9, h10⟩ := h
  exact ⟨by omega, by omega, by omega, by omega, by omega, by omega, by omega, by omega, fun r hr => by have := h9 r hr; omega, by omega⟩
theorem VLt.not_zv {C : VC} {lo i : Nat} (h : VLt C lo) (hi : lo ≤ i) : ¬ ZV C i := by
  obtain ⟨h1, h2, h3, h4, h5, h6, h7, h8, h9, h10⟩ := h
  rintro (e | e | ⟨r, hr, e⟩)
  · omega
  · omega
  · have := h9 r hr; omega
theorem set_same {α : Type} {l : List α} {i : Nat} {x : α} (h : l[i]? = some x) : l.set i x = l := by
  apply List.ext_getElem?
  intro j
  rw [List.getElem?_set]
  by_cases hj : i = j
  · subst hj
    rw [if_pos rfl, if_pos (List.getElem?_eq_some_iff.1 h).1, h]
  · rw [if_neg hj]
def RowPh (g : Nat) (cs0 cs1 : Array Value) (li : Array Bool) (W : World) : Prop := Blk W g 48 (if li.getD 17 false = true then cs1 else cs0)
section
variable {g q i : Nat} {cs0 cs1 : Array Value} {li : Array Bool} {W W' : World} {v u : Value}
theorem rowPh_other (h : RowPh g cs0 cs1 li W) (hi : i ≠ 17) : RowPh g cs0 cs1 (li.setIfInBounds i true) W := by unfold RowPh; rw [getD_set_oth hi]; exact h
theorem rowPh_below (h : RowPh g cs0 cs1 li W) (hb : Below W.heap.size W W') : RowPh g cs0 cs1 li W' := Blk.keep h hb
theorem rowPh_hi (h : RowPh g cs0 cs1 li W) (h0 : cs0[q * 2 + 1]? = some u) (h1 : cs1 = cs0.setIfInBounds (q * 2) v) : W.cell? ⟨g, q * 2 + 1, none⟩ = some u := by
  unfold RowPh at h
  rw [h.cell]
  split
  · rw [h1, Array.getElem?_setIfInBounds_ne (by omega)]; exact h0
  · exact h0
theorem rowPh_set (h : Blk W g 48 cs0) (h1 : cs1 = cs0.setIfInBounds (q * 2) v) (hl : 17 < li.size) : RowPh g cs0 cs1 (li.setIfInBounds 17 true) (W.setCell ⟨g, q * 2, none⟩ v) := by
  unfold RowPh
  rw [getD_set_eq hl, if_pos rfl, h1]
  exact h.set_ _ _
theorem ints_of_two {x y : Int} (h : Blk W g 3 #[.int .i64 x, .int .i64 y]) : IsInts W W.heap.size (some ⟨g, 0, none⟩) [x, y] := by
  intro k z hk
  refine ⟨_, rfl, h.lt, ?_⟩
  rw [add_blk, h.cell]
  match k, hk with
  | 0, hk => simp at hk; simp [hk]
  | 1, hk => simp at hk; simp [hk]
  | k + 2, hk => simp at hk
end
theorem Chg.sub {Z Z' : Nat → Prop} {A B : World} (h : Chg Z A B) (hz : ∀ q, Z q → Z' q) : Chg Z' A B := ⟨h.os, h.tape, h.output, h.size, fun k hk hn => h.block k hk (fun e => hn (hz k e))⟩

theorem Memo.chg {b : Int} {cs : List (List Int)} {fs : List Fx} {mb g t : Nat} {us : Array Value} {Y : Nat → Prop} {W W' : World} (h : Memo b cs fs mb Y W) (hg : Blk W g t us) (ht : t ≠ 3) (hc : Chg (fun u => u = g) W W') : Memo b cs fs mb Y W' := by
  obtain ⟨es, clock, h1, h2, h3⟩ := h
  refine ⟨es, clock, (hc.block mb (Array.getElem?_eq_some_iff.1 h1).1 (fun e => blk_ne_map hg h1 e.symm)).trans h1, h2, fun e' he' => ?_⟩
  obtain ⟨k, s, A, c, g1, g2, g3, g4, g5⟩ := h3 e' he'
  exact ⟨k, s, A, c, g1, g2, g3, g4, g5.set_ hg ht hc.keep⟩
end Go.Proofs.YtlnamjhgbdacbaaGreat
/- A visit of a spot that was not met before. -/
namespace Go.Proofs.YtlnamjhgbdacbaaGreat
open Go.RowKit Go.Shelf
end Go.Proofs.YtlnamjhgbdacbaaGreat
/- Span, walked: where there is none. -/
namespace Go.Proofs.YtlnamjhgbdacbaaGreat
open Go.RowKit Go.Shelf

/-- the rows of ranges, j of which are made -/
def ptrsTo (f : Nat → Nat) (m len j : Nat) : Array Value := ((List.range len).map fun r => if r < j then Value.slice (some ⟨f r, 0, none⟩) m m else Value.slice none 0 0).toArray
theorem ptrsTo_zero (f : Nat → Nat) (m len : Nat) : ptrsTo f m len 0 = madeCells #[.slice none 0 0] len := by
  unfold ptrsTo madeCells
  apply Array.ext_getElem?
  intro i
  by_cases hi : i < len
  · simp [hi, Nat.mod_one]
  · simp [hi]
theorem ptrsTo_succ {f : Nat → Nat} {m len j g : Nat} (hj : j < len) : (ptrsTo f m len j).setIfInBounds j (.slice (some ⟨g, 0, none⟩) m m) = ptrsTo (fun r => if r = j then g else f r) m len (j + 1) := by
  apply Array.ext_getElem?
  intro i
  rw [Array.getElem?_setIfInBounds]
  unfold ptrsTo
  by_cases h : j = i
  · subst h
    simp [hj]
  · rw [if_neg h]
    simp only [List.getElem?_toArray, List.getElem?_map]
    by_cases hi : i < len
    · simp [hi, Ne.symm h]
      by_cases h2 : i < j
      · simp [h2, show i < j + 1 by omega]
      · simp [h2, show ¬ i < j + 1 by omega]
    · simp [hi]
theorem ptrsTo_all (C : VC) : ptrsTo C.Rr (colsOf C.cs) C.cs.length C.cs.length = rowPtrs C := by
  unfold ptrsTo rowPtrs
  congr 1
  apply List.map_congr_left
  intro r hr
  rw [if_pos (List.mem_range.1 hr)]
end Go.Proofs.YtlnamjhgbdacbaaGreat
/- Span, walked: the ranges of all cells. -/
namespace Go.Proofs.YtlnamjhgbdacbaaGreat
open Go.RowKit Go.Shelf

def gridZ (cs : List (List Int)) : List (List (Int × Int)) := List.replicate cs.length (List.replicate (colsOf cs) (10100, 0))
/-- the ranges of all cells -/
def spanOf (b : Int) (cs : List (List Int)) (fs : List Fx) : List (List (Int × Int)) := (visit b cs fs cs.length zeroS ⟨[], gridZ cs⟩).grid
end Go.Proofs.YtlnamjhgbdacbaaGreat
/- The order of Divide's parts: the two functions by which it is sorted. -/
namespace Go.Proofs.YtlnamjhgbdacbaaGreat
open Go.RowKit

/-- what is left of a part -/
def restOf (whole sum : Int) (ws : List Int) (i : Nat) : Int := (whole * ws.getD i 0) % sum
/-- what the two functions have captured -/
structure DMem (Bw Bl Bs : Nat) (whole sum : Int) (A : Option Addr) (c : Nat) (ws : List Int) (n : Nat) (W : World) : Prop where
  bw : Blk W Bw 3 #[.int .i64 whole]
  bl : Blk W Bl 22 #[.slice A ws.length c]
  bs : Blk W Bs 3 #[.int .i64 sum]
  iw : IsInts W n A ws
  hn : n ≤ W.heap.size
structure DOk (whole sum : Int) (ws : List Int) : Prop where
  w0 : 0 ≤ whole
  w1 : whole ≤ 100000
  s0 : 1 ≤ sum
  s1 : sum ≤ 1000000
  x : ∀ x ∈ ws, 0 ≤ x ∧ x ≤ 10000
  l : ws.length ≤ 12
section
variable {Bw Bl Bs : Nat} {whole sum : Int} {A : Option Addr} {c : Nat} {ws : List Int} {n : Nat} {W W' : World}
theorem DMem.below (h : DMem Bw Bl Bs whole sum A c ws n W) (hb : Below W.heap.size W W') : DMem Bw Bl Bs whole sum A c ws n W' := ⟨h.bw.keep hb, h.bl.keep hb, h.bs.keep hb, h.iw.below (hb.mono h.hn), Nat.le_trans h.hn hb.size⟩
theorem DMem.keep {Z : Nat → Prop} (h : DMem Bw Bl Bs whole sum A c ws n W) (hk : Keep Z W W') (h1 : ¬ Z Bw) (h2 : ¬ Z Bl) (h3 : ¬ Z Bs) (hz : ∀ k, Z k → n ≤ k) : DMem Bw Bl Bs whole sum A c ws n W' := ⟨hk.blk h.bw h1, hk.blk h.bl h2, hk.blk h.bs h3, hk.ints' h.iw hz, Nat.le_trans h.hn hk.size⟩
theorem mul_bound {a b M N : Int} (h1 : 0 ≤ a) (h2 : a ≤ M) (h3 : 0 ≤ b) (h4 : b ≤ N) : 0 ≤ a * b ∧ a * b ≤ M * N :=
  ⟨Int.mul_nonneg h1 h3, Int.mul_le_mul h2 h4 h3 (by omega)⟩
theorem restOf_bound (ok : DOk whole sum ws) (i : Nat) : 0 ≤ restOf whole sum ws i ∧ restOf whole sum ws i < sum := by
  have := ok.s0
  exact ⟨Int.emod_nonneg _ (by omega), Int.emod_lt_of_pos _ (by omega)⟩

set_option maxRecDepth 100000 in
set_option maxHeartbeats 1000000 in
theorem rest_any (ok : DOk whole sum ws) (i : Nat) (hi : i < ws.length) (h : DMem Bw Bl Bs whole sum A c ws n W) :
    Calls Tryz.prog 84 #[.int .i64 i, .pointer (some ⟨Bw, 0, none⟩), .pointer (some ⟨Bl, 0, none⟩), .pointer (some ⟨Bs, 0, none⟩)] W fun e W' => e = .returned (.int .i64 (restOf whole sum ws i)) ∧ Below W.heap.size W W' := by
  have q1 := xt_c1 h.bw
  have q2 := xt_c1 h.bl
  have q3 := xt_c1 h.bs
  obtain ⟨a, rfl, hab, hac⟩ := h.iw i ws[i] (List.getElem?_eq_getElem hi)
  have q4 := xt_cell hac
  have hx := ok.x ws[i] (List.getElem_mem hi)
  have HE := hid (show restOf whole sum ws i = (whole * ws[i]) % sum by unfold restOf; rw [show ws.getD i 0 = ws[i] by simp [List.getD, List.getElem?_eq_getElem hi]])
  have hm := mul_bound ok.w0 ok.w1 hx.1 hx.2
  have hiI : (i : Int) < (ws.length : Int) := by omega
  have hs0 := ok.s0
  have hs1 := ok.s1
  obtain ⟨hm1, hm2⟩ := hm
  generalize ws[i] = x at *
  clear h hac hab
  obtain ⟨y, hy⟩ : ∃ y, y = whole * x := ⟨_, rfl⟩
  have hw : IntKind.i64.wrap (whole * x) = y := by rw [IntKind.wrap_i64, ← hy]; omega
  rw [← hy] at hm1 hm2 HE
  have HY := hid hy
  clear hy
  have hne : (sum == 0) = false := by simp; omega
  have hmod : (y % sum) = y % sum := rfl
  clear hmod
  go_enter Tryz.func84, Tryz.ntmps84
  go_wp2
  refine wp_region_quiet_xt (by kernel_rfl) (by kernel_rfl) ?_
  repeat (go_big_quiet_step (fail))
  refine wpQuiet_nil ?_
  intro W2 hw2
  replace hw2 := of_xt hw2
  have HW := hid hw2
  clear hw2 q1 q2 q3 q4
  go_wp2
  go_ret
  exact ⟨ret_int HE.out.symm, HW.out⟩

set_option maxRecDepth 100000 in
set_option maxHeartbeats 1000000 in
theorem cmp_any {Bc : Nat} (ok : DOk whole sum ws) (i k : Nat) (hi : i < ws.length) (hk : k < ws.length) (h : DMem Bw Bl Bs whole sum A c ws n W) (hc : Blk W Bc 168 #[.func (.func 84) #[] #[.pointer (some ⟨Bw, 0, none⟩), .pointer (some ⟨Bl, 0, none⟩), .pointer (some ⟨Bs, 0, none⟩)]]) :
    Calls Tryz.prog 86 #[.int .i64 i, .int .i64 k, .pointer (some ⟨Bc, 0, none⟩)] W fun e W' => e = .returned (.int .i64 (restOf whole sum ws k - restOf whole sum ws i)) ∧ Below W.heap.size W W' := by
  have q1 := xt_c1 hc
  have hb1 := restOf_bound ok i
  have hb2 := restOf_bound ok k
  have hs1 := ok.s1
  have HX := hid (fun q j (hj : j < ws.length) => rest_any (W := xt W q) ok j hj (h.below (below_xt W q)))
  obtain ⟨hb1, hb3⟩ := hb1
  obtain ⟨hb2, hb4⟩ := hb2
  clear h hc ok
  go_enter Tryz.func86, Tryz.ntmps86
  go_wp2
  refine wp_region_quiet_xt (by kernel_rfl) (by kernel_rfl) ?_
  repeat (go_big_quiet_step ((go_at_call 84; exact Calls.xt (HX.out _ _ (by assumption)))))
  refine wpQuiet_nil ?_
  intro W2 hw2
  replace hw2 := of_xt hw2
  have HW := hid hw2
  clear hw2 q1
  go_wp2
  go_ret
  exact ⟨rfl, HW.out⟩
end
end Go.Proofs.YtlnamjhgbdacbaaGreat
