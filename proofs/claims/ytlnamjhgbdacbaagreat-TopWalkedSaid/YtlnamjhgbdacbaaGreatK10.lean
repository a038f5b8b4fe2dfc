/- The walks and the plain laws of this part of the program, part 10: what each computes. Conditions stand at each theorem. -/
import Derived.Deep.Cut
import Derived.Test.YtlnamjhgbdacbaaGreatK2
import Derived.Test.YtlnamjhgbdacbaaGreatK8
import Derived.Test.YtlnamjhgbdacbaaGreatK9
/- from: what it computes, and what is known in memory. -/
namespace Go.Proofs.YtlnamjhgbdacbaaGreat
open Go.RowKit Go.Shelf

structure Rst where
  ways : Int
  change : Int
  first : List Int
def stepR (cells : List Int) (nx acc : Rst) (l : List Int) : Rst :=
  if nx.ways == 0 then acc else
    if acc.ways == 0 || decide (nx.change + rowCost l cells < acc.change) then ⟨acc.ways + nx.ways, nx.change + rowCost l cells, l⟩ else ⟨acc.ways + nx.ways, acc.change, acc.first⟩
def rowAt (cs : List (List Int)) (left : Nat) : List Int := cs.getD (cs.length - left) []
def outsAt (b : Int) (cs : List (List Int)) (fs : List Fx) (left : Nat) : List (List Int) := outs b (rowAt cs left) fs ((cs.length - left : Nat) : Int) [] (rowAt cs left)
def spec (b : Int) (cs : List (List Int)) (fs : List Fx) : Nat → S4 → Rst
  | 0, s => if closesB b cs s then ⟨1, 0, []⟩ else ⟨0, 0, []⟩
  | k + 1, s => (outsAt b cs fs (k + 1)).foldl (fun acc l => stepR (rowAt cs (k + 1)) (spec b cs fs k (plusS s l)) acc l) ⟨0, 0, []⟩
/-- what the loop has got when j lists are done -/
def specTo (b : Int) (cs : List (List Int)) (fs : List Fx) (k : Nat) (s : S4) (j : Nat) : Rst :=
  ((outsAt b cs fs (k + 1)).take j).foldl (fun acc l => stepR (rowAt cs (k + 1)) (spec b cs fs k (plusS s l)) acc l) ⟨0, 0, []⟩
theorem specTo_zero (b : Int) (cs : List (List Int)) (fs : List Fx) (k : Nat) (s : S4) : specTo b cs fs k s 0 = ⟨0, 0, []⟩ := rfl
theorem specTo_succ {b : Int} {cs : List (List Int)} {fs : List Fx} {k : Nat} {s : S4} {j : Nat} {l : List Int} (h : (outsAt b cs fs (k + 1))[j]? = some l) :
    specTo b cs fs k s (j + 1) = stepR (rowAt cs (k + 1)) (spec b cs fs k (plusS s l)) (specTo b cs fs k s j) l := by
  obtain ⟨hj, rfl⟩ := List.getElem?_eq_some_iff.1 h
  unfold specTo
  rw [List.take_succ_eq_append_getElem hj, List.foldl_append]; rfl
theorem specTo_all (b : Int) (cs : List (List Int)) (fs : List Fx) (k : Nat) (s : S4) : specTo b cs fs k s (outsAt b cs fs (k + 1)).length = spec b cs fs (k + 1) s := by
  unfold specTo; rw [List.take_length]; rfl

/-- what is asked of a table and its fixes -/
structure TOk (b : Int) (cs : List (List Int)) (fs : List Fx) : Prop where
  okc : Okc b cs
  n : fs.length ≤ 100
  col : ∀ f ∈ fs, 0 ≤ f.col ∧ f.col < colsOf cs
theorem TOk.row {b : Int} {cs : List (List Int)} {fs : List Fx} (h : TOk b cs fs) {r : Nat} {xs : List Int} (hx : cs[r]? = some xs) : RowOk xs b fs := by
  have hm : xs ∈ cs := List.mem_of_getElem? hx
  have hl := h.okc.row xs hm
  exact ⟨h.okc.b1, h.okc.b2, by rw [hl]; exact h.okc.c1, by rw [hl]; exact h.okc.c2, h.okc.cell xs hm, h.n, fun f hf => by rw [hl]; exact h.col f hf⟩
theorem rowAt_get {cs : List (List Int)} {k : Nat} (hk : k + 1 ≤ cs.length) : cs[cs.length - (k + 1)]? = some (rowAt cs (k + 1)) := by
  unfold rowAt
  rw [List.getD, List.getElem?_eq_getElem (by omega)]; rfl

theorem cands_len {b : Int} : ∀ {xs : List Int}, ∀ l ∈ cands b xs, l.length = xs.length
  | [], l, h => by simp [cands] at h; simp [h]
  | n :: ns, l, h => by
    simp only [cands, List.mem_append, List.mem_map] at h
    rcases h with ⟨l', h', rfl⟩ | h
    · simp [cands_len l' h']
    · split at h
      · cases h
      · obtain ⟨l', h', rfl⟩ := List.mem_map.1 h
        simp [cands_len l' h']
theorem cands_bound {b : Int} (hb : 2 ≤ b) (hb2 : b ≤ 100) : ∀ {xs : List Int}, (∀ x ∈ xs, 0 ≤ x ∧ x ≤ 10000) → ∀ l ∈ cands b xs, ∀ x ∈ l, 0 ≤ x ∧ x ≤ 10100
  | [], _, l, h => by simp [cands] at h; simp [h]
  | n :: ns, hx, l, h => by
    have hn := hx n (by simp)
    have h1 := lowOf_bound hb hn.1
    have h2 := highOf_bound hb hn.1
    have ih : ∀ l' ∈ cands b ns, ∀ x ∈ l', 0 ≤ x ∧ x ≤ 10100 := cands_bound hb hb2 (fun x hx' => hx x (List.mem_cons_of_mem _ hx'))
    simp only [cands, List.mem_append, List.mem_map] at h
    rcases h with ⟨l', h', rfl⟩ | h
    · intro x hx
      rcases List.mem_cons.1 hx with rfl | hx
      · omega
      · exact ih l' h' x hx
    · split at h
      · cases h
      · obtain ⟨l', h', rfl⟩ := List.mem_map.1 h
        intro x hx
        rcases List.mem_cons.1 hx with rfl | hx
        · omega
        · exact ih l' h' x hx
theorem cands_count {b : Int} : ∀ (xs : List Int), (cands b xs).length ≤ 2 ^ xs.length
  | [] => by simp [cands]
  | n :: ns => by
    have ih := cands_count (b := b) ns
    simp only [cands, List.length_append, List.length_map, List.length_cons, Nat.pow_succ]
    split
    · simp; omega
    · simp; omega
theorem outs_mem {b : Int} {cells : List Int} {fs : List Fx} {row : Int} {l : List Int} (h : l ∈ outs b cells fs row [] cells) : l ∈ cands b cells ∧ testB b cells fs row l = true := by
  unfold outs at h
  rw [List.mem_filter] at h
  exact ⟨by simpa using h.1, h.2⟩
theorem outs_count {b : Int} {cells : List Int} {fs : List Fx} {row : Int} (h : cells.length ≤ 4) : (outs b cells fs row [] cells).length ≤ 16 := by
  unfold outs
  refine Nat.le_trans (List.length_filter_le _ _) ?_
  rw [List.length_map]
  exact Nat.le_trans (cands_count cells) (Nat.le_trans (Nat.pow_le_pow_right (by decide) h) (by decide))

/-- its numbers are small -/
structure Bnd (k : Nat) (x : Rst) : Prop where
  w1 : 0 ≤ x.ways
  w2 : x.ways ≤ 16 ^ k
  c1 : 0 ≤ x.change
  c2 : x.change ≤ 50000 * k
  len : x.first.length ≤ 4
  cell : ∀ v ∈ x.first, 0 ≤ v ∧ v ≤ 10100
section
variable {b : Int} {cs : List (List Int)} {fs : List Fx}
theorem outsAt_mem (ok : TOk b cs fs) {k : Nat} (hk : k + 1 ≤ cs.length) {l : List Int} (h : l ∈ outsAt b cs fs (k + 1)) : l.length = (rowAt cs (k + 1)).length ∧ l.length ≤ 4 ∧ (∀ x ∈ l, 0 ≤ x ∧ x ≤ 10100) := by
  have hr := ok.row (rowAt_get hk)
  have hm := (outs_mem h).1
  have hl := cands_len l hm
  exact ⟨hl, by rw [hl]; exact hr.l2, cands_bound hr.b1 hr.b2 hr.cell l hm⟩
theorem rowCost_bound (ok : TOk b cs fs) {k : Nat} (hk : k + 1 ≤ cs.length) {l : List Int} (h : l ∈ outsAt b cs fs (k + 1)) : 0 ≤ rowCost l (rowAt cs (k + 1)) ∧ rowCost l (rowAt cs (k + 1)) ≤ 50000 := by
  have hr := ok.row (rowAt_get hk)
  obtain ⟨h1, h2, h3⟩ := outsAt_mem ok hk h
  have := costTo_bounds (M := 10100) (by omega) h3 (fun x hx => by have := hr.cell x hx; omega) l.length
  unfold rowCost
  omega
theorem outsAt_count (ok : TOk b cs fs) {k : Nat} (hk : k + 1 ≤ cs.length) : (outsAt b cs fs (k + 1)).length ≤ 16 := outs_count (ok.row (rowAt_get hk)).l2
theorem Bnd.step {k j : Nat} {nx acc : Rst} {l cells : List Int} (h : Bnd k nx) (ha : 0 ≤ acc.ways ∧ acc.ways ≤ j * 16 ^ k) (hb : 0 ≤ acc.change ∧ acc.change ≤ 50000 * (k + 1 : Nat)) (hc : 0 ≤ rowCost l cells ∧ rowCost l cells ≤ 50000) :
    (0 ≤ (stepR cells nx acc l).ways ∧ (stepR cells nx acc l).ways ≤ (j + 1 : Nat) * 16 ^ k) ∧ (0 ≤ (stepR cells nx acc l).change ∧ (stepR cells nx acc l).change ≤ 50000 * (k + 1 : Nat)) := by
  have e : ((j + 1 : Nat) : Int) * 16 ^ k = j * 16 ^ k + 16 ^ k := by rw [Int.natCast_add, Int.add_mul]; simp
  have h0 : (0 : Int) ≤ 16 ^ k := Int.pow_nonneg (by decide)
  have h1 := h.w1; have h2 := h.w2; have h3 := h.c1; have h4 := h.c2
  rw [e]
  unfold stepR
  split
  · exact ⟨⟨ha.1, by omega⟩, hb⟩
  · split
    · exact ⟨⟨by show 0 ≤ acc.ways + nx.ways; omega, by show acc.ways + nx.ways ≤ _; omega⟩, ⟨by show 0 ≤ nx.change + rowCost l cells; omega, by show nx.change + rowCost l cells ≤ _; omega⟩⟩
    · exact ⟨⟨by show 0 ≤ acc.ways + nx.ways; omega, by show acc.ways + nx.ways ≤ _; omega⟩, hb⟩
theorem stepR_first {nx acc : Rst} {l cells : List Int} : (stepR cells nx acc l).first = acc.first ∨ (stepR cells nx acc l).first = l := by
  unfold stepR
  split
  · exact .inl rfl
  · split
    · exact .inr rfl
    · exact .inl rfl
/-- the numbers of the loop are small -/
structure BndJ (k j : Nat) (x : Rst) : Prop where
  w : 0 ≤ x.ways ∧ x.ways ≤ j * 16 ^ k
  c : 0 ≤ x.change ∧ x.change ≤ 50000 * (k + 1 : Nat)
  len : x.first.length ≤ 4
  cell : ∀ v ∈ x.first, 0 ≤ v ∧ v ≤ 10100
theorem BndJ.step {k j : Nat} {nx acc : Rst} {l cells : List Int} (h : BndJ k j acc) (hn : Bnd k nx) (hc : 0 ≤ rowCost l cells ∧ rowCost l cells ≤ 50000) (h2 : l.length ≤ 4) (h3 : ∀ x ∈ l, 0 ≤ x ∧ x ≤ 10100) : BndJ k (j + 1) (stepR cells nx acc l) := by
  have hst := hn.step h.w h.c hc
  refine ⟨hst.1, hst.2, ?_, ?_⟩
  · rcases stepR_first (cells := cells) (nx := nx) (acc := acc) (l := l) with h' | h' <;> rw [h']
    · exact h.len
    · exact h2
  · rcases stepR_first (cells := cells) (nx := nx) (acc := acc) (l := l) with h' | h' <;> rw [h']
    · exact h.cell
    · exact h3
theorem bnd_spec (ok : TOk b cs fs) : ∀ (k : Nat), k ≤ cs.length → ∀ s, Bnd k (spec b cs fs k s) ∧ (k + 1 ≤ cs.length → ∀ j, j ≤ (outsAt b cs fs (k + 1)).length → BndJ k j (specTo b cs fs k s j)) := by
  intro k
  induction k with
  | zero =>
    intro hk s
    have hB : ∀ s, Bnd 0 (spec b cs fs 0 s) := fun s => by
      unfold spec
      split <;> exact ⟨by decide, by decide, by decide, by decide, by decide, fun v hv => by cases hv⟩
    refine ⟨hB s, fun hk1 j => ?_⟩
    induction j with
    | zero => intro _; rw [specTo_zero]; exact ⟨⟨by simp, by simp⟩, ⟨by simp, by simp⟩, by simp, fun v hv => by cases hv⟩
    | succ j ihj =>
      intro hj
      have ih := ihj (by omega)
      have hl := List.getElem?_eq_getElem (l := outsAt b cs fs (0 + 1)) (i := j) (by omega)
      have hm := List.getElem_mem (l := outsAt b cs fs (0 + 1)) (n := j) (by omega)
      rw [specTo_succ hl]
      obtain ⟨h1, h2, h3⟩ := outsAt_mem ok hk1 hm
      exact ih.step (hB _) (rowCost_bound ok hk1 hm) h2 h3
  | succ k ihk =>
    intro hk s
    have hB : ∀ s, Bnd (k + 1) (spec b cs fs (k + 1) s) := fun s => by
      have := (ihk (by omega) s).2 hk _ (Nat.le_refl _)
      rw [specTo_all] at this
      have hc := outsAt_count ok hk
      have h0 : (0 : Int) ≤ 16 ^ k := Int.pow_nonneg (by decide)
      have hci : ((outsAt b cs fs (k + 1)).length : Int) ≤ 16 := by omega
      have hm := Int.mul_le_mul_of_nonneg_right hci h0
      refine ⟨this.w.1, ?_, this.c.1, this.c.2, this.len, this.cell⟩
      rw [Int.pow_succ, Int.mul_comm]
      exact Int.le_trans this.w.2 hm
    refine ⟨hB s, fun hk1 j => ?_⟩
    induction j with
    | zero => intro _; rw [specTo_zero]; exact ⟨⟨by simp, by simp⟩, ⟨by simp, by simp; omega⟩, by simp, fun v hv => by cases hv⟩
    | succ j ihj =>
      intro hj
      have ih := ihj (by omega)
      have hl := List.getElem?_eq_getElem (l := outsAt b cs fs (k + 1 + 1)) (i := j) (by omega)
      have hm := List.getElem_mem (l := outsAt b cs fs (k + 1 + 1)) (n := j) (by omega)
      rw [specTo_succ hl]
      obtain ⟨h1, h2, h3⟩ := outsAt_mem ok hk1 hm
      exact ih.step (hB _) (rowCost_bound ok hk1 hm) h2 h3
theorem plusS_small' {M : Int} {s : S4} {l : List Int} (hs : Small M s) (hl : ∀ x ∈ l, 0 ≤ x ∧ x ≤ 10100) : Small (M + 10100) (plusS s l) := by
  obtain ⟨h1, h2, h3, h4⟩ := hs
  have g := fun i => getD_small (by decide) hl i
  have g0 := g 0; have g1 := g 1; have g2 := g 2; have g3 := g 3
  refine ⟨⟨?_, ?_⟩, ⟨?_, ?_⟩, ⟨?_, ?_⟩, ⟨?_, ?_⟩⟩ <;> simp only [plusS] <;> omega
end

def restV (x : Rst) (A : Option Addr) (c : Nat) : Value := .agg #[.int .i64 x.ways, .int .i64 x.change, .slice A x.first.length c]
/-- the list of a result lies in memory, outside Y -/
structure Good (Y : Nat → Prop) (W : World) (x : Rst) (A : Option Addr) (c : Nat) : Prop where
  ints : IsInts W W.heap.size A x.first
  av : ∀ a, A = some a → (∃ cs, Blk W a.block 3 cs) ∧ ¬ Y a.block
  le : x.first.length ≤ c
  mx : c ≤ maxLen
  nil : A = none → c = 0
/-- the map holds what is true -/
def Memo (b : Int) (cs : List (List Int)) (fs : List Fx) (mb : Nat) (Y : Nat → Prop) (W : World) : Prop :=
  ∃ es clock, W.heap[mb]? = some (.map es clock) ∧ SpotKeys es ∧ ∀ e ∈ es.toList, ∃ k s A c, 1 ≤ k ∧ k ≤ cs.length ∧ e.key = spotV ((cs.length - k : Nat) : Int) s ∧ e.val = restV (spec b cs fs k s) A c ∧ Good Y W (spec b cs fs k s) A c

/-- what from reads, but for the map -/
structure FEnv (P n mb : Nat) (b : Int) (At : Option Addr) (ct : Nat) (cs : List (List Int)) (Af : Option Addr) (cf : Nat) (fs : List Fx) (W : World) : Prop where
  bp : Blk W P 143 #[.int .i64 b, .slice At cs.length ct, .slice Af fs.length cf, .map (some mb)]
  ic : IsRows W n At cs
  ix : IsFixes W n Af fs
  hn : n ≤ W.heap.size

section
variable {Y Z : Nat → Prop} {W W' : World} {x : Rst} {A : Option Addr} {c : Nat} {b : Int} {cs : List (List Int)} {fs : List Fx} {mb P n z : Nat} {At : Option Addr} {ct : Nat} {Af : Option Addr} {cf : Nat}
theorem Good.lt (h : Good Y W x A c) {a : Addr} (e : A = some a) : a.block < W.heap.size := by
  obtain ⟨⟨cs, hb⟩, _⟩ := h.av a e
  exact hb.lt
theorem Good.keep (h : Good Y W x A c) (hk : Keep Z W W') (hz : ∀ a, A = some a → ¬ Z a.block) : Good Y W' x A c := ⟨(hk.ints h.ints hz).more hk.size, fun a e => ⟨ex_of (h.av a e).1 fun _ hb => hk.blk hb (hz a e), (h.av a e).2⟩, h.le, h.mx, h.nil⟩
theorem Good.grown (h : Good Y W x A c) (hg : W.grownBy W' (some z)) (hz : Y z ∨ ∃ o, W.heap[z]? = some o ∧ o.isCells = false) : Good Y W' x A c := by
  rcases hz with hz | hz
  · exact h.keep (Z := fun k => k = z) (Keep.of_grown hg rfl) (fun a e he => (h.av a e).2 (by rw [he]; exact hz))
  · exact h.keep (Z := fun _ => False) (Keep.of_other hg hz) (fun _ _ h => h)
theorem Good.below (h : Good Y W x A c) (hb : Below W.heap.size W W') : Good Y W' x A c := h.keep (Keep.of_below (fun _ => False) hb) (fun _ _ h => h)
theorem Good.sub (h : Good Y W x A c) (hz : ∀ a, A = some a → ¬ Z a.block) : Good Z W x A c := ⟨h.ints, fun a e => ⟨(h.av a e).1, hz a e⟩, h.le, h.mx, h.nil⟩
/-- a block that holds no plain numbers is written -/
theorem Good.set_ (h : Good Y W x A c) {g : Nat} {t : TypeId} {us : Array Value} (hg : Blk W g t us) (ht : t ≠ 3) (hk : Keep (fun k => k = g) W W') : Good Y W' x A c :=
  h.keep hk (fun a e he => by
    obtain ⟨⟨cs, hb⟩, _⟩ := h.av a e
    rw [he] at hb
    exact Blk.ne_ hg hb ht rfl)
theorem Memo.grown (h : Memo b cs fs mb Y W) (hg : W.grownBy W' (some z)) (hm : z ≠ mb) (hz : Y z ∨ ∃ o, W.heap[z]? = some o ∧ o.isCells = false) : Memo b cs fs mb Y W' := by
  obtain ⟨es, clock, h1, h2, h3⟩ := h
  refine ⟨es, clock, (hg.block mb (Array.getElem?_eq_some_iff.1 h1).1 (fun e => hm (by cases e; rfl))).trans h1, h2, fun e he => ?_⟩
  obtain ⟨k, s, A, c, g1, g2, g3, g4, g5⟩ := h3 e he
  exact ⟨k, s, A, c, g1, g2, g3, g4, g5.grown hg hz⟩
theorem Memo.below (h : Memo b cs fs mb Y W) (hb : Below W.heap.size W W') : Memo b cs fs mb Y W' := by
  obtain ⟨es, clock, h1, h2, h3⟩ := h
  refine ⟨es, clock, (hb.block mb (Array.getElem?_eq_some_iff.1 h1).1).trans h1, h2, fun e he => ?_⟩
  obtain ⟨k, s, A, c, g1, g2, g3, g4, g5⟩ := h3 e he
  exact ⟨k, s, A, c, g1, g2, g3, g4, g5.below hb⟩
/-- a block that is new is one more to keep clear of -/
theorem Memo.fresh (h : Memo b cs fs mb Y W) (hz : ∀ k, Z k → Y k ∨ W.heap.size ≤ k) : Memo b cs fs mb Z W := by
  obtain ⟨es, clock, h1, h2, h3⟩ := h
  refine ⟨es, clock, h1, h2, fun e he => ?_⟩
  obtain ⟨k, s, A, c, g1, g2, g3, g4, g5⟩ := h3 e he
  refine ⟨k, s, A, c, g1, g2, g3, g4, g5.sub fun a e hza => ?_⟩
  rcases hz _ hza with h | h
  · exact (g5.av a e).2 h
  · have := g5.lt e; omega
theorem Memo.set_ (h : Memo b cs fs mb Y W) {g : Nat} {t : TypeId} {us : Array Value} (hg : Blk W g t us) (ht : t ≠ 3) (hw : W.grownBy W' (some g)) : Memo b cs fs mb Y W' := by
  obtain ⟨es, clock, h1, h2, h3⟩ := h
  refine ⟨es, clock, (hw.block mb (Array.getElem?_eq_some_iff.1 h1).1 (fun e => by
    cases e
    unfold Blk at hg
    rw [hg] at h1
    cases h1)).trans h1, h2, fun e he => ?_⟩
  obtain ⟨k, s, A, c, g1, g2, g3, g4, g5⟩ := h3 e he
  exact ⟨k, s, A, c, g1, g2, g3, g4, g5.set_ hg ht (Keep.of_grown hw rfl)⟩
theorem grown_of_set (W : World) (p : Addr) (u : Value) : W.grownBy (W.setCell p u) (some p.block) := ⟨rfl, rfl, rfl, by simp, fun k _ hn => Below.heap_setCell W p u k (fun e => hn (by rw [e]))⟩
theorem grown_one {A B C : World} {m : Option Nat} (h : A.grownBy B m) (k : B.grownBy C m) : A.grownBy C m :=
  ⟨k.os.trans h.os, k.tape.trans h.tape, k.output.trans h.output, Nat.le_trans h.size k.size, fun i hi hn => (k.block i (Nat.lt_of_lt_of_le hi h.size) hn).trans (h.block i hi hn)⟩
theorem act_eqd {a : Act} {n : Nat} {d : List Deferred} (hs : a.tmps.size = n) (hd : a.defers = d) : a = { tmps := ((List.range n).map fun i => a.tmps.getD i undef).toArray, defers := d } := by
  have := act_eq (a := { a with defers := [] }) hs rfl
  obtain ⟨t, d'⟩ := a
  simp only at hd
  subst hd
  injection this with h1
  congr 1
def set3 (W : World) (g : Nat) (u0 u1 u2 : Value) : World := ((W.setCell ⟨g, 0, none⟩ u0).setCell ⟨g, 1, none⟩ u1).setCell ⟨g, 2, none⟩ u2
theorem set3_grown (W : World) (g : Nat) (u0 u1 u2 : Value) : W.grownBy (set3 W g u0 u1 u2) (some g) :=
  grown_one (grown_one (grown_of_set W ⟨g, 0, none⟩ u0) (grown_of_set _ ⟨g, 1, none⟩ u1)) (grown_of_set _ ⟨g, 2, none⟩ u2)
theorem set3_blk {W : World} {g : Nat} {t : TypeId} {v0 v1 v2 : Value} (h : Blk W g t #[v0, v1, v2]) (u0 u1 u2 : Value) : Blk (set3 W g u0 u1 u2) g t #[u0, u1, u2] := ((h.set_ 0 u0).set_ 1 u1).set_ 2 u2
theorem FEnv.keep (h : FEnv P n mb b At ct cs Af cf fs W) (hk : Keep Z W W') (h1 : ¬ Z P) (h2 : ∀ k, Z k → n ≤ k) : FEnv P n mb b At ct cs Af cf fs W' :=
  ⟨hk.blk h.bp h1, hk.rows h.ic h2, hk.fixes h.ix h2, Nat.le_trans h.hn hk.size⟩
theorem FEnv.below (h : FEnv P n mb b At ct cs Af cf fs W) (hb : Below W.heap.size W W') : FEnv P n mb b At ct cs Af cf fs W' := h.keep (Keep.of_below (fun _ => False) hb) id (fun _ h => h.elim)
theorem FEnv.reads (h : FEnv P n mb b At ct cs Af cf fs W) : W.cell? ⟨P, 0, none⟩ = some (.int .i64 b) ∧ W.cell? ⟨P, 1, none⟩ = some (.slice At cs.length ct) ∧ W.cell? ⟨P, 2, none⟩ = some (.slice Af fs.length cf) ∧ W.cell? ⟨P, 3, none⟩ = some (.map (some mb)) := h.bp.c4
end
end Go.Proofs.YtlnamjhgbdacbaaGreat
/- How a tour goes on, on a map with one place. Conditions stand at each theorem. -/
namespace Go.Proofs.YtlnamjhgbdacbaaGreat
open Go.RowKit Go.Shelf

set_option maxRecDepth 100000 in
set_option maxHeartbeats 2000000 in
theorem wrest_zero {g mp : Nat} {A : Option Addr} {c : Nat} {f : Value} (w : World) (h : AtOne w g mp A c (.int .i64 0) f) :
    Calls Tryz.prog 65 #[.pointer (some ⟨g, 0, none⟩), .agg #[.int .i64 0, .int .i64 0]] w fun e w' => e = .returned (.agg #[.int .i64 0, .int .i64 0]) ∧ Below w.heap.size w w' := by
  have hB := (below_box (w := w) #[.int .i64 0, .int .i64 0] 153).alloc (below_box (w := w) #[.int .i64 0, .int .i64 0] 153).size (.cells #[.int .i64 0, .int .i64 0] 155)
  have hT := (Blk.new w 153 #[.int .i64 0, .int .i64 0]).alloc (.cells #[.int .i64 0, .int .i64 0] 155)
  have hL := Blk.new (w.alloc (.cells #[.int .i64 0, .int .i64 0] 153)) 155 #[.int .i64 0, .int .i64 0]
  rw [World.size_alloc] at hL
  have HS := hid (And.intro (h.keep hB) (And.intro hB (And.intro hT hL)))
  clear h hB hT hL
  go_enter Tryz.func65, Tryz.ntmps65
  go_upto_region 2 with (fail)
  refine gen (p := Code.wp _ _ _ _) (fun W => AtOne W g mp A c (.int .i64 0) f ∧ Below w.heap.size w W ∧ Blk W w.heap.size 153 #[.int .i64 0, .int .i64 0] ∧ Blk W (w.heap.size + 1) 155 #[.int .i64 0, .int .i64 0]) HS.out ?_
  clear HS
  rintro W h
  have H := hid h
  obtain ⟨a0, a1, a2, a3, a4⟩ := h.1.cells
  obtain ⟨t0, t1⟩ := h.2.2.1.c2
  obtain ⟨l0, l1⟩ := h.2.2.2.c2
  have lf0 := h.2.2.2.frozen 0
  have lf1 := h.2.2.2.frozen 1
  have ll := h.2.2.2.lt
  clear h
  go_region
  go_wp2
  have HX := hid (show Blk ((W.setCell ⟨w.heap.size + 1, 0, none⟩ (.int .i64 0)).setCell ⟨w.heap.size + 1, 1, none⟩ (.int .i64 0)).drew (w.heap.size + 1) 155 #[.int .i64 0, .int .i64 0] ∧ Below w.heap.size w ((W.setCell ⟨w.heap.size + 1, 0, none⟩ (.int .i64 0)).setCell ⟨w.heap.size + 1, 1, none⟩ (.int .i64 0)).drew from ⟨((H.out.2.2.2.set_ 0 _).set_ 1 _).drew, ((H.out.2.1.setCell (p := ⟨w.heap.size + 1, 0, none⟩) (by show w.heap.size ≤ w.heap.size + 1; omega) _).setCell (p := ⟨w.heap.size + 1, 1, none⟩) (by show w.heap.size ≤ w.heap.size + 1; omega) _).drew⟩)
  clear H a0 a1 a2 a3 a4 t0 t1 l0 l1 lf0 lf1 ll
  generalize ((W.setCell ⟨w.heap.size + 1, 0, none⟩ (.int .i64 0)).setCell ⟨w.heap.size + 1, 1, none⟩ (.int .i64 0)).drew = W2 at *
  obtain ⟨l0, l1⟩ := HX.out.1.c2
  exact bodyPost_ret (v := .agg #[.int .i64 0, .int .i64 0]) (by simp [results, Tryz.results65, go_sem, l0, l1]) rfl ⟨rfl, HX.out.2⟩

theorem leg_zero (W : World) : (zeroValue 155).run Tryz.prog W = .ok (.agg #[.int .i64 0, .int .i64 0]) W := by kernel_rfl
theorem stand_one : ∃ l, keyOf Tryz.prog 153 (stV 0 1) = some l := stand_key (by unfold Ix; omega) (by unfold Ix; omega)
/-- the map knows the whole tour -/
def TOne (W : World) (mp : Nat) : Prop := ∃ es clock, W.heap[mp]? = some (.map es clock) ∧ StandKeys es ∧ (∀ x ∈ es.toList, x.key = stV 0 1 → x.val = .agg #[.int .i64 0, .int .i64 0]) ∧ ∃ x ∈ es.toList, x.key = stV 0 1
theorem TOne.lt {W : World} {mp : Nat} (h : TOne W mp) : mp < W.heap.size := by
  obtain ⟨es, ck, h1, _⟩ := h
  exact (Array.getElem?_eq_some_iff.1 h1).1
theorem TOne.keep {W W' : World} {mp : Nat} (h : TOne W mp) (hb : Below W.heap.size W W') : TOne W' mp := by
  obtain ⟨es, ck, h1, h2⟩ := h
  exact ⟨es, ck, (hb.block _ (Array.getElem?_eq_some_iff.1 h1).1).trans h1, h2⟩
theorem tone_look {W : World} {mp : Nat} (h : TOne W mp) : (Instr.lookup 125 (.map (some mp)) (.agg #[.int .i64 0, .int .i64 1]) true).run Tryz.prog W = .ok (.tuple #[.agg #[.int .i64 0, .int .i64 0], .bool true]) W := by
  obtain ⟨es, ck, h1, h2, h3, x0, h4, h5⟩ := h
  rcases stand_look (t := 125) true Tryz.underlying125 (leg_zero _) h1 h2 stand_one with ⟨_, hno⟩ | ⟨x, hx, hk, hr⟩
  · exact absurd h5 (hno x0 h4)
  · rw [h3 x hx hk] at hr
    exact hr
theorem tnone_look {W : World} {mp : Nat} (h : W.heap[mp]? = some (.map #[] 0)) : (Instr.lookup 125 (.map (some mp)) (.agg #[.int .i64 0, .int .i64 1]) true).run Tryz.prog W = .ok (.tuple #[.agg #[.int .i64 0, .int .i64 0], .bool false]) W := by
  rcases stand_look (t := 125) true Tryz.underlying125 (leg_zero _) h (fun e he => by simp at he) stand_one with ⟨hr, _⟩ | ⟨x, hx, _⟩
  · exact hr
  · simp at hx
theorem tone_store {W : World} {mp : Nat} (h : W.heap[mp]? = some (.map #[] 0)) : ∃ es ck, (Instr.mapUpdate 125 (.map (some mp)) (.agg #[.int .i64 0, .int .i64 1]) (.agg #[.int .i64 0, .int .i64 0])).run Tryz.prog W = .ok () (W.putObj mp (.map es ck)) ∧ TOne (W.putObj mp (.map es ck)) mp := by
  obtain ⟨es, ck, h1, h2, h3, x, h4, h5, h6⟩ := stand_store (t := 125) Tryz.underlying125 h (fun e he => by simp at he) stand_one (.agg #[.int .i64 0, .int .i64 0])
  refine ⟨es, ck, h1, es, ck, ?_, h2, fun x hx hk => ?_, x, h4, h5⟩
  · exact World.putObj_heap_same (Array.getElem?_eq_some_iff.1 h).1
  · rcases h3 x hx with h | h
    · simp at h
    · exact h.2
/-- where rest stands while it looks a stand up -/
structure Ph3 (w : World) (a : Act) (li : Array Bool) (W : World) : Prop where
  bel : Below w.heap.size w W
  bs : Blk W w.heap.size 153 #[.int .i64 0, .int .i64 1]
  bl : Blk W (w.heap.size + 1) 155 #[.int .i64 0, .int .i64 0]
  al : li.getD 9 false = true → ∃ z, a.tmps.getD 5 undef = .pointer (some ⟨z, 0, none⟩) ∧ w.heap.size + 2 ≤ z ∧ Blk W z 155 #[.int .i64 0, .int .i64 0]
theorem Ph3.other {w : World} {a : Act} {li : Array Bool} {W : World} {i d : Nat} {v : Value} (h : Ph3 w a li W) (hi : i ≠ 9) (hd : d ≠ 5) : Ph3 w (a.put (some d) v) (li.setIfInBounds i true) W :=
  ⟨h.bel, h.bs, h.bl, fun hl => by
    rw [getD_set_oth hi] at hl
    obtain ⟨z, e, hz⟩ := h.al hl
    exact ⟨z, (put_getD_other hd).trans e, hz⟩⟩
theorem Ph3.new {w : World} {a : Act} {li : Array Bool} {W : World} (h : Ph3 w a li W) (hs : 5 < a.tmps.size) : Ph3 w (a.put (some 5) (.pointer (some ⟨W.heap.size, 0, none⟩))) (li.setIfInBounds 9 true) (W.alloc (.cells #[.int .i64 0, .int .i64 0] 155)) :=
  ⟨h.bel.alloc h.bel.size _, h.bs.alloc _, h.bl.alloc _, fun _ => ⟨W.heap.size, put_getD_same hs, by have := h.bl.lt; omega, Blk.new _ _ _⟩⟩
theorem Ph3.sto {w : World} {a : Act} {li : Array Bool} {W : World} {z : Nat} {v : Value} (h : Ph3 w a li W) (_hl9 : li.getD 9 false = true) (e : a.tmps.getD 5 undef = .pointer (some ⟨z, 0, none⟩)) (hz : w.heap.size + 2 ≤ z) (hb : Blk W z 155 #[.int .i64 0, .int .i64 0]) : Ph3 w (a.put none v) (li.setIfInBounds 10 true) ((W.setCell ⟨z, 0, none⟩ (.int .i64 0)).setCell ⟨z, 1, none⟩ (.int .i64 0)) :=
  ⟨(h.bel.setCell (p := ⟨z, 0, none⟩) (by show w.heap.size ≤ z; omega) _).setCell (p := ⟨z, 1, none⟩) (by show w.heap.size ≤ z; omega) _, (h.bs.far (p := ⟨z, 0, none⟩) (by show w.heap.size ≠ z; omega) _).far (p := ⟨z, 1, none⟩) (by show w.heap.size ≠ z; omega) _, (h.bl.far (p := ⟨z, 0, none⟩) (by show w.heap.size + 1 ≠ z; omega) _).far (p := ⟨z, 1, none⟩) (by show w.heap.size + 1 ≠ z; omega) _, fun _ => ⟨z, e, hz, (hb.set_ 0 _).set_ 1 _⟩⟩

set_option maxRecDepth 100000 in
set_option maxHeartbeats 4000000 in
theorem wrest_hit {g mp : Nat} {A : Option Addr} {c : Nat} {f : Value} (w : World) (h : AtOne w g mp A c (.int .i64 0) f) (hm : TOne w mp) :
    Calls Tryz.prog 65 #[.pointer (some ⟨g, 0, none⟩), .agg #[.int .i64 0, .int .i64 1]] w fun e w' => e = .returned (.agg #[.int .i64 0, .int .i64 0]) ∧ Below w.heap.size w w' := by
  have hB := (below_box (w := w) #[.int .i64 0, .int .i64 1] 153).alloc (below_box (w := w) #[.int .i64 0, .int .i64 1] 153).size (.cells #[.int .i64 0, .int .i64 0] 155)
  have hT := (Blk.new w 153 #[.int .i64 0, .int .i64 1]).alloc (.cells #[.int .i64 0, .int .i64 0] 155)
  have hL := Blk.new (w.alloc (.cells #[.int .i64 0, .int .i64 1] 153)) 155 #[.int .i64 0, .int .i64 0]
  rw [World.size_alloc] at hL
  have HA := hid h
  have HM := hid hm
  have HS := hid (And.intro hB (And.intro hT hL))
  clear h hm hB hT hL
  go_enter Tryz.func65, Tryz.ntmps65
  go_upto_region 3 with (fail)
  refine gen (p := Code.wp _ _ _ _) (fun W => Below w.heap.size w W ∧ Blk W w.heap.size 153 #[.int .i64 0, .int .i64 1] ∧ Blk W (w.heap.size + 1) 155 #[.int .i64 0, .int .i64 0]) HS.out ?_
  clear HS
  rintro W1 ⟨h1, h2, h3⟩
  have HG0 := hid (show Ph3 w { tmps := #[], defers := [] } (Array.replicate 12 false) W1.drew from ⟨h1.drew, h2.drew, h3.drew, fun hl => by rw [getD_replicate_false] at hl; cases hl⟩)
  clear h1 h2 h3
  refine (wpIn_wide (n := 0)).1 ?_
  refine wpIn_region_each2 11 (fun i v W' => match i with | 0 => v = .pointer (some ⟨g, 0, none⟩) | 1 => v = .pointer (some ⟨g, 0, none⟩) | 2 => v = .pointer (some ⟨g, 130, none⟩) | 3 => v = .map (some mp) | 4 => v = .agg #[.int .i64 0, .int .i64 1] | 5 => v = .tuple #[.agg #[.int .i64 0, .int .i64 0], .bool true] | 6 => v = .tuple #[.agg #[.int .i64 0, .int .i64 0], .bool true] | 7 => v = .agg #[.int .i64 0, .int .i64 0] | 8 => v = .bool true | _ => True) (fun _ _ => True) (fun li a W => Ph3 w a li W) (by kernel_rfl) (by kernel_rfl) ?_ (fun _ _ => trivial) trivial ⟨HG0.out.bel, HG0.out.bs, HG0.out.bl, fun hl => by rw [getD_replicate_false] at hl; cases hl⟩ (by kernel_rfl) ?_ ?_
  · intro i v W1 W2 hb h; exact h
  · refine ⟨?_, ?_, ?_, ?_, ?_, ?_, ?_, ?_, ?_, ?_, ?_, trivial⟩
    · -- 0
      intro li a1 W2 hA K hK
      have e0 := hA.par 0 (by kernel_rfl)
      refine opStep none 0 rfl rfl (fun c hc => by cases hc) ?_
      go_simp
      exact hK _ _ rfl trivial (hA.ph.other (by decide) (by decide))
    · -- 1
      intro li a1 W2 hA K hK
      have e24 : a1.tmps.getD 24 undef = .pointer (some ⟨g, 0, none⟩) := hA.val 0 24 (by kernel_rfl) (by kernel_rfl)
      refine opStep none 0 rfl rfl (fun c hc => by cases hc) ?_
      go_simp
      exact hK _ _ rfl trivial (hA.ph.other (by decide) (by decide))
    · -- 2
      intro li a1 W2 hA K hK
      have e25 : a1.tmps.getD 25 undef = .pointer (some ⟨g, 0, none⟩) := hA.val 1 25 (by kernel_rfl) (by kernel_rfl)
      refine opStep none 0 rfl rfl (fun c hc => by cases hc) ?_
      go_simp
      exact hK _ _ rfl trivial (hA.ph.other (by decide) (by decide))
    · -- 3
      intro li a1 W2 hA K hK
      have e26 : a1.tmps.getD 26 undef = .pointer (some ⟨g, 130, none⟩) := hA.val 2 26 (by kernel_rfl) (by kernel_rfl)
      obtain ⟨a0, a1', a2, a3, a4⟩ := (HA.out.keep hA.ph.bel).cells
      obtain ⟨t0, t1⟩ := hA.ph.bs.c2
      refine opStep none 0 rfl rfl (fun c hc => by cases hc) ?_
      go_simp
      exact hK _ _ rfl trivial (hA.ph.other (by decide) (by decide))
    · -- 4
      intro li a1 W2 hA K hK
      have e3 := hA.par 3 (by kernel_rfl)
      obtain ⟨a0, a1', a2, a3, a4⟩ := (HA.out.keep hA.ph.bel).cells
      obtain ⟨t0, t1⟩ := hA.ph.bs.c2
      refine opStep none 0 rfl rfl (fun c hc => by cases hc) ?_
      go_simp
      exact hK _ _ rfl trivial (hA.ph.other (by decide) (by decide))
    · -- 5
      intro li a1 W2 hA K hK
      have e27 : a1.tmps.getD 27 undef = .map (some mp) := hA.val 3 27 (by kernel_rfl) (by kernel_rfl)
      have e28 : a1.tmps.getD 28 undef = .agg #[.int .i64 0, .int .i64 1] := hA.val 4 28 (by kernel_rfl) (by kernel_rfl)
      have hl := tone_look (HM.out.keep hA.ph.bel)
      refine opValue (v := .tuple #[.agg #[.int .i64 0, .int .i64 0], .bool true]) none 0 rfl rfl (fun c hc => by cases hc) (W' := W2) (by simp [execOp, Act.eval, e27, e28, hl, Result.andThen]) ?_
      exact hK _ _ rfl trivial (hA.ph.other (by decide) (by decide))
    · -- 6
      intro li a1 W2 hA K hK
      have e29 : a1.tmps.getD 29 undef = .tuple #[.agg #[.int .i64 0, .int .i64 0], .bool true] := hA.val 5 29 (by kernel_rfl) (by kernel_rfl)
      refine opStep none 0 rfl rfl (fun c hc => by cases hc) ?_
      go_simp
      exact hK _ _ rfl trivial (hA.ph.other (by decide) (by decide))
    · -- 7
      intro li a1 W2 hA K hK
      have e23 : a1.tmps.getD 23 undef = .tuple #[.agg #[.int .i64 0, .int .i64 0], .bool true] := hA.val 6 23 (by kernel_rfl) (by kernel_rfl)
      refine opStep none 0 rfl rfl (fun c hc => by cases hc) ?_
      go_simp
      exact hK _ _ rfl trivial (hA.ph.other (by decide) (by decide))
    · -- 8
      intro li a1 W2 hA K hK
      have e23 : a1.tmps.getD 23 undef = .tuple #[.agg #[.int .i64 0, .int .i64 0], .bool true] := hA.val 6 23 (by kernel_rfl) (by kernel_rfl)
      refine opStep none 0 rfl rfl (fun c hc => by cases hc) ?_
      go_simp
      exact hK _ _ rfl trivial (hA.ph.other (by decide) (by decide))
    · -- 9
      intro li a1 W2 hA K hK
      refine opStep none 0 rfl rfl (fun c hc => by cases hc) ?_
      go_simp
      exact hK _ _ trivial trivial (hA.ph.new (by rw [hA.size]; show 5 < 78; decide))
    · -- 10
      intro li a1 W2 hA K hK
      have e30 : a1.tmps.getD 30 undef = .agg #[.int .i64 0, .int .i64 0] := hA.val 7 30 (by kernel_rfl) (by kernel_rfl)
      obtain ⟨a0, a1', a2, a3, a4⟩ := (HA.out.keep hA.ph.bel).cells
      obtain ⟨t0, t1⟩ := hA.ph.bs.c2
      obtain ⟨z, e5, hz, hbz⟩ := hA.ph.al (hA.has 9 (by kernel_rfl))
      obtain ⟨q0, q1⟩ := hbz.c2
      have f0 := hbz.frozen 0
      have f1 := hbz.frozen 1
      have zl := hbz.lt
      refine opStep none 0 rfl rfl (fun c hc => by cases hc) ?_
      go_simp
      exact hK undef _ trivial trivial (hA.ph.sto (hA.has 9 (by kernel_rfl)) e5 hz hbz)
  intro li a1 W2 hD
  obtain ⟨z, e5, hz, hbz⟩ := hD.ph.al (hD.all 9 (by decide))
  have e31 : a1.tmps.getD 31 undef = .bool true := hD.val 8 31 (by kernel_rfl) (by kernel_rfl)
  have hsz : a1.tmps.size = 78 := hD.size
  have hkp2 := hD.keeps (ds := [24, 25, 26, 27, 28, 29, 23, 30, 31, 5, 6]) (by kernel_rfl)
  refine tail_val (i := 11) (v := .bool true) (W' := W2) none 0 rfl rfl rfl (fun c hc => by cases hc) (by go_simp) (by rw [hsz]; decide) ?_
  intro a3 s3 d3 f3 o3
  have hkp3 := keeps_then hkp2 o3 (by decide)
  have e := act_mix [24, 25, 26, 27, 28, 29, 23, 30, 31, 5, 6] (s3.trans hD.size) (d3.trans hD.defers) (fun i _ hc => hkp3 i hc)
  have f6 : (fun i => a3.tmps.getD i undef) 6 = .bool true := f3
  have f5 : (fun i => a3.tmps.getD i undef) 5 = .pointer (some ⟨z, 0, none⟩) := (o3 5 (by decide)).trans e5
  generalize (fun i => a3.tmps.getD i undef) = g' at e f5 f6
  refine wpListIn_nil ?_
  rw [e]
  have HP := hid (And.intro hD.ph.bel (And.intro hD.ph.bs (And.intro hD.ph.bl (And.intro hz hbz))))
  clear e hD hkp2 hkp3 s3 d3 f3 o3 e5 e31 hsz hz hbz
  simp only [mix, List.contains_cons, List.contains_nil, Nat.reduceAdd, Nat.reduceBEq, Bool.or_false, Bool.or_true, cond_true, cond_false, f5, f6]
  clear f5 f6
  obtain ⟨q0, q1⟩ := HP.out.2.2.2.2.c2
  obtain ⟨l0, l1⟩ := HP.out.2.2.1.c2
  have lf0 := HP.out.2.2.1.frozen 0
  have lf1 := HP.out.2.2.1.frozen 1
  have ll := HP.out.2.2.1.lt
  go_wp2
  have HX := hid (show Blk ((W2.setCell ⟨w.heap.size + 1, 0, none⟩ (.int .i64 0)).setCell ⟨w.heap.size + 1, 1, none⟩ (.int .i64 0)) (w.heap.size + 1) 155 #[.int .i64 0, .int .i64 0] ∧ Below w.heap.size w ((W2.setCell ⟨w.heap.size + 1, 0, none⟩ (.int .i64 0)).setCell ⟨w.heap.size + 1, 1, none⟩ (.int .i64 0)) from ⟨(HP.out.2.2.1.set_ 0 _).set_ 1 _, (HP.out.1.setCell (p := ⟨w.heap.size + 1, 0, none⟩) (by show w.heap.size ≤ w.heap.size + 1; omega) _).setCell (p := ⟨w.heap.size + 1, 1, none⟩) (by show w.heap.size ≤ w.heap.size + 1; omega) _⟩)
  clear HP q0 q1 l0 l1 lf0 lf1 ll
  generalize ((W2.setCell ⟨w.heap.size + 1, 0, none⟩ (.int .i64 0)).setCell ⟨w.heap.size + 1, 1, none⟩ (.int .i64 0)) = W3 at *
  obtain ⟨l0, l1⟩ := HX.out.1.c2
  exact bodyPost_ret (v := .agg #[.int .i64 0, .int .i64 0]) (by simp [results, Tryz.results65, go_sem, l0, l1]) rfl ⟨rfl, HX.out.2⟩

theorem wlist_one' (w : World) : Calls Tryz.prog 66 #[.int .i64 1] w fun e w' => ∃ a c, e = .returned (.slice (some a) 1 c) ∧ 1 ≤ c ∧ c ≤ maxLen ∧ a.block < w'.heap.size ∧ w'.cell? a = some (.int .i64 0) ∧ Below w.heap.size w w' := by
  refine (wlist_one w).mono ?_
  rintro e w' ⟨A, c, rfl, h1, h2, h3, _, _, hb⟩
  obtain ⟨a, rfl, h4, h5⟩ := h3 0 0 rfl
  exact ⟨a, c, rfl, h1, h2, h4, h5, hb⟩
/-- where rest stands in its loop -/
structure Ph10 (w : World) (y : Nat) (u v : Int) (W : World) : Prop where
  bel : Below w.heap.size w W
  bs : Blk W w.heap.size 153 #[.int .i64 0, .int .i64 1]
  bl : Blk W (w.heap.size + 1) 155 #[.int .i64 0, .int .i64 0]
  by_ : Blk W y 155 #[.int .i64 u, .int .i64 v]
  hy : w.heap.size + 2 ≤ y
theorem Ph10.keep {w : World} {y : Nat} {u v : Int} {W W' : World} (h : Ph10 w y u v W) (hb : Below W.heap.size W W') : Ph10 w y u v W' :=
  ⟨h.bel.trans (hb.mono h.bel.size), h.bs.keep hb, h.bl.keep hb, h.by_.keep hb, h.hy⟩
theorem Ph10.set_ {w : World} {y : Nat} {u v u' v' : Int} {W : World} (h : Ph10 w y u v W) : Ph10 w y u' v' ((W.setCell ⟨y, 0, none⟩ (.int .i64 u')).setCell ⟨y, 1, none⟩ (.int .i64 v')) :=
  ⟨(h.bel.setCell (p := ⟨y, 0, none⟩) (by show w.heap.size ≤ y; have := h.hy; omega) _).setCell (p := ⟨y, 1, none⟩) (by show w.heap.size ≤ y; have := h.hy; omega) _, (h.bs.far (p := ⟨y, 0, none⟩) (by show w.heap.size ≠ y; have := h.hy; omega) _).far (p := ⟨y, 1, none⟩) (by show w.heap.size ≠ y; have := h.hy; omega) _, (h.bl.far (p := ⟨y, 0, none⟩) (by show w.heap.size + 1 ≠ y; have := h.hy; omega) _).far (p := ⟨y, 1, none⟩) (by show w.heap.size + 1 ≠ y; have := h.hy; omega) _, (h.by_.set_ 0 _).set_ 1 _, h.hy⟩
theorem Blk.put {W : World} {g t b : Nat} {cs : Array Value} (h : Blk W g t cs) (hb : b ≠ g) (o : Obj) : Blk (W.putObj b o) g t cs := (World.putObj_heap_other (fun e => hb e.symm)).trans h

set_option maxRecDepth 100000 in
set_option maxHeartbeats 4000000 in
theorem wrest_miss {g mp : Nat} {A : Option Addr} {c : Nat} {f : Value} (w : World) (h : AtOne w g mp A c (.int .i64 0) f) (hm : w.heap[mp]? = some (.map #[] 0)) :
    Calls Tryz.prog 65 #[.pointer (some ⟨g, 0, none⟩), .agg #[.int .i64 0, .int .i64 1]] w fun e w' => e = .returned (.agg #[.int .i64 0, .int .i64 0]) ∧ MChg (fun q => q = mp) w w' ∧ TOne w' mp := by
  have hB := (below_box (w := w) #[.int .i64 0, .int .i64 1] 153).alloc (below_box (w := w) #[.int .i64 0, .int .i64 1] 153).size (.cells #[.int .i64 0, .int .i64 0] 155)
  have hT := (Blk.new w 153 #[.int .i64 0, .int .i64 1]).alloc (.cells #[.int .i64 0, .int .i64 0] 155)
  have hL := Blk.new (w.alloc (.cells #[.int .i64 0, .int .i64 1] 153)) 155 #[.int .i64 0, .int .i64 0]
  rw [World.size_alloc] at hL
  have HA := hid h
  have HM := hid hm
  have HS := hid (And.intro hB (And.intro hT hL))
  clear h hm hB hT hL
  go_enter Tryz.func65, Tryz.ntmps65
  go_upto_region 3 with (fail)
  refine gen (p := Code.wp _ _ _ _) (fun W => Below w.heap.size w W ∧ Blk W w.heap.size 153 #[.int .i64 0, .int .i64 1] ∧ Blk W (w.heap.size + 1) 155 #[.int .i64 0, .int .i64 0]) HS.out ?_
  clear HS
  rintro W1 ⟨h1, h2, h3⟩
  have HG0 := hid (show Ph3 w { tmps := #[], defers := [] } (Array.replicate 12 false) W1.drew from ⟨h1.drew, h2.drew, h3.drew, fun hl => by rw [getD_replicate_false] at hl; cases hl⟩)
  clear h1 h2 h3
  refine (wpIn_wide (n := 0)).1 ?_
  refine wpIn_region_each2 11 (fun i v W' => match i with | 0 => v = .pointer (some ⟨g, 0, none⟩) | 1 => v = .pointer (some ⟨g, 0, none⟩) | 2 => v = .pointer (some ⟨g, 130, none⟩) | 3 => v = .map (some mp) | 4 => v = .agg #[.int .i64 0, .int .i64 1] | 5 => v = .tuple #[.agg #[.int .i64 0, .int .i64 0], .bool false] | 6 => v = .tuple #[.agg #[.int .i64 0, .int .i64 0], .bool false] | 7 => v = .agg #[.int .i64 0, .int .i64 0] | 8 => v = .bool false | _ => True) (fun _ _ => True) (fun li a W => Ph3 w a li W) (by kernel_rfl) (by kernel_rfl) ?_ (fun _ _ => trivial) trivial ⟨HG0.out.bel, HG0.out.bs, HG0.out.bl, fun hl => by rw [getD_replicate_false] at hl; cases hl⟩ (by kernel_rfl) ?_ ?_
  · intro i v W1 W2 hb h; exact h
  · refine ⟨?_, ?_, ?_, ?_, ?_, ?_, ?_, ?_, ?_, ?_, ?_, trivial⟩
    · -- 0
      intro li a1 W2 hA K hK
      have e0 := hA.par 0 (by kernel_rfl)
      refine opStep none 0 rfl rfl (fun c hc => by cases hc) ?_
      go_simp
      exact hK _ _ rfl trivial (hA.ph.other (by decide) (by decide))
    · -- 1
      intro li a1 W2 hA K hK
      have e24 : a1.tmps.getD 24 undef = .pointer (some ⟨g, 0, none⟩) := hA.val 0 24 (by kernel_rfl) (by kernel_rfl)
      refine opStep none 0 rfl rfl (fun c hc => by cases hc) ?_
      go_simp
      exact hK _ _ rfl trivial (hA.ph.other (by decide) (by decide))
    · -- 2
      intro li a1 W2 hA K hK
      have e25 : a1.tmps.getD 25 undef = .pointer (some ⟨g, 0, none⟩) := hA.val 1 25 (by kernel_rfl) (by kernel_rfl)
      refine opStep none 0 rfl rfl (fun c hc => by cases hc) ?_
      go_simp
      exact hK _ _ rfl trivial (hA.ph.other (by decide) (by decide))
    · -- 3
      intro li a1 W2 hA K hK
      have e26 : a1.tmps.getD 26 undef = .pointer (some ⟨g, 130, none⟩) := hA.val 2 26 (by kernel_rfl) (by kernel_rfl)
      obtain ⟨a0, a1', a2, a3, a4⟩ := (HA.out.keep hA.ph.bel).cells
      obtain ⟨t0, t1⟩ := hA.ph.bs.c2
      refine opStep none 0 rfl rfl (fun c hc => by cases hc) ?_
      go_simp
      exact hK _ _ rfl trivial (hA.ph.other (by decide) (by decide))
    · -- 4
      intro li a1 W2 hA K hK
      have e3 := hA.par 3 (by kernel_rfl)
      obtain ⟨a0, a1', a2, a3, a4⟩ := (HA.out.keep hA.ph.bel).cells
      obtain ⟨t0, t1⟩ := hA.ph.bs.c2
      refine opStep none 0 rfl rfl (fun c hc => by cases hc) ?_
      go_simp
      exact hK _ _ rfl trivial (hA.ph.other (by decide) (by decide))
    · -- 5
      intro li a1 W2 hA K hK
      have e27 : a1.tmps.getD 27 undef = .map (some mp) := hA.val 3 27 (by kernel_rfl) (by kernel_rfl)
      have e28 : a1.tmps.getD 28 undef = .agg #[.int .i64 0, .int .i64 1] := hA.val 4 28 (by kernel_rfl) (by kernel_rfl)
      have hl := tnone_look ((hA.ph.bel.block _ (Array.getElem?_eq_some_iff.1 HM.out).1).trans HM.out)
      refine opValue (v := .tuple #[.agg #[.int .i64 0, .int .i64 0], .bool false]) none 0 rfl rfl (fun c hc => by cases hc) (W' := W2) (by simp [execOp, Act.eval, e27, e28, hl, Result.andThen]) ?_
      exact hK _ _ rfl trivial (hA.ph.other (by decide) (by decide))
    · -- 6
      intro li a1 W2 hA K hK
      have e29 : a1.tmps.getD 29 undef = .tuple #[.agg #[.int .i64 0, .int .i64 0], .bool false] := hA.val 5 29 (by kernel_rfl) (by kernel_rfl)
      refine opStep none 0 rfl rfl (fun c hc => by cases hc) ?_
      go_simp
      exact hK _ _ rfl trivial (hA.ph.other (by decide) (by decide))
    · -- 7
      intro li a1 W2 hA K hK
      have e23 : a1.tmps.getD 23 undef = .tuple #[.agg #[.int .i64 0, .int .i64 0], .bool false] := hA.val 6 23 (by kernel_rfl) (by kernel_rfl)
      refine opStep none 0 rfl rfl (fun c hc => by cases hc) ?_
      go_simp
      exact hK _ _ rfl trivial (hA.ph.other (by decide) (by decide))
    · -- 8
      intro li a1 W2 hA K hK
      have e23 : a1.tmps.getD 23 undef = .tuple #[.agg #[.int .i64 0, .int .i64 0], .bool false] := hA.val 6 23 (by kernel_rfl) (by kernel_rfl)
      refine opStep none 0 rfl rfl (fun c hc => by cases hc) ?_
      go_simp
      exact hK _ _ rfl trivial (hA.ph.other (by decide) (by decide))
    · -- 9
      intro li a1 W2 hA K hK
      refine opStep none 0 rfl rfl (fun c hc => by cases hc) ?_
      go_simp
      exact hK _ _ trivial trivial (hA.ph.new (by rw [hA.size]; show 5 < 78; decide))
    · -- 10
      intro li a1 W2 hA K hK
      have e30 : a1.tmps.getD 30 undef = .agg #[.int .i64 0, .int .i64 0] := hA.val 7 30 (by kernel_rfl) (by kernel_rfl)
      obtain ⟨a0, a1', a2, a3, a4⟩ := (HA.out.keep hA.ph.bel).cells
      obtain ⟨t0, t1⟩ := hA.ph.bs.c2
      obtain ⟨z, e5, hz, hbz⟩ := hA.ph.al (hA.has 9 (by kernel_rfl))
      obtain ⟨q0, q1⟩ := hbz.c2
      have f0 := hbz.frozen 0
      have f1 := hbz.frozen 1
      have zl := hbz.lt
      refine opStep none 0 rfl rfl (fun c hc => by cases hc) ?_
      go_simp
      exact hK undef _ trivial trivial (hA.ph.sto (hA.has 9 (by kernel_rfl)) e5 hz hbz)
  intro li a1 W2 hD
  obtain ⟨z, e5, hz, hbz⟩ := hD.ph.al (hD.all 9 (by decide))
  have e31 : a1.tmps.getD 31 undef = .bool false := hD.val 8 31 (by kernel_rfl) (by kernel_rfl)
  have hsz : a1.tmps.size = 78 := hD.size
  have hkp2 := hD.keeps (ds := [24, 25, 26, 27, 28, 29, 23, 30, 31, 5, 6]) (by kernel_rfl)
  refine tail_val (i := 11) (v := .bool false) (W' := W2) none 0 rfl rfl rfl (fun c hc => by cases hc) (by go_simp) (by rw [hsz]; decide) ?_
  intro a3 s3 d3 f3 o3
  have hkp3 := keeps_then hkp2 o3 (by decide)
  have e := act_mix [24, 25, 26, 27, 28, 29, 23, 30, 31, 5, 6] (s3.trans hD.size) (d3.trans hD.defers) (fun i _ hc => hkp3 i hc)
  have f6 : (fun i => a3.tmps.getD i undef) 6 = .bool false := f3
  have f5 : (fun i => a3.tmps.getD i undef) 5 = .pointer (some ⟨z, 0, none⟩) := (o3 5 (by decide)).trans e5
  generalize (fun i => a3.tmps.getD i undef) = g' at e f5 f6
  refine wpListIn_nil ?_
  rw [e]
  have HP := hid (And.intro hD.ph.bel (And.intro hD.ph.bs (And.intro hD.ph.bl (And.intro hz hbz))))
  clear e hD hkp2 hkp3 s3 d3 f3 o3 e5 e31 hsz hz hbz
  simp only [mix, List.contains_cons, List.contains_nil, Nat.reduceAdd, Nat.reduceBEq, Bool.or_false, Bool.or_true, cond_true, cond_false, f5, f6]
  clear f5 f6
  obtain ⟨t0, t1⟩ := HP.out.2.1.c2
  go_upto_region 7 with (fail)
  obtain ⟨y, hy⟩ : ∃ y, W2.heap.size = y := ⟨_, rfl⟩
  refine gen (p := Code.wp _ _ _ _) (fun W => Ph10 w y 1048576 (-1) W) ⟨HP.out.1.alloc HP.out.1.size _, HP.out.2.1.alloc _, HP.out.2.2.1.alloc _, by rw [← hy]; exact Blk.new _ _ _, by have := HP.out.2.2.1.lt; omega⟩ ?_
  simp only [hy]
  clear t0 t1 HP hy
  rintro W3 h3
  have H3 := hid h3
  obtain ⟨t0, t1⟩ := h3.bs.c2
  clear h3
  go_wp2_with fail
  refine (wlist_one' _).mono ?_
  rintro e W4 ⟨a, cc, rfl, h1, h2, h3, h4, hb⟩
  have H4 := hid (H3.out.keep hb)
  unfold maxLen at h2
  clear t0 t1 H3 hb
  go_wp2
  refine wp_loop_rounds 2 ?_
  rw [rounds_succ]
  go_upto_region 10 with (fail)
  clear h1 h2 h3 h4
  refine (wpIn_wide (n := 0)).1 ?_
  refine wpIn_region_each2 20 (fun i v W' => match i with | 0 => v = .pointer (some ⟨g, 0, none⟩) | 1 => v = .pointer (some ⟨w.heap.size, 0, none⟩) | 2 => v = .int .i64 0 | 3 => v = .int .i64 0 | 4 => v = .pointer (some ⟨g, 0, none⟩) | 5 => v = .pointer (some ⟨g, 2, none⟩) | 6 => v = .pointer (some ⟨g, 2, none⟩) | 7 => v = .pointer (some ⟨g, 2, none⟩) | 8 => v = .int .i64 0 | 9 => v = .pointer (some ⟨g, 0, none⟩) | 10 => v = .int .i64 0 | 11 => v = .pointer (some ⟨w.heap.size, 1, none⟩) | 12 => v = .int .i64 1 | 13 => v = .int .i64 0 | 14 => v = .int .i64 1 | 15 => v = .int .i64 0 | 16 => v = .agg #[.int .i64 0, .int .i64 0] | 17 => v = .agg #[.int .i64 0, .int .i64 0] | 18 => v = .int .i64 0 | 19 => v = .int .i64 0 | _ => True) (fun _ _ => True) (fun _ _ W => Ph10 w y 1048576 (-1) W) (by kernel_rfl) (by kernel_rfl) ?_ (fun _ _ => trivial) trivial (H4.out.keep ⟨rfl, rfl, rfl, Nat.le_refl _, fun _ _ => rfl⟩) (by kernel_rfl) ?_ ?_
  · intro i v W1 W2 hb h; exact h
  · refine ⟨?_, ?_, ?_, ?_, ?_, ?_, ?_, ?_, ?_, ?_, ?_, ?_, ?_, ?_, ?_, ?_, ?_, ?_, ?_, ?_, trivial⟩
    · -- 0
      intro li a1 W2 hA K hK
      have e0 := hA.par 0 (by kernel_rfl)
      refine opStep none 0 rfl rfl (fun c hc => by cases hc) ?_
      go_simp
      exact hK _ _ rfl trivial (hA.ph)
    · -- 1
      intro li a1 W2 hA K hK
      have e3 := hA.par 3 (by kernel_rfl)
      refine opStep none 0 rfl rfl (fun c hc => by cases hc) ?_
      go_simp
      exact hK _ _ rfl trivial (hA.ph)
    · -- 2
      intro li a1 W2 hA K hK
      have e44 : a1.tmps.getD 44 undef = .pointer (some ⟨w.heap.size, 0, none⟩) := hA.val 1 44 (by kernel_rfl) (by kernel_rfl)
      obtain ⟨a0, a1', a2, a3, a4⟩ := (HA.out.keep hA.ph.bel).cells
      obtain ⟨t0, t1⟩ := hA.ph.bs.c2
      refine opStep none 0 rfl rfl (fun c hc => by cases hc) ?_
      go_simp
      exact hK _ _ rfl trivial (hA.ph)
    · -- 3
      intro li a1 W2 hA K hK
      have e9 := hA.par 9 (by kernel_rfl)
      refine opStep none 0 rfl rfl (fun c hc => by cases hc) ?_
      go_simp
      exact hK _ _ rfl trivial (hA.ph)
    · -- 4
      intro li a1 W2 hA K hK
      have e43 : a1.tmps.getD 43 undef = .pointer (some ⟨g, 0, none⟩) := hA.val 0 43 (by kernel_rfl) (by kernel_rfl)
      refine opStep none 0 rfl rfl (fun c hc => by cases hc) ?_
      go_simp
      exact hK _ _ rfl trivial (hA.ph)
    · -- 5
      intro li a1 W2 hA K hK
      have e47 : a1.tmps.getD 47 undef = .pointer (some ⟨g, 0, none⟩) := hA.val 4 47 (by kernel_rfl) (by kernel_rfl)
      refine opStep none 0 rfl rfl (fun c hc => by cases hc) ?_
      go_simp
      exact hK _ _ rfl trivial (hA.ph)
    · -- 6
      intro li a1 W2 hA K hK
      have e48 : a1.tmps.getD 48 undef = .pointer (some ⟨g, 2, none⟩) := hA.val 5 48 (by kernel_rfl) (by kernel_rfl)
      have e45 : a1.tmps.getD 45 undef = .int .i64 0 := hA.val 2 45 (by kernel_rfl) (by kernel_rfl)
      refine opStep none 0 rfl rfl (fun c hc => by cases hc) ?_
      go_simp
      exact hK _ _ rfl trivial (hA.ph)
    · -- 7
      intro li a1 W2 hA K hK
      have e49 : a1.tmps.getD 49 undef = .pointer (some ⟨g, 2, none⟩) := hA.val 6 49 (by kernel_rfl) (by kernel_rfl)
      have e46 : a1.tmps.getD 46 undef = .int .i64 0 := hA.val 3 46 (by kernel_rfl) (by kernel_rfl)
      refine opStep none 0 rfl rfl (fun c hc => by cases hc) ?_
      go_simp
      exact hK _ _ rfl trivial (hA.ph)
    · -- 8
      intro li a1 W2 hA K hK
      have e50 : a1.tmps.getD 50 undef = .pointer (some ⟨g, 2, none⟩) := hA.val 7 50 (by kernel_rfl) (by kernel_rfl)
      obtain ⟨a0, a1', a2, a3, a4⟩ := (HA.out.keep hA.ph.bel).cells
      obtain ⟨t0, t1⟩ := hA.ph.bs.c2
      refine opStep none 0 rfl rfl (fun c hc => by cases hc) ?_
      go_simp
      exact hK _ _ rfl trivial (hA.ph)
    · -- 9
      intro li a1 W2 hA K hK
      have e0 := hA.par 0 (by kernel_rfl)
      refine opStep none 0 rfl rfl (fun c hc => by cases hc) ?_
      go_simp
      exact hK _ _ rfl trivial (hA.ph)
    · -- 10
      intro li a1 W2 hA K hK
      have e9 := hA.par 9 (by kernel_rfl)
      refine opStep none 0 rfl rfl (fun c hc => by cases hc) ?_
      go_simp
      exact hK _ _ rfl trivial (hA.ph)
    · -- 11
      intro li a1 W2 hA K hK
      have e3 := hA.par 3 (by kernel_rfl)
      refine opStep none 0 rfl rfl (fun c hc => by cases hc) ?_
      go_simp
      exact hK _ _ rfl trivial (hA.ph)
    · -- 12
      intro li a1 W2 hA K hK
      have e54 : a1.tmps.getD 54 undef = .pointer (some ⟨w.heap.size, 1, none⟩) := hA.val 11 54 (by kernel_rfl) (by kernel_rfl)
      obtain ⟨a0, a1', a2, a3, a4⟩ := (HA.out.keep hA.ph.bel).cells
      obtain ⟨t0, t1⟩ := hA.ph.bs.c2
      refine opStep none 0 rfl rfl (fun c hc => by cases hc) ?_
      go_simp
      exact hK _ _ rfl trivial (hA.ph)
    · -- 13
      intro li a1 W2 hA K hK
      have e9 := hA.par 9 (by kernel_rfl)
      refine opStep none 0 rfl rfl (fun c hc => by cases hc) ?_
      go_simp
      exact hK _ _ rfl trivial (hA.ph)
    · -- 14
      intro li a1 W2 hA K hK
      have e56 : a1.tmps.getD 56 undef = .int .i64 0 := hA.val 13 56 (by kernel_rfl) (by kernel_rfl)
      refine opStep none 0 rfl rfl (fun c hc => by cases hc) ?_
      go_simp
      exact hK _ _ rfl trivial (hA.ph)
    · -- 15
      intro li a1 W2 hA K hK
      have e55 : a1.tmps.getD 55 undef = .int .i64 1 := hA.val 12 55 (by kernel_rfl) (by kernel_rfl)
      have e57 : a1.tmps.getD 57 undef = .int .i64 1 := hA.val 14 57 (by kernel_rfl) (by kernel_rfl)
      refine opStep none 0 rfl rfl (fun c hc => by cases hc) ?_
      go_simp
      exact hK _ _ rfl trivial (hA.ph)
    · -- 16
      intro li a1 W2 hA K hK
      have e53 : a1.tmps.getD 53 undef = .int .i64 0 := hA.val 10 53 (by kernel_rfl) (by kernel_rfl)
      have e58 : a1.tmps.getD 58 undef = .int .i64 0 := hA.val 15 58 (by kernel_rfl) (by kernel_rfl)
      have e53' : a1.tmps[53]?.getD undef = .int .i64 0 := by rw [← Array.getD_eq_getD_getElem?]; exact e53
      have e58' : a1.tmps[58]?.getD undef = .int .i64 0 := by rw [← Array.getD_eq_getD_getElem?]; exact e58
      refine opStep none 0 rfl rfl (fun c hc => by cases hc) ?_
      go_simp
      exact hK _ _ rfl trivial (hA.ph)
    · -- 17
      intro li a1 W2 hA K hK
      have e52 : a1.tmps.getD 52 undef = .pointer (some ⟨g, 0, none⟩) := hA.val 9 52 (by kernel_rfl) (by kernel_rfl)
      have e59 : a1.tmps.getD 59 undef = .agg #[.int .i64 0, .int .i64 0] := hA.val 16 59 (by kernel_rfl) (by kernel_rfl)
      refine opStep none 0 rfl rfl (fun c hc => by cases hc) ?_
      go_simp
      refine (wrest_zero W2 (HA.out.keep hA.ph.bel)).mono ?_
      rintro e W9 ⟨rfl, hb9⟩
      exact hK _ _ rfl trivial (hA.ph.keep hb9)
    · -- 18
      intro li a1 W2 hA K hK
      have e60 : a1.tmps.getD 60 undef = .agg #[.int .i64 0, .int .i64 0] := hA.val 17 60 (by kernel_rfl) (by kernel_rfl)
      refine opStep none 0 rfl rfl (fun c hc => by cases hc) ?_
      go_simp
      exact hK _ _ rfl trivial (hA.ph)
    · -- 19
      intro li a1 W2 hA K hK
      have e51 : a1.tmps.getD 51 undef = .int .i64 0 := hA.val 8 51 (by kernel_rfl) (by kernel_rfl)
      have e61 : a1.tmps.getD 61 undef = .int .i64 0 := hA.val 18 61 (by kernel_rfl) (by kernel_rfl)
      refine opStep none 0 rfl rfl (fun c hc => by cases hc) ?_
      go_simp
      exact hK _ _ rfl trivial (hA.ph)
  intro li a1 W2 hD
  have e62 : a1.tmps.getD 62 undef = .int .i64 0 := hD.val 19 62 (by kernel_rfl) (by kernel_rfl)
  have hsz : a1.tmps.size = 78 := hD.size
  have hkp2 := hD.keeps (ds := [43, 44, 45, 46, 47, 48, 49, 50, 51, 52, 53, 54, 55, 56, 57, 58, 59, 60, 61, 62, 10]) (by kernel_rfl)
  refine tail_val (i := 20) (v := .int .i64 0) (W' := W2) none 0 rfl rfl rfl (fun c hc => by cases hc) (by go_simp) (by rw [hsz]; decide) ?_
  intro a3 s3 d3 f3 o3
  have hkp3 := keeps_then hkp2 o3 (by decide)
  have e := act_mix [43, 44, 45, 46, 47, 48, 49, 50, 51, 52, 53, 54, 55, 56, 57, 58, 59, 60, 61, 62, 10] (s3.trans hD.size) (d3.trans hD.defers) (fun i _ hc => hkp3 i hc)
  have f6 : (fun i => a3.tmps.getD i undef) 10 = .int .i64 0 := f3
  generalize (fun i => a3.tmps.getD i undef) = g' at e f6
  refine wpListIn_nil ?_
  rw [e]
  have H5 := hid hD.ph
  clear e hD hkp2 hkp3 s3 d3 f3 o3 e62 hsz H4
  simp only [mix, List.contains_cons, List.contains_nil, Nat.reduceAdd, Nat.reduceBEq, Bool.or_false, Bool.or_true, cond_true, cond_false, f6]
  clear f6
  generalize W2 = W5 at *
  obtain ⟨y0, y1⟩ := H5.out.by_.c2
  have yf0 := H5.out.by_.frozen 0
  have yf1 := H5.out.by_.frozen 1
  have yl := H5.out.by_.lt
  go_wp2
  refine gen (p := Code.rounds _ _ _ _ _) (fun W => Ph10 w y 0 0 W) H5.out.set_ ?_
  clear y0 y1 yf0 yf1 yl H5
  rintro W6 h6
  have H6 := hid h6
  clear h6
  rw [rounds_succ]
  go_upto_region 14 with (fail)
  refine (wpIn_wide (n := 0)).1 ?_
  refine wpIn_region_each2 6 (fun i v W' => match i with | 0 => v = .pointer (some ⟨g, 0, none⟩) | 1 => v = .pointer (some ⟨g, 0, none⟩) | 2 => v = .pointer (some ⟨g, 130, none⟩) | 3 => v = .map (some mp) | 4 => v = .agg #[.int .i64 0, .int .i64 1] | 5 => v = .agg #[.int .i64 0, .int .i64 0] | _ => True) (fun _ _ => True) (fun _ _ W => Ph10 w y 0 0 W) (by kernel_rfl) (by kernel_rfl) ?_ (fun _ _ => trivial) trivial (H6.out.keep ⟨rfl, rfl, rfl, Nat.le_refl _, fun _ _ => rfl⟩) (by kernel_rfl) ?_ ?_
  · intro i v W1 W2 hb h; exact h
  · refine ⟨?_, ?_, ?_, ?_, ?_, ?_, trivial⟩
    · -- 0
      intro li a1 W2 hA K hK
      have e0 := hA.par 0 (by kernel_rfl)
      refine opStep none 0 rfl rfl (fun c hc => by cases hc) ?_
      go_simp
      exact hK _ _ rfl trivial (hA.ph)
    · -- 1
      intro li a1 W2 hA K hK
      have e71 : a1.tmps.getD 71 undef = .pointer (some ⟨g, 0, none⟩) := hA.val 0 71 (by kernel_rfl) (by kernel_rfl)
      refine opStep none 0 rfl rfl (fun c hc => by cases hc) ?_
      go_simp
      exact hK _ _ rfl trivial (hA.ph)
    · -- 2
      intro li a1 W2 hA K hK
      have e72 : a1.tmps.getD 72 undef = .pointer (some ⟨g, 0, none⟩) := hA.val 1 72 (by kernel_rfl) (by kernel_rfl)
      refine opStep none 0 rfl rfl (fun c hc => by cases hc) ?_
      go_simp
      exact hK _ _ rfl trivial (hA.ph)
    · -- 3
      intro li a1 W2 hA K hK
      have e73 : a1.tmps.getD 73 undef = .pointer (some ⟨g, 130, none⟩) := hA.val 2 73 (by kernel_rfl) (by kernel_rfl)
      obtain ⟨a0, a1', a2, a3, a4⟩ := (HA.out.keep hA.ph.bel).cells
      obtain ⟨t0, t1⟩ := hA.ph.bs.c2
      obtain ⟨y0, y1⟩ := hA.ph.by_.c2
      refine opStep none 0 rfl rfl (fun c hc => by cases hc) ?_
      go_simp
      exact hK _ _ rfl trivial (hA.ph)
    · -- 4
      intro li a1 W2 hA K hK
      have e3 := hA.par 3 (by kernel_rfl)
      obtain ⟨a0, a1', a2, a3, a4⟩ := (HA.out.keep hA.ph.bel).cells
      obtain ⟨t0, t1⟩ := hA.ph.bs.c2
      obtain ⟨y0, y1⟩ := hA.ph.by_.c2
      refine opStep none 0 rfl rfl (fun c hc => by cases hc) ?_
      go_simp
      exact hK _ _ rfl trivial (hA.ph)
    · -- 5
      intro li a1 W2 hA K hK
      have e7 := hA.par 7 (by kernel_rfl)
      obtain ⟨a0, a1', a2, a3, a4⟩ := (HA.out.keep hA.ph.bel).cells
      obtain ⟨t0, t1⟩ := hA.ph.bs.c2
      obtain ⟨y0, y1⟩ := hA.ph.by_.c2
      refine opStep none 0 rfl rfl (fun c hc => by cases hc) ?_
      go_simp
      exact hK _ _ rfl trivial (hA.ph)
  intro li a1 W2 hD
  have e74 : a1.tmps.getD 74 undef = .map (some mp) := hD.val 3 74 (by kernel_rfl) (by kernel_rfl)
  have e75 : a1.tmps.getD 75 undef = .agg #[.int .i64 0, .int .i64 1] := hD.val 4 75 (by kernel_rfl) (by kernel_rfl)
  have e76 : a1.tmps.getD 76 undef = .agg #[.int .i64 0, .int .i64 0] := hD.val 5 76 (by kernel_rfl) (by kernel_rfl)
  have hkp2 := hD.keeps (ds := [71, 72, 73, 74, 75, 76]) (by kernel_rfl)
  obtain ⟨es, ck, hrun, htone⟩ := tone_store ((hD.ph.bel.block _ (Array.getElem?_eq_some_iff.1 HM.out).1).trans HM.out)
  refine tail_store (i := 6) (W' := W2.putObj mp (.map es ck)) none 0 rfl rfl rfl (fun c hc => by cases hc) (by simp [execOp, Act.eval, e74, e75, e76, hrun, Result.andThen]) ?_
  have e := act_mix [71, 72, 73, 74, 75, 76] hD.size hD.defers (fun i _ hc => hkp2 i hc)
  generalize (fun i => a1.tmps.getD i undef) = g' at e
  refine wpListIn_nil ?_
  rw [e]
  have hmp := (Array.getElem?_eq_some_iff.1 HM.out).1
  have hyy := hD.ph.hy
  have H7 := hid (show MChg (fun q => q = mp) w (W2.putObj mp (.map es ck)) ∧ TOne (W2.putObj mp (.map es ck)) mp ∧ Blk (W2.putObj mp (.map es ck)) (w.heap.size + 1) 155 #[.int .i64 0, .int .i64 0] ∧ Blk (W2.putObj mp (.map es ck)) y 155 #[.int .i64 0, .int .i64 0] from ⟨MChg.putObj (Z := fun q => q = mp) (MChg.of_below hD.ph.bel) rfl _, htone, hD.ph.bl.put (by omega) _, hD.ph.by_.put (by omega) _⟩)
  have HMP := hid hmp
  clear e hD hkp2 e74 e75 e76 hrun htone hmp hyy H6
  simp only [mix, List.contains_cons, List.contains_nil, Nat.reduceAdd, Nat.reduceBEq, Bool.or_false, Bool.or_true, cond_true, cond_false]
  generalize W2.putObj mp (.map es ck) = W7 at *
  obtain ⟨y0, y1⟩ := H7.out.2.2.2.c2
  obtain ⟨l0, l1⟩ := H7.out.2.2.1.c2
  have lf0 := H7.out.2.2.1.frozen 0
  have lf1 := H7.out.2.2.1.frozen 1
  have ll := H7.out.2.2.1.lt
  go_wp2
  have hne : mp ≠ w.heap.size + 1 := by have := HMP.out; omega
  have HX := hid (show Blk ((W7.setCell ⟨w.heap.size + 1, 0, none⟩ (.int .i64 0)).setCell ⟨w.heap.size + 1, 1, none⟩ (.int .i64 0)) (w.heap.size + 1) 155 #[.int .i64 0, .int .i64 0] ∧ MChg (fun q => q = mp) w ((W7.setCell ⟨w.heap.size + 1, 0, none⟩ (.int .i64 0)).setCell ⟨w.heap.size + 1, 1, none⟩ (.int .i64 0)) ∧ TOne ((W7.setCell ⟨w.heap.size + 1, 0, none⟩ (.int .i64 0)).setCell ⟨w.heap.size + 1, 1, none⟩ (.int .i64 0)) mp from
    ⟨(H7.out.2.2.1.set_ 0 _).set_ 1 _, (H7.out.1.more (grown_of_set _ ⟨w.heap.size + 1, 0, none⟩ _) (Nat.le_succ _)).more (grown_of_set _ ⟨w.heap.size + 1, 1, none⟩ _) (Nat.le_succ _), by
      obtain ⟨es, ck, h1, h2⟩ := H7.out.2.1
      exact ⟨es, ck, (Below.heap_setCell _ ⟨w.heap.size + 1, 1, none⟩ _ _ hne).trans ((Below.heap_setCell _ ⟨w.heap.size + 1, 0, none⟩ _ _ hne).trans h1), h2⟩⟩)
  clear H7 y0 y1 l0 l1 lf0 lf1 ll
  generalize ((W7.setCell ⟨w.heap.size + 1, 0, none⟩ (.int .i64 0)).setCell ⟨w.heap.size + 1, 1, none⟩ (.int .i64 0)) = W8 at *
  obtain ⟨l0, l1⟩ := HX.out.1.c2
  exact bodyPost_ret (v := .agg #[.int .i64 0, .int .i64 0]) (by simp [results, Tryz.results65, go_sem, l0, l1]) rfl ⟨rfl, HX.out.2⟩
end Go.Proofs.YtlnamjhgbdacbaaGreat
