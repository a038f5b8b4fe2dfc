/- The walks and the plain laws of this part of the program, part 4: what each computes. Conditions stand at each theorem. -/
import Derived.Test.YtlnamjhgbdacbaaGreatG1
import Derived.Test.YtlnamjhgbdacbaaGreatG3
/- from: what it computes, and what is known in memory. -/
namespace Go.Proofs.YtlnamjhgbdacbaaGreat
open Go.RowKit Go.Shelf

structure Rst where
  ways : Int
  change : Int
  first : List Int
def stepR (cells : List Int) (nx acc : Rst) (l : List Int) : Rst :=
  if nx.ways == 0 then acc else
    if acc.ways == 0 || decide (nx.change + rowCost l cells < acc.change) then ⟨acc.ways + nx.ways, nx.change + rowCost l cells, l⟩ else ⟨acc.ways + nx.ways, acc.change, acc.first⟩
def rowAt (cs : List (List Int)) (left : Nat) : List Int := cs.getD (cs.length - left) []
def outsAt (b : Int) (cs : List (List Int)) (fs : List Fx) (left : Nat) : List (List Int) := outs b (rowAt cs left) fs ((cs.length - left : Nat) : Int) [] (rowAt cs left)
def spec (b : Int) (cs : List (List Int)) (fs : List Fx) : Nat → S4 → Rst
  | 0, s => if closesB b cs s then ⟨1, 0, []⟩ else ⟨0, 0, []⟩
  | k + 1, s => (outsAt b cs fs (k + 1)).foldl (fun acc l => stepR (rowAt cs (k + 1)) (spec b cs fs k (plusS s l)) acc l) ⟨0, 0, []⟩
/-- what the loop has got when j lists are done -/
def specTo (b : Int) (cs : List (List Int)) (fs : List Fx) (k : Nat) (s : S4) (j : Nat) : Rst :=
  ((outsAt b cs fs (k + 1)).take j).foldl (fun acc l => stepR (rowAt cs (k + 1)) (spec b cs fs k (plusS s l)) acc l) ⟨0, 0, []⟩
theorem specTo_zero (b : Int) (cs : List (List Int)) (fs : List Fx) (k : Nat) (s : S4) : specTo b cs fs k s 0 = ⟨0, 0, []⟩ := rfl
theorem specTo_succ {b : Int} {cs : List (List Int)} {fs : List Fx} {k : Nat} {s : S4} {j : Nat} {l : List Int} (h : (outsAt b cs fs (k + 1))[j]? = some l) :
    specTo b cs fs k s (j + 1) = stepR (rowAt cs (k + 1)) (spec b cs fs k (plusS s l)) (specTo b cs fs k s j) l := by
  obtain ⟨hj, rfl⟩ := List.getElem?_eq_some_iff.1 h
  unfold specTo
  rw [List.take_succ_eq_append_getElem hj, List.foldl_append]; rfl
theorem specTo_all (b : Int) (cs : List (List Int)) (fs : List Fx) (k : Nat) (s : S4) : specTo b cs fs k s (outsAt b cs fs (k + 1)).length = spec b cs fs (k + 1) s := by
  unfold specTo; rw [List.take_length]; rfl

/-- what is asked of a table and its fixes -/
structure TOk (b : Int) (cs : List (List Int)) (fs : List Fx) : Prop where
  okc : Okc b cs
  n : fs.length ≤ 100
  col : ∀ f ∈ fs, 0 ≤ f.col ∧ f.col < colsOf cs
theorem TOk.row {b : Int} {cs : List (List Int)} {fs : List Fx} (h : TOk b cs fs) {r : Nat} {xs : List Int} (hx : cs[r]? = some xs) : RowOk xs b fs := by
  have hm : xs ∈ cs := List.mem_of_getElem? hx
  have hl := h.okc.row xs hm
  exact ⟨h.okc.b1, h.okc.b2, by rw [hl]; exact h.okc.c1, by rw [hl]; exact h.okc.c2, h.okc.cell xs hm, h.n, fun f hf => by rw [hl]; exact h.col f hf⟩
theorem rowAt_get {cs : List (List Int)} {k : Nat} (hk : k + 1 ≤ cs.length) : cs[cs.length - (k + 1)]? = some (rowAt cs (k + 1)) := by
  unfold rowAt
  rw [List.getD, List.getElem?_eq_getElem (by omega)]; rfl

theorem cands_len {b : Int} : ∀ {xs : List Int}, ∀ l ∈ cands b xs, l.length = xs.length
  | [], l, h => by simp [cands] at h; simp [h]
  | n :: ns, l, h => by
    simp only [cands, List.mem_append, List.mem_map] at h
    rcases h with ⟨l', h', rfl⟩ | h
    · simp [cands_len l' h']
    · split at h
      · cases h
      · obtain ⟨l', h', rfl⟩ := List.mem_map.1 h
        simp [cands_len l' h']
theorem cands_bound {b : Int} (hb : 2 ≤ b) (hb2 : b ≤ 100) : ∀ {xs : List Int}, (∀ x ∈ xs, 0 ≤ x ∧ x ≤ 10000) → ∀ l ∈ cands b xs, ∀ x ∈ l, 0 ≤ x ∧ x ≤ 10100
  | [], _, l, h => by simp [cands] at h; simp [h]
  | n :: ns, hx, l, h => by
    have hn := hx n (by simp)
    have h1 := lowOf_bound hb hn.1
    have h2 := highOf_bound hb hn.1
    have ih : ∀ l' ∈ cands b ns, ∀ x ∈ l', 0 ≤ x ∧ x ≤ 10100 := cands_bound hb hb2 (fun x hx' => hx x (List.mem_cons_of_mem _ hx'))
    simp only [cands, List.mem_append, List.mem_map] at h
    rcases h with ⟨l', h', rfl⟩ | h
    · intro x hx
      rcases List.mem_cons.1 hx with rfl | hx
      · omega
      · exact ih l' h' x hx
    · split at h
      · cases h
      · obtain ⟨l', h', rfl⟩ := List.mem_map.1 h
        intro x hx
        rcases List.mem_cons.1 hx with rfl | hx
        · omega
        · exact ih l' h' x hx
theorem cands_count {b : Int} : ∀ (xs : List Int), (cands b xs).length ≤ 2 ^ xs.length
  | [] => by simp [cands]
  | n :: ns => by
    have ih := cands_count (b := b) ns
    simp only [cands, List.length_append, List.length_map, List.length_cons, Nat.pow_succ]
    split
    · simp; omega
    · simp; omega
theorem outs_mem {b : Int} {cells : List Int} {fs : List Fx} {row : Int} {l : List Int} (h : l ∈ outs b cells fs row [] cells) : l ∈ cands b cells ∧ testB b cells fs row l = true := by
  unfold outs at h
  rw [List.mem_filter] at h
  exact ⟨by simpa using h.1, h.2⟩
theorem outs_count {b : Int} {cells : List Int} {fs : List Fx} {row : Int} (h : cells.length ≤ 4) : (outs b cells fs row [] cells).length ≤ 16 := by
  unfold outs
  refine Nat.le_trans (List.length_filter_le _ _) ?_
  rw [List.length_map]
  exact Nat.le_trans (cands_count cells) (Nat.le_trans (Nat.pow_le_pow_right (by decide) h) (by decide))

/-- its numbers are small -/
structure Bnd (k : Nat) (x : Rst) : Prop where
  w1 : 0 ≤ x.ways
  w2 : x.ways ≤ 16 ^ k
  c1 : 0 ≤ x.change
  c2 : x.change ≤ 50000 * k
  len : x.first.length ≤ 4
  cell : ∀ v ∈ x.first, 0 ≤ v ∧ v ≤ 10100
section
variable {b : Int} {cs : List (List Int)} {fs : List Fx}
theorem outsAt_mem (ok : TOk b cs fs) {k : Nat} (hk : k + 1 ≤ cs.length) {l : List Int} (h : l ∈ outsAt b cs fs (k + 1)) : l.length = (rowAt cs (k + 1)).length ∧ l.length ≤ 4 ∧ (∀ x ∈ l, 0 ≤ x ∧ x ≤ 10100) := by
  have hr := ok.row (rowAt_get hk)
  have hm := (outs_mem h).1
  have hl := cands_len l hm
  exact ⟨hl, by rw [hl]; exact hr.l2, cands_bound hr.b1 hr.b2 hr.cell l hm⟩
theorem rowCost_bound (ok : TOk b cs fs) {k : Nat} (hk : k + 1 ≤ cs.length) {l : List Int} (h : l ∈ outsAt b cs fs (k + 1)) : 0 ≤ rowCost l (rowAt cs (k + 1)) ∧ rowCost l (rowAt cs (k + 1)) ≤ 50000 := by
  have hr := ok.row (rowAt_get hk)
  obtain ⟨h1, h2, h3⟩ := outsAt_mem ok hk h
  have := costTo_bounds (M := 10100) (by omega) h3 (fun x hx => by have := hr.cell x hx; omega) l.length
  unfold rowCost
  omega
theorem outsAt_count (ok : TOk b cs fs) {k : Nat} (hk : k + 1 ≤ cs.length) : (outsAt b cs fs (k + 1)).length ≤ 16 := outs_count (ok.row (rowAt_get hk)).l2
theorem Bnd.step {k j : Nat} {nx acc : Rst} {l cells : List Int} (h : Bnd k nx) (ha : 0 ≤ acc.ways ∧ acc.ways ≤ j * 16 ^ k) (hb : 0 ≤ acc.change ∧ acc.change ≤ 50000 * (k + 1 : Nat)) (hc : 0 ≤ rowCost l cells ∧ rowCost l cells ≤ 50000) :
    (0 ≤ (stepR cells nx acc l).ways ∧ (stepR cells nx acc l).ways ≤ (j + 1 : Nat) * 16 ^ k) ∧ (0 ≤ (stepR cells nx acc l).change ∧ (stepR cells nx acc l).change ≤ 50000 * (k + 1 : Nat)) := by
  have e : ((j + 1 : Nat) : Int) * 16 ^ k = j * 16 ^ k + 16 ^ k := by rw [Int.natCast_add, Int.add_mul]; simp
  have h0 : (0 : Int) ≤ 16 ^ k := Int.pow_nonneg (by decide)
  have h1 := h.w1; have h2 := h.w2; have h3 := h.c1; have h4 := h.c2
  rw [e]
  unfold stepR
  split
  · exact ⟨⟨ha.1, by omega⟩, hb⟩
  · split
    · exact ⟨⟨by show 0 ≤ acc.ways + nx.ways; omega, by show acc.ways + nx.ways ≤ _; omega⟩, ⟨by show 0 ≤ nx.change + rowCost l cells; omega, by show nx.change + rowCost l cells ≤ _; omega⟩⟩
    · exact ⟨⟨by show 0 ≤ acc.ways + nx.ways; omega, by show acc.ways + nx.ways ≤ _; omega⟩, hb⟩
theorem stepR_first {nx acc : Rst} {l cells : List Int} : (stepR cells nx acc l).first = acc.first ∨ (stepR cells nx acc l).first = l := by
  unfold stepR
  split
  · exact .inl rfl
  · split
    · exact .inr rfl
    · exact .inl rfl
/-- the numbers of the loop are small -/
structure BndJ (k j : Nat) (x : Rst) : Prop where
  w : 0 ≤ x.ways ∧ x.ways ≤ j * 16 ^ k
  c : 0 ≤ x.change ∧ x.change ≤ 50000 * (k + 1 : Nat)
  len : x.first.length ≤ 4
  cell : ∀ v ∈ x.first, 0 ≤ v ∧ v ≤ 10100
theorem BndJ.step {k j : Nat} {nx acc : Rst} {l cells : List Int} (h : BndJ k j acc) (hn : Bnd k nx) (hc : 0 ≤ rowCost l cells ∧ rowCost l cells ≤ 50000) (h2 : l.length ≤ 4) (h3 : ∀ x ∈ l, 0 ≤ x ∧ x ≤ 10100) : BndJ k (j + 1) (stepR cells nx acc l) := by
  have hst := hn.step h.w h.c hc
  refine ⟨hst.1, hst.2, ?_, ?_⟩
  · rcases stepR_first (cells := cells) (nx := nx) (acc := acc) (l := l) with h' | h' <;> rw [h']
    · exact h.len
    · exact h2
  · rcases stepR_first (cells := cells) (nx := nx) (acc := acc) (l := l) with h' | h' <;> rw [h']
    · exact h.cell
    · exact h3
theorem bnd_spec (ok : TOk b cs fs) : ∀ (k : Nat), k ≤ cs.length → ∀ s, Bnd k (spec b cs fs k s) ∧ (k + 1 ≤ cs.length → ∀ j, j ≤ (outsAt b cs fs (k + 1)).length → BndJ k j (specTo b cs fs k s j)) := by
  intro k
  induction k with
  | zero =>
    intro hk s
    have hB : ∀ s, Bnd 0 (spec b cs fs 0 s) := fun s => by
      unfold spec
      split <;> exact ⟨by decide, by decide, by decide, by decide, by decide, fun v hv => by cases hv⟩
    refine ⟨hB s, fun hk1 j => ?_⟩
    induction j with
    | zero => intro _; rw [specTo_zero]; exact ⟨⟨by simp, by simp⟩, ⟨by simp, by simp⟩, by simp, fun v hv => by cases hv⟩
    | succ j ihj =>
      intro hj
      have ih := ihj (by omega)
      have hl := List.getElem?_eq_getElem (l := outsAt b cs fs (0 + 1)) (i := j) (by omega)
      have hm := List.getElem_mem (l := outsAt b cs fs (0 + 1)) (n := j) (by omega)
      rw [specTo_succ hl]
      obtain ⟨h1, h2, h3⟩ := outsAt_mem ok hk1 hm
      exact ih.step (hB _) (rowCost_bound ok hk1 hm) h2 h3
  | succ k ihk =>
    intro hk s
    have hB : ∀ s, Bnd (k + 1) (spec b cs fs (k + 1) s) := fun s => by
      have := (ihk (by omega) s).2 hk _ (Nat.le_refl _)
      rw [specTo_all] at this
      have hc := outsAt_count ok hk
      have h0 : (0 : Int) ≤ 16 ^ k := Int.pow_nonneg (by decide)
      have hci : ((outsAt b cs fs (k + 1)).length : Int) ≤ 16 := by omega
      have hm := Int.mul_le_mul_of_nonneg_right hci h0
      refine ⟨this.w.1, ?_, this.c.1, this.c.2, this.len, this.cell⟩
      rw [Int.pow_succ, Int.mul_comm]
      exact Int.le_trans this.w.2 hm
    refine ⟨hB s, fun hk1 j => ?_⟩
    induction j with
    | zero => intro _; rw [specTo_zero]; exact ⟨⟨by simp, by simp⟩, ⟨by simp, by simp; omega⟩, by simp, fun v hv => by cases hv⟩
    | succ j ihj =>
      intro hj
      have ih := ihj (by omega)
      have hl := List.getElem?_eq_getElem (l := outsAt b cs fs (k + 1 + 1)) (i := j) (by omega)
      have hm := List.getElem_mem (l := outsAt b cs fs (k + 1 + 1)) (n := j) (by omega)
      rw [specTo_succ hl]
      obtain ⟨h1, h2, h3⟩ := outsAt_mem ok hk1 hm
      exact ih.step (hB _) (rowCost_bound ok hk1 hm) h2 h3
theorem plusS_small' {M : Int} {s : S4} {l : List Int} (hs : Small M s) (hl : ∀ x ∈ l, 0 ≤ x ∧ x ≤ 10100) : Small (M + 10100) (plusS s l) := by
  obtain ⟨h1, h2, h3, h4⟩ := hs
  have g := fun i => getD_small (by decide) hl i
  have g0 := g 0; have g1 := g 1; have g2 := g 2; have g3 := g 3
  refine ⟨⟨?_, ?_⟩, ⟨?_, ?_⟩, ⟨?_, ?_⟩, ⟨?_, ?_⟩⟩ <;> simp only [plusS] <;> omega
end

def restV (x : Rst) (A : Option Addr) (c : Nat) : Value := .agg #[.int .i64 x.ways, .int .i64 x.change, .slice A x.first.length c]
/-- the list of a result lies in memory, outside Y -/
structure Good (Y : Nat → Prop) (W : World) (x : Rst) (A : Option Addr) (c : Nat) : Prop where
  ints : IsInts W W.heap.size A x.first
  av : ∀ a, A = some a → (∃ cs, Blk W a.block 3 cs) ∧ ¬ Y a.block
  le : x.first.length ≤ c
  mx : c ≤ maxLen
  nil : A = none → c = 0
/-- the map holds what is true -/
def Memo (b : Int) (cs : List (List Int)) (fs : List Fx) (mb : Nat) (Y : Nat → Prop) (W : World) : Prop :=
  ∃ es clock, W.heap[mb]? = some (.map es clock) ∧ SpotKeys es ∧ ∀ e ∈ es.toList, ∃ k s A c, 1 ≤ k ∧ k ≤ cs.length ∧ e.key = spotV ((cs.length - k : Nat) : Int) s ∧ e.val = restV (spec b cs fs k s) A c ∧ Good Y W (spec b cs fs k s) A c

/-- what from reads, but for the map -/
structure FEnv (P n mb : Nat) (b : Int) (At : Option Addr) (ct : Nat) (cs : List (List Int)) (Af : Option Addr) (cf : Nat) (fs : List Fx) (W : World) : Prop where
  bp : Blk W P 143 #[.int .i64 b, .slice At cs.length ct, .slice Af fs.length cf, .map (some mb)]
  ic : IsRows W n At cs
  ix : IsFixes W n Af fs
  hn : n ≤ W.heap.size

section
variable {Y Z : Nat → Prop} {W W' : World} {x : Rst} {A : Option Addr} {c : Nat} {b : Int} {cs : List (List Int)} {fs : List Fx} {mb P n z : Nat} {At : Option Addr} {ct : Nat} {Af : Option Addr} {cf : Nat}
theorem Good.lt (h : Good Y W x A c) {a : Addr} (e : A = some a) : a.block < W.heap.size := by
  obtain ⟨⟨cs, hb⟩, _⟩ := h.av a e
  exact hb.lt
theorem Good.keep (h : Good Y W x A c) (hk : Keep Z W W') (hz : ∀ a, A = some a → ¬ Z a.block) : Good Y W' x A c := ⟨(hk.ints h.ints hz).more hk.size, fun a e => ⟨ex_of (h.av a e).1 fun _ hb => hk.blk hb (hz a e), (h.av a e).2⟩, h.le, h.mx, h.nil⟩
theorem Good.grown (h : Good Y W x A c) (hg : W.grownBy W' (some z)) (hz : Y z ∨ ∃ o, W.heap[z]? = some o ∧ o.isCells = false) : Good Y W' x A c := by
  rcases hz with hz | hz
  · exact h.keep (Z := fun k => k = z) (Keep.of_grown hg rfl) (fun a e he => (h.av a e).2 (by rw [he]; exact hz))
  · exact h.keep (Z := fun _ => False) (Keep.of_other hg hz) (fun _ _ h => h)
theorem Good.below (h : Good Y W x A c) (hb : Below W.heap.size W W') : Good Y W' x A c := h.keep (Keep.of_below (fun _ => False) hb) (fun _ _ h => h)
theorem Good.sub (h : Good Y W x A c) (hz : ∀ a, A = some a → ¬ Z a.block) : Good Z W x A c := ⟨h.ints, fun a e => ⟨(h.av a e).1, hz a e⟩, h.le, h.mx, h.nil⟩
/-- a block that holds no plain numbers is written -/
theorem Good.set_ (h : Good Y W x A c) {g : Nat} {t : TypeId} {us : Array Value} (hg : Blk W g t us) (ht : t ≠ 3) (hk : Keep (fun k => k = g) W W') : Good Y W' x A c :=
  h.keep hk (fun a e he => by
    obtain ⟨⟨cs, hb⟩, _⟩ := h.av a e
    rw [he] at hb
    exact Blk.ne_ hg hb ht rfl)
theorem Memo.grown (h : Memo b cs fs mb Y W) (hg : W.grownBy W' (some z)) (hm : z ≠ mb) (hz : Y z ∨ ∃ o, W.heap[z]? = some o ∧ o.isCells = false) : Memo b cs fs mb Y W' := by
  obtain ⟨es, clock, h1, h2, h3⟩ := h
  refine ⟨es, clock, (hg.block mb (Array.getElem?_eq_some_iff.1 h1).1 (fun e => hm (by cases e; rfl))).trans h1, h2, fun e he => ?_⟩
  obtain ⟨k, s, A, c, g1, g2, g3, g4, g5⟩ := h3 e he
  exact ⟨k, s, A, c, g1, g2, g3, g4, g5.grown hg hz⟩
theorem Memo.below (h : Memo b cs fs mb Y W) (hb : Below W.heap.size W W') : Memo b cs fs mb Y W' := by
  obtain ⟨es, clock, h1, h2, h3⟩ := h
  refine ⟨es, clock, (hb.block mb (Array.getElem?_eq_some_iff.1 h1).1).trans h1, h2, fun e he => ?_⟩
  obtain ⟨k, s, A, c, g1, g2, g3, g4, g5⟩ := h3 e he
  exact ⟨k, s, A, c, g1, g2, g3, g4, g5.below hb⟩
/-- a block that is new is one more to keep clear of -/
theorem Memo.fresh (h : Memo b cs fs mb Y W) (hz : ∀ k, Z k → Y k ∨ W.heap.size ≤ k) : Memo b cs fs mb Z W := by
  obtain ⟨es, clock, h1, h2, h3⟩ := h
  refine ⟨es, clock, h1, h2, fun e he => ?_⟩
  obtain ⟨k, s, A, c, g1, g2, g3, g4, g5⟩ := h3 e he
  refine ⟨k, s, A, c, g1, g2, g3, g4, g5.sub fun a e hza => ?_⟩
  rcases hz _ hza with h | h
  · exact (g5.av a e).2 h
  · have := g5.lt e; omega
theorem Memo.set_ (h : Memo b cs fs mb Y W) {g : Nat} {t : TypeId} {us : Array Value} (hg : Blk W g t us) (ht : t ≠ 3) (hw : W.grownBy W' (some g)) : Memo b cs fs mb Y W' := by
  obtain ⟨es, clock, h1, h2, h3⟩ := h
  refine ⟨es, clock, (hw.block mb (Array.getElem?_eq_some_iff.1 h1).1 (fun e => by
    cases e
    unfold Blk at hg
    rw [hg] at h1
    cases h1)).trans h1, h2, fun e he => ?_⟩
  obtain ⟨k, s, A, c, g1, g2, g3, g4, g5⟩ := h3 e he
  exact ⟨k, s, A, c, g1, g2, g3, g4, g5.set_ hg ht (Keep.of_grown hw rfl)⟩
theorem grown_of_set (W : World) (p : Addr) (u : Value) : W.grownBy (W.setCell p u) (some p.block) := ⟨rfl, rfl, rfl, by simp, fun k _ hn => Below.heap_setCell W p u k (fun e => hn (by rw [e]))⟩
theorem grown_one {A B C : World} {m : Option Nat} (h : A.grownBy B m) (k : B.grownBy C m) : A.grownBy C m :=
  ⟨k.os.trans h.os, k.tape.trans h.tape, k.output.trans h.output, Nat.le_trans h.size k.size, fun i hi hn => (k.block i (Nat.lt_of_lt_of_le hi h.size) hn).trans (h.block i hi hn)⟩
theorem act_eqd {a : Act} {n : Nat} {d : List Deferred} (hs : a.tmps.size = n) (hd : a.defers = d) : a = { tmps := ((List.range n).map fun i => a.tmps.getD i undef).toArray, defers := d } := by
  have := act_eq (a := { a with defers := [] }) hs rfl
  obtain ⟨t, d'⟩ := a
  simp only at hd
  subst hd
  injection this with h1
  congr 1
def set3 (W : World) (g : Nat) (u0 u1 u2 : Value) : World := ((W.setCell ⟨g, 0, none⟩ u0).setCell ⟨g, 1, none⟩ u1).setCell ⟨g, 2, none⟩ u2
theorem set3_grown (W : World) (g : Nat) (u0 u1 u2 : Value) : W.grownBy (set3 W g u0 u1 u2) (some g) :=
  grown_one (grown_one (grown_of_set W ⟨g, 0, none⟩ u0) (grown_of_set _ ⟨g, 1, none⟩ u1)) (grown_of_set _ ⟨g, 2, none⟩ u2)
theorem set3_blk {W : World} {g : Nat} {t : TypeId} {v0 v1 v2 : Value} (h : Blk W g t #[v0, v1, v2]) (u0 u1 u2 : Value) : Blk (set3 W g u0 u1 u2) g t #[u0, u1, u2] := ((h.set_ 0 u0).set_ 1 u1).set_ 2 u2
theorem FEnv.keep (h : FEnv P n mb b At ct cs Af cf fs W) (hk : Keep Z W W') (h1 : ¬ Z P) (h2 : ∀ k, Z k → n ≤ k) : FEnv P n mb b At ct cs Af cf fs W' :=
  ⟨hk.blk h.bp h1, hk.rows h.ic h2, hk.fixes h.ix h2, Nat.le_trans h.hn hk.size⟩
theorem FEnv.below (h : FEnv P n mb b At ct cs Af cf fs W) (hb : Below W.heap.size W W') : FEnv P n mb b At ct cs Af cf fs W' := h.keep (Keep.of_below (fun _ => False) hb) id (fun _ h => h.elim)
theorem FEnv.reads (h : FEnv P n mb b At ct cs Af cf fs W) : W.cell? ⟨P, 0, none⟩ = some (.int .i64 b) ∧ W.cell? ⟨P, 1, none⟩ = some (.slice At cs.length ct) ∧ W.cell? ⟨P, 2, none⟩ = some (.slice Af fs.length cf) ∧ W.cell? ⟨P, 3, none⟩ = some (.map (some mb)) := h.bp.c4
end
end Go.Proofs.YtlnamjhgbdacbaaGreat
/- from: behind the last row. -/
namespace Go.Proofs.YtlnamjhgbdacbaaGreat
open Go.RowKit Go.Shelf

set_option maxRecDepth 100000 in
set_option maxHeartbeats 4000000 in
theorem from_zero {P n mb : Nat} {b : Int} {At : Option Addr} {ct : Nat} {cs : List (List Int)} {Af : Option Addr} {cf : Nat} {fs : List Fx} {W : World} {s : S4} (he : FEnv P n mb b At ct cs Af cf fs W) (ok : TOk b cs fs) (hs : Small 200000 s) :
    Calls Tryz.prog 28 #[.pointer (some ⟨P, 0, none⟩), spotV (cs.length : Int) s] W fun e W' => e = .returned (restV (spec b cs fs 0 s) none 0) ∧ Below W.heap.size W W' := by
  have K := hid (show ∀ W1, Below W.heap.size W W1 → _ from fun W1 hb => closes_any b At ct cs (.slice Af fs.length cf) s W1 ok.okc ((he.below hb).ic.more (he.below hb).hn) hs)
  have HE := hid he
  obtain ⟨k0, k1, k2, k3⟩ := he.reads
  have hlt := he.bp.lt
  clear he ok hs
  cases hc : closesB b cs s
  all_goals
    rw [hc] at K
    have HC := hid hc
    clear hc
    go_enter Tryz.func28, Tryz.ntmps28
    simp only [spotV]
    go_wp2
    refine gen (p := Code.wp _ _ _ _) (fun W1 => Below W.heap.size W W1 ∧ Blk W1 W.heap.size 94 #[.pointer (some ⟨P, 0, none⟩)] ∧ Blk W1 (W.heap.size + 1) 100 #[.int .i64 (cs.length : Int), .int .i64 s.a, .int .i64 s.b, .int .i64 s.c, .int .i64 s.d] ∧ Blk W1 (W.heap.size + 1 + 1) 102 #[.int .i64 0, .int .i64 0, .slice none 0 0]) ⟨?_, ?_, ?_, ?_⟩ ?_
    · exact (((Below.refl _ _).alloc (Nat.le_refl _) _).alloc (by simp) _).alloc (by simp; omega) _
    · exact ((Blk.new _ _ _).alloc _).alloc _
    · have := (Blk.new (W.alloc (.cells #[.pointer (some ⟨P, 0, none⟩)] 94)) 100 #[.int .i64 (cs.length : Int), .int .i64 s.a, .int .i64 s.b, .int .i64 s.c, .int .i64 s.d]).alloc (.cells #[.int .i64 0, .int .i64 0, .slice none 0 0] 102)
      rwa [World.size_alloc] at this
    · have := Blk.new ((W.alloc (.cells #[.pointer (some ⟨P, 0, none⟩)] 94)).alloc (.cells #[.int .i64 (cs.length : Int), .int .i64 s.a, .int .i64 s.b, .int .i64 s.c, .int .i64 s.d] 100)) 102 #[.int .i64 0, .int .i64 0, .slice none 0 0]
      rwa [World.size_alloc, World.size_alloc] at this
    rintro W1 ⟨hb1, hw1, hs1, hr1⟩
    have HB1 := hid hb1
    have q1 := xt_c1 hw1
    obtain ⟨q2, q3, q4, q5, q6⟩ := xt_c5 hs1
    obtain ⟨q7, q8, q9, q10⟩ := xt_c4 (HE.out.below hb1).bp
    clear hb1 k0 k1 k2 k3
    refine wp_region_quiet_xt (by kernel_rfl) (by kernel_rfl) ?_
    repeat (go_big_quiet_step (fail))
    refine wpQuiet_nil ?_
    intro W2 hw2
    replace hw2 := of_xt hw2
    have hB2 := hid (HB1.out.trans (hw2.mono HB1.out.size))
    have hr2 := hr1.keep hw2
    clear q1 q2 q3 q4 q5 q6 q7 q8 q9 q10
    have q1 := xt_c1 (hw1.keep hw2)
    obtain ⟨q2, q3, q4, q5, q6⟩ := xt_c5 (hs1.keep hw2)
    obtain ⟨q7, q8, q9, q10⟩ := xt_c4 (HE.out.below hB2.out).bp
    have T := hid (show ∀ q, _ from fun q => K.out (xt W2 q) (hB2.out.trans ((below_xt W2 q).mono hB2.out.size)))
    clear hw2 hw1 hs1 hr1 HB1 K hlt
    go_wp2
    refine wp_region_quiet_xt (by kernel_rfl) (by kernel_rfl) ?_
    repeat (go_big_quiet_step ((go_at_call 59; with_reducible exact Calls.xt (T.out _))))
    refine wpQuiet_nil ?_
    intro W3 hw3
    replace hw3 := of_xt hw3
    have hr3 := hr2.keep hw3
    have hlt3 := hr3.lt
    obtain ⟨c0, c1, c2⟩ := hr3.c3
    have f0 := hr3.frozen 0
    have f1 := hr3.frozen 1
    have f2 := hr3.frozen 2
    clear q1 q2 q3 q4 q5 q6 q7 q8 q9 q10 T hr2
    have hB3 := hid (hB2.out.trans (hw3.mono hB2.out.size))
    clear hw3
    go_wp2
    have hfin : ∀ v : Int, Below W.heap.size W (((W3.setCell ⟨W.heap.size + 1 + 1, 0, none⟩ (.int .i64 v)).setCell ⟨W.heap.size + 1 + 1, 1, none⟩ (.int .i64 0)).setCell ⟨W.heap.size + 1 + 1, 2, none⟩ (.slice none 0 0)) :=
      fun v => ((hB3.out.setCell (by simp; omega) _).setCell (by simp; omega) _).setCell (by simp; omega) _
    first
      | exact bodyPost_ret (v := restV ⟨0, 0, []⟩ none 0) (by simp [results, Tryz.results28, go_sem, restV, c0, c1, c2]) rfl ⟨by rw [spec, HC.out]; rfl, hfin 0⟩
      | exact bodyPost_ret (v := restV ⟨1, 0, []⟩ none 0) (by simp [results, Tryz.results28, go_sem, restV, c0, c1, c2]) rfl ⟨by rw [spec, HC.out]; rfl, hfin 1⟩
end Go.Proofs.YtlnamjhgbdacbaaGreat
/- from: a spot that is known. -/
namespace Go.Proofs.YtlnamjhgbdacbaaGreat
open Go.RowKit Go.Shelf

theorem rest_info : (Tryz.prog.info? 102).map (fun i => i.zero) = some (some (.agg #[.int .i64 0, .int .i64 0, .slice none 0 0])) := by kernel_rfl
theorem rest_zero (W : World) : (zeroValue 102).run Tryz.prog W = .ok (.agg #[.int .i64 0, .int .i64 0, .slice none 0 0]) W := by
  obtain ⟨i, hi, hz⟩ := Option.map_eq_some_iff.1 rest_info
  simp [zeroValue, typeInfo, hi, hz, Result.andThen]

/-- one block is laid, then written -/
structure Ph5 (Val : Array Value → Prop) (w : World) (li : Array Bool) (W : World) : Prop where
  below : Below w.heap.size w W
  sz : li.getD 9 false = false → W.heap.size = w.heap.size
  blk : li.getD 9 false = true → ∃ u0 u1 u2, Blk W w.heap.size 102 #[u0, u1, u2]
  val : li.getD 10 false = true → ∃ u0 u1 u2, Blk W w.heap.size 102 #[u0, u1, u2] ∧ Val #[u0, u1, u2]
section
variable {Val : Array Value → Prop} {w W : World} {li : Array Bool} {u0 u1 u2 v0 v1 v2 : Value}
theorem Ph5.start (w : World) {n : Nat} (_ : 11 ≤ n) : Ph5 Val w (Array.replicate n false) { w with drawn := w.drawn + 1 } :=
  ⟨⟨rfl, rfl, rfl, Nat.le_refl _, fun _ _ => rfl⟩, fun _ => rfl, (by rw [getD_replicate_false]; intro h; cases h), (by rw [getD_replicate_false]; intro h; cases h)⟩
theorem Ph5.other (h : Ph5 Val w li W) {i : Nat} (h9 : i ≠ 9) (h10 : i ≠ 10) : Ph5 Val w (li.setIfInBounds i true) W :=
  ⟨h.below, by rw [getD_set_oth h9]; exact h.sz, by rw [getD_set_oth h9]; exact h.blk, by rw [getD_set_oth h10]; exact h.val⟩
theorem Ph5.alloc (h : Ph5 Val w li W) (h9 : li.getD 9 false = false) (hs : 9 < li.size) : Ph5 Val w (li.setIfInBounds 9 true) (W.alloc (.cells #[v0, v1, v2] 102)) := by
  have hz := h.sz h9
  have hb := Blk.new W 102 #[v0, v1, v2]
  rw [hz] at hb
  refine ⟨h.below.alloc (by omega) _, (by rw [getD_set_eq hs]; intro e; cases e), fun _ => ⟨_, _, _, hb⟩, ?_⟩
  rw [getD_set_oth (by decide)]
  intro h10
  obtain ⟨a, b, c, hb', _⟩ := h.val h10
  have := hb'.lt
  omega
theorem Ph5.store (h : Ph5 Val w li W) (h9 : li.getD 9 false = true) (hb : Blk W w.heap.size 102 #[u0, u1, u2]) (hv : Val #[v0, v1, v2]) :
    Ph5 Val w (li.setIfInBounds 10 true) (((W.setCell ⟨w.heap.size, 0, none⟩ v0).setCell ⟨w.heap.size, 1, none⟩ v1).setCell ⟨w.heap.size, 2, none⟩ v2) := by
  have hb2 := ((hb.set_ 0 v0).set_ 1 v1).set_ 2 v2
  refine ⟨((h.below.setCell (Nat.le_refl _) _).setCell (Nat.le_refl _) _).setCell (Nat.le_refl _) _, (by rw [getD_set_oth (by decide), h9]; intro e; cases e), fun _ => ⟨_, _, _, hb2⟩, fun _ => ⟨_, _, _, hb2, hv⟩⟩
end

set_option maxRecDepth 100000 in
set_option maxHeartbeats 4000000 in
theorem from_hit {P n mb : Nat} {b : Int} {At : Option Addr} {ct : Nat} {cs : List (List Int)} {Af : Option Addr} {cf : Nat} {fs : List Fx} {W : World} {s : S4} {r : Nat} {es : Array MapEntry} {clock : Nat} (he : FEnv P n mb b At ct cs Af cf fs W) (ok : TOk b cs fs) (hr : r < cs.length) (hs : Small 200000 s) (hm : W.heap[mb]? = some (.map es clock)) (hk : SpotKeys es)
    (hg : ∀ e ∈ es.toList, ∃ k s A c, 1 ≤ k ∧ k ≤ cs.length ∧ e.key = spotV ((cs.length - k : Nat) : Int) s ∧ e.val = restV (spec b cs fs k s) A c) (hin : ∃ x ∈ es.toList, x.key = spotV r s) :
    Calls Tryz.prog 28 #[.pointer (some ⟨P, 0, none⟩), spotV (r : Int) s] W fun e W' => (∃ x ∈ es.toList, x.key = spotV r s ∧ e = .returned x.val) ∧ Below W.heap.size W W' := by
  have HE := hid he
  obtain ⟨k0, k1, k2, k3⟩ := he.reads
  have hlt := he.bp.lt
  have hne : ((r : Int) == (cs.length : Int)) = false := by simp; omega
  have hkey := spot_key (r := (r : Int)) (s := s) ⟨by omega, by have := ok.okc.n2; omega⟩ (hs.mono (by decide))
  have hml : mb < W.heap.size := (Array.getElem?_eq_some_iff.1 hm).1
  have H0 := hid (And.intro hml (And.intro hm (And.intro hk (And.intro hkey hin))))
  have HG := hid (show ∀ x ∈ es.toList, ∃ k s A c, 1 ≤ k ∧ k ≤ cs.length ∧ x.key = spotV ((cs.length - k : Nat) : Int) s ∧ x.val = restV (spec b cs fs k s) A c ∧ True from fun x hx => by
    obtain ⟨k, s, A, c, g1, g2, g3, g4⟩ := hg x hx; exact ⟨k, s, A, c, g1, g2, g3, g4, trivial⟩)
  have HZ := hid (fun W => rest_zero W)
  clear he ok hs hm hk hg hin hkey hml hr
  go_enter Tryz.func28, Tryz.ntmps28
  simp only [spotV]
  go_wp2
  refine gen (p := Code.wp _ _ _ _) (fun W1 => Below W.heap.size W W1 ∧ Blk W1 W.heap.size 94 #[.pointer (some ⟨P, 0, none⟩)] ∧ Blk W1 (W.heap.size + 1) 100 #[.int .i64 (r : Int), .int .i64 s.a, .int .i64 s.b, .int .i64 s.c, .int .i64 s.d] ∧ Blk W1 (W.heap.size + 1 + 1) 102 #[.int .i64 0, .int .i64 0, .slice none 0 0]) ⟨?_, ?_, ?_, ?_⟩ ?_
  · exact (((Below.refl _ _).alloc (Nat.le_refl _) _).alloc (by simp) _).alloc (by simp; omega) _
  · exact ((Blk.new _ _ _).alloc _).alloc _
  · have := (Blk.new (W.alloc (.cells #[.pointer (some ⟨P, 0, none⟩)] 94)) 100 #[.int .i64 (r : Int), .int .i64 s.a, .int .i64 s.b, .int .i64 s.c, .int .i64 s.d]).alloc (.cells #[.int .i64 0, .int .i64 0, .slice none 0 0] 102)
    rwa [World.size_alloc] at this
  · have := Blk.new ((W.alloc (.cells #[.pointer (some ⟨P, 0, none⟩)] 94)).alloc (.cells #[.int .i64 (r : Int), .int .i64 s.a, .int .i64 s.b, .int .i64 s.c, .int .i64 s.d] 100)) 102 #[.int .i64 0, .int .i64 0, .slice none 0 0]
    rwa [World.size_alloc, World.size_alloc] at this
  rintro W1 ⟨hb1, hw1, hs1, hr1⟩
  have HB1 := hid hb1
  have q1 := xt_c1 hw1
  obtain ⟨q2, q3, q4, q5, q6⟩ := xt_c5 hs1
  obtain ⟨q7, q8, q9, q10⟩ := xt_c4 (HE.out.below hb1).bp
  clear hb1 k0 k1 k2 k3 hlt
  refine wp_region_quiet_xt (by kernel_rfl) (by kernel_rfl) ?_
  repeat (go_big_quiet_step (fail))
  refine wpQuiet_nil ?_
  intro W2 hw2
  replace hw2 := of_xt hw2
  clear q1 q2 q3 q4 q5 q6 q7 q8 q9 q10
  go_wp2
  refine gen (p := Code.wp _ _ _ _) (fun W3 => Below W.heap.size W W3 ∧ Blk W3 W.heap.size 94 #[.pointer (some ⟨P, 0, none⟩)] ∧ Blk W3 (W.heap.size + 1) 100 #[.int .i64 (r : Int), .int .i64 s.a, .int .i64 s.b, .int .i64 s.c, .int .i64 s.d] ∧ Blk W3 (W.heap.size + 1 + 1) 102 #[.int .i64 0, .int .i64 0, .slice none 0 0]) ⟨HB1.out.trans (hw2.mono HB1.out.size), hw1.keep hw2, hs1.keep hw2, hr1.keep hw2⟩ ?_
  clear hw2 hw1 hs1 hr1 HB1
  clear W2 W1
  rintro W1 ⟨hb1, hw1, hs1, hr1⟩
  have HM := hid (show mb < W1.heap.size ∧ W1.heap[mb]? = some (.map es clock) ∧ SpotKeys es ∧ (∃ l, keyOf Tryz.prog 100 (spotV r s) = some l) ∧ (∃ x ∈ es.toList, x.key = spotV r s) from
    ⟨Nat.lt_of_lt_of_le H0.out.1 hb1.size, (hb1.block mb H0.out.1).trans H0.out.2.1, H0.out.2.2.1, H0.out.2.2.2.1, H0.out.2.2.2.2⟩)
  clear H0
  have HQ := hid (show ∀ W2, Below W1.heap.size W1 W2 → W2.cell? ⟨W.heap.size, 0, none⟩ = some (.pointer (some ⟨P, 0, none⟩)) ∧ W2.cell? ⟨W.heap.size + 1, 0, none⟩ = some (.int .i64 (r : Int)) ∧ W2.cell? ⟨W.heap.size + 1, 1, none⟩ = some (.int .i64 s.a) ∧ W2.cell? ⟨W.heap.size + 1, 2, none⟩ = some (.int .i64 s.b) ∧ W2.cell? ⟨W.heap.size + 1, 3, none⟩ = some (.int .i64 s.c) ∧ W2.cell? ⟨W.heap.size + 1, 4, none⟩ = some (.int .i64 s.d) ∧ W2.cell? ⟨P, 3, none⟩ = some (.map (some mb)) from
    fun W2 hb => ⟨(hw1.keep hb).c1, (hs1.keep hb).c5.1, (hs1.keep hb).c5.2.1, (hs1.keep hb).c5.2.2.1, (hs1.keep hb).c5.2.2.2.1, (hs1.keep hb).c5.2.2.2.2, (((HE.out.below hb1).below hb).bp).c4.2.2.2⟩)
  refine (wpIn_wide (n := 0)).1 ?_
  refine wpIn_region_each 11 (fun i v _ => match i with | 0 => v = .pointer (some ⟨P, 0, none⟩) | 1 => v = .pointer (some ⟨P, 0, none⟩) | 2 => v = .pointer (some ⟨P, 3, none⟩) | 3 => v = .map (some mb) | 4 => v = .agg #[.int .i64 (r : Int), .int .i64 s.a, .int .i64 s.b, .int .i64 s.c, .int .i64 s.d] | 5 => ∃ x ∈ es.toList, x.key = spotV r s ∧ v = .tuple #[x.val, .bool true] | 6 => ∃ x ∈ es.toList, x.key = spotV r s ∧ v = .tuple #[x.val, .bool true] | 7 => ∃ x ∈ es.toList, x.key = spotV r s ∧ v = x.val | 8 => v = .bool true | 9 => v = .pointer (some ⟨W1.heap.size, 0, none⟩) | _ => True) (fun _ _ => True) (Ph5 (fun cells => ∃ x ∈ es.toList, x.key = spotV r s ∧ x.val = .agg cells) W1) (by kernel_rfl) (by kernel_rfl) ?_ (fun _ _ => trivial) trivial (Ph5.start _ (by decide)) (by kernel_rfl) ?_ ?_
  · intro i v _ _ _ h; exact h
  · refine ⟨?_, ?_, ?_, ?_, ?_, ?_, ?_, ?_, ?_, ?_, ?_, trivial⟩
    · -- 0: Op.load 83 t2
      intro li a1 W2 hA K hK
      have e2 := hA.par 2 (by kernel_rfl)
      obtain ⟨q1, q2, q3, q4, q5, q6, q7⟩ := HQ.out W2 hA.ph.below
      refine opStep none 0 rfl rfl (fun c hc => by cases hc) ?_
      go_simp
      exact hK _ _ rfl trivial (hA.ph.other (by decide) (by decide))
    · -- 1: Op.nilCheck t30
      intro li a1 W2 hA K hK
      have e30 : a1.tmps.getD 30 undef = .pointer (some ⟨P, 0, none⟩) := hA.val 0 30 (by kernel_rfl) (by kernel_rfl)
      obtain ⟨q1, q2, q3, q4, q5, q6, q7⟩ := HQ.out W2 hA.ph.below
      refine opStep none 0 rfl rfl (fun c hc => by cases hc) ?_
      go_simp
      exact hK _ _ rfl trivial (hA.ph.other (by decide) (by decide))
    · -- 2: Op.fieldAddr 124 t31 1
      intro li a1 W2 hA K hK
      have e31 : a1.tmps.getD 31 undef = .pointer (some ⟨P, 0, none⟩) := hA.val 1 31 (by kernel_rfl) (by kernel_rfl)
      obtain ⟨q1, q2, q3, q4, q5, q6, q7⟩ := HQ.out W2 hA.ph.below
      refine opStep none 0 rfl rfl (fun c hc => by cases hc) ?_
      go_simp
      exact hK _ _ rfl trivial (hA.ph.other (by decide) (by decide))
    · -- 3: Op.load 122 t32
      intro li a1 W2 hA K hK
      have e32 : a1.tmps.getD 32 undef = .pointer (some ⟨P, 3, none⟩) := hA.val 2 32 (by kernel_rfl) (by kernel_rfl)
      obtain ⟨q1, q2, q3, q4, q5, q6, q7⟩ := HQ.out W2 hA.ph.below
      refine opStep none 0 rfl rfl (fun c hc => by cases hc) ?_
      go_simp
      exact hK _ _ rfl trivial (hA.ph.other (by decide) (by decide))
    · -- 4: Op.load 89 t3
      intro li a1 W2 hA K hK
      have e3 := hA.par 3 (by kernel_rfl)
      obtain ⟨q1, q2, q3, q4, q5, q6, q7⟩ := HQ.out W2 hA.ph.below
      refine opStep none 0 rfl rfl (fun c hc => by cases hc) ?_
      go_simp
      exact hK _ _ rfl trivial (hA.ph.other (by decide) (by decide))
    · -- 5: Op.lookup 122 t33 t34 true
      intro li a1 W2 hA K hK
      have e33 : a1.tmps.getD 33 undef = .map (some mb) := hA.val 3 33 (by kernel_rfl) (by kernel_rfl)
      have e34 : a1.tmps.getD 34 undef = .agg #[.int .i64 (r : Int), .int .i64 s.a, .int .i64 s.b, .int .i64 s.c, .int .i64 s.d] := hA.val 4 34 (by kernel_rfl) (by kernel_rfl)
      obtain ⟨q1, q2, q3, q4, q5, q6, q7⟩ := HQ.out W2 hA.ph.below
      -- raw
      have hq := (hA.ph.below.block mb HM.out.1).trans HM.out.2.1
      rcases spot_look (t := 141) true Tryz.underlying141 (HZ.out _) hq HM.out.2.2.1 HM.out.2.2.2.1 with ⟨_, hno⟩ | ⟨x, hx, hk, hr⟩
      · exact absurd HM.out.2.2.2.2 (fun ⟨x, hx, hk⟩ => hno x hx hk)
      · refine opValue (v := .tuple #[x.val, .bool true]) none 0 rfl rfl (fun c hc => by cases hc) (W' := W2) (by
          have hr' : (Instr.lookup 141 (.map (some mb)) (.agg #[.int .i64 (r : Int), .int .i64 s.a, .int .i64 s.b, .int .i64 s.c, .int .i64 s.d]) true).run Tryz.prog W2 = _ := hr
          simp [execOp, Act.eval, e33, e34, hr', Result.andThen]) ?_
        exact hK _ _ ⟨x, hx, hk, rfl⟩ trivial (hA.ph.other (by decide) (by decide))
    · -- 6: Op.move t35
      intro li a1 W2 hA K hK
      have e35 := hA.val 5 35 (by kernel_rfl) (by kernel_rfl)
      obtain ⟨q1, q2, q3, q4, q5, q6, q7⟩ := HQ.out W2 hA.ph.below
      -- raw
      obtain ⟨x, hx, hk, e35'⟩ := e35
      refine opStep none 0 rfl rfl (fun c hc => by cases hc) ?_
      go_simp
      exact hK _ _ ⟨x, hx, hk, rfl⟩ trivial (hA.ph.other (by decide) (by decide))
    · -- 7: Op.extract t29 0
      intro li a1 W2 hA K hK
      have e29 := hA.val 6 29 (by kernel_rfl) (by kernel_rfl)
      obtain ⟨q1, q2, q3, q4, q5, q6, q7⟩ := HQ.out W2 hA.ph.below
      -- raw
      obtain ⟨x, hx, hk, e29'⟩ := e29
      refine opStep none 0 rfl rfl (fun c hc => by cases hc) ?_
      go_simp
      exact hK _ _ ⟨x, hx, hk, rfl⟩ trivial (hA.ph.other (by decide) (by decide))
    · -- 8: Op.extract t29 1
      intro li a1 W2 hA K hK
      have e29 := hA.val 6 29 (by kernel_rfl) (by kernel_rfl)
      obtain ⟨q1, q2, q3, q4, q5, q6, q7⟩ := HQ.out W2 hA.ph.below
      -- raw
      obtain ⟨x, hx, hk, e29'⟩ := e29
      refine opStep none 0 rfl rfl (fun c hc => by cases hc) ?_
      go_simp
      exact hK _ _ rfl trivial (hA.ph.other (by decide) (by decide))
    · -- 9: Op.alloc 91
      intro li a1 W2 hA K hK
      obtain ⟨q1, q2, q3, q4, q5, q6, q7⟩ := HQ.out W2 hA.ph.below
      refine opStep none 0 rfl rfl (fun c hc => by cases hc) ?_
      go_simp
      have hz := hA.ph.sz hA.new
      rw [hz]
      exact hK _ _ rfl trivial (hA.ph.alloc hA.new (by rw [hA.lsize]; decide))
    · -- 10: Op.store 91 t5 t36
      intro li a1 W2 hA K hK
      have e5 : a1.tmps.getD 5 undef = .pointer (some ⟨W1.heap.size, 0, none⟩) := hA.val 9 5 (by kernel_rfl) (by kernel_rfl)
      have e36 := hA.val 7 36 (by kernel_rfl) (by kernel_rfl)
      obtain ⟨q1, q2, q3, q4, q5, q6, q7⟩ := HQ.out W2 hA.ph.below
      -- raw
      obtain ⟨x, hx, hk, e36'⟩ := e36
      obtain ⟨kx, sx, Ax, cx, g1, g2, g3, g4, g5⟩ := HG.out x hx
      have hl9 := hA.has 9 (by kernel_rfl)
      obtain ⟨u0, u1, u2, hb2⟩ := hA.ph.blk hl9
      obtain ⟨c0, c1, c2⟩ := hb2.c3
      have f0 := hb2.frozen 0
      have f1 := hb2.frozen 1
      have f2 := hb2.frozen 2
      rw [g4, restV] at e36'
      refine opStep none 0 rfl rfl (fun c hc => by cases hc) ?_
      go_simp
      refine hK undef _ trivial trivial (hA.ph.store (Val := fun cells => ∃ x ∈ es.toList, x.key = spotV r s ∧ x.val = .agg cells) hl9 hb2 ?_)
      exact ⟨x, hx, hk, by rw [g4, restV]⟩
  · intro li a1 W2 hD
    have e37 : a1.tmps.getD 37 undef = .bool true := hD.val 8 37 (by kernel_rfl) (by kernel_rfl)
    have e4 := hD.par 4 (by kernel_rfl)
    have e5 : a1.tmps.getD 5 undef = .pointer (some ⟨W1.heap.size, 0, none⟩) := hD.val 9 5 (by kernel_rfl) (by kernel_rfl)
    have hs : a1.tmps.size = 92 := hD.size
    have hd : a1.defers = [] := hD.defers
    refine tail_val (i := 11) (W' := W2) (v := .bool true) none 0 rfl rfl rfl (fun c hc => by cases hc) (by go_simp) (by rw [hs]; decide) ?_
    intro a4 s4 d4 f6 o4
    obtain ⟨u0, u1, u2, hb5, x, hx, hk, hv⟩ := hD.ph.val (hD.all 10 (by decide))
    have hr2 := hr1.keep hD.ph.below
    have HB2 := hid (hb1.trans (hD.ph.below.mono hb1.size))
    have f4 := (o4 4 (by decide)).trans e4
    have f5 := (o4 5 (by decide)).trans e5
    replace hs := s4.trans hs
    replace hd := d4.trans hd
    refine wpListIn_nil ?_
    have e := act_eq hs hd
    obtain ⟨g, hg⟩ : ∃ g : Nat → Value, g = fun i => a4.tmps.getD i undef := ⟨_, rfl⟩
    rw [← hg] at e
    have g4 : g 4 = .pointer (some ⟨W.heap.size + 1 + 1, 0, none⟩) := by rw [hg]; exact f4
    have g5 : g 5 = .pointer (some ⟨W1.heap.size, 0, none⟩) := by rw [hg]; exact f5
    have g6 : g 6 = .bool true := by rw [hg]; exact f6
    rw [e]
    have hlt2 := hr2.lt
    obtain ⟨c0, c1, c2⟩ := hr2.c3
    have fr0 := hr2.frozen 0
    have fr1 := hr2.frozen 1
    have fr2 := hr2.frozen 2
    obtain ⟨d0, d1, d2⟩ := hb5.c3
    obtain ⟨kx, sx, Ax, cx, _, _, _, gx, _⟩ := HG.out x hx
    rw [hv, restV] at gx
    injection gx with gx
    simp only [Array.mk.injEq, List.cons.injEq, and_true] at gx
    obtain ⟨rfl, rfl, rfl⟩ := gx
    have HX := hid (show ∃ x ∈ es.toList, x.key = spotV r s ∧ x.val = .agg #[.int .i64 (spec b cs fs kx sx).ways, .int .i64 (spec b cs fs kx sx).change, .slice Ax (spec b cs fs kx sx).first.length cx] from ⟨x, hx, hk, hv⟩)
    clear hs hd e s4 d4 f6 o4 f4 f5 e4 e5 e37 hg hD hb5 hx hk hv HE HG HZ HM HQ hr1 hb1 hw1 hs1 hne hr2
    simp only [List.range, List.range.loop, List.map_cons, List.map_nil]
    simp only [g4, g5, g6]
    clear g4 g5 g6
    generalize spec b cs fs kx sx = sp at *
    go_wp2
    obtain ⟨x, hx, hk, hv⟩ := HX.out
    refine bodyPost_ret (v := .agg #[.int .i64 sp.ways, .int .i64 sp.change, .slice Ax sp.first.length cx]) (by simp [results, Tryz.results28, go_sem, c0, c1, c2]) rfl ⟨⟨x, hx, hk, by rw [hv]⟩, ?_⟩
    exact ((HB2.out.setCell (by simp; omega) _).setCell (by simp; omega) _).setCell (by simp; omega) _
end Go.Proofs.YtlnamjhgbdacbaaGreat
