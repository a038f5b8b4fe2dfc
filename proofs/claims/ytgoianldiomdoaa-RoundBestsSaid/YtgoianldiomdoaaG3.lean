/- The search for the best rounding: what from, work, Ways and Best compute. Conditions stand at each theorem. -/
import Derived.Test.YtgoianldiomdoaaG1
import Derived.Test.YtgoianldiomdoaaG2
/- from: what it computes, and what is known in memory. -/
namespace Go.Proofs.Ytgoianldiomdoaa
open Go.RowKit Go.Shelf

structure Rst where
  ways : Int
  change : Int
  first : List Int
def stepR (cells : List Int) (nx acc : Rst) (l : List Int) : Rst :=
  if nx.ways == 0 then acc else
    if acc.ways == 0 || decide (nx.change + rowCost l cells < acc.change) then ⟨acc.ways + nx.ways, nx.change + rowCost l cells, l⟩ else ⟨acc.ways + nx.ways, acc.change, acc.first⟩
def rowAt (cs : List (List Int)) (left : Nat) : List Int := cs.getD (cs.length - left) []
def outsAt (b : Int) (cs : List (List Int)) (fs : List Fx) (left : Nat) : List (List Int) := outs b (rowAt cs left) fs ((cs.length - left : Nat) : Int) [] (rowAt cs left)
def spec (b : Int) (cs : List (List Int)) (fs : List Fx) : Nat → S4 → Rst
  | 0, s => if closesB b cs s then ⟨1, 0, []⟩ else ⟨0, 0, []⟩
  | k + 1, s => (outsAt b cs fs (k + 1)).foldl (fun acc l => stepR (rowAt cs (k + 1)) (spec b cs fs k (plusS s l)) acc l) ⟨0, 0, []⟩
/-- what the loop has got when j lists are done -/
def specTo (b : Int) (cs : List (List Int)) (fs : List Fx) (k : Nat) (s : S4) (j : Nat) : Rst :=
  ((outsAt b cs fs (k + 1)).take j).foldl (fun acc l => stepR (rowAt cs (k + 1)) (spec b cs fs k (plusS s l)) acc l) ⟨0, 0, []⟩
theorem specTo_zero (b : Int) (cs : List (List Int)) (fs : List Fx) (k : Nat) (s : S4) : specTo b cs fs k s 0 = ⟨0, 0, []⟩ := rfl
theorem specTo_succ {b : Int} {cs : List (List Int)} {fs : List Fx} {k : Nat} {s : S4} {j : Nat} {l : List Int} (h : (outsAt b cs fs (k + 1))[j]? = some l) :
    specTo b cs fs k s (j + 1) = stepR (rowAt cs (k + 1)) (spec b cs fs k (plusS s l)) (specTo b cs fs k s j) l := by
  obtain ⟨hj, rfl⟩ := List.getElem?_eq_some_iff.1 h
  unfold specTo
  rw [List.take_succ_eq_append_getElem hj, List.foldl_append]; rfl
theorem specTo_all (b : Int) (cs : List (List Int)) (fs : List Fx) (k : Nat) (s : S4) : specTo b cs fs k s (outsAt b cs fs (k + 1)).length = spec b cs fs (k + 1) s := by
  unfold specTo; rw [List.take_length]; rfl

/-- what is asked of a table and its fixes -/
structure TOk (b : Int) (cs : List (List Int)) (fs : List Fx) : Prop where
  okc : Okc b cs
  n : fs.length ≤ 100
  col : ∀ f ∈ fs, 0 ≤ f.col ∧ f.col < colsOf cs
theorem TOk.row {b : Int} {cs : List (List Int)} {fs : List Fx} (h : TOk b cs fs) {r : Nat} {xs : List Int} (hx : cs[r]? = some xs) : RowOk xs b fs := by
  have hm : xs ∈ cs := List.mem_of_getElem? hx
  have hl := h.okc.row xs hm
  exact ⟨h.okc.b1, h.okc.b2, by rw [hl]; exact h.okc.c1, by rw [hl]; exact h.okc.c2, h.okc.cell xs hm, h.n, fun f hf => by rw [hl]; exact h.col f hf⟩
theorem rowAt_get {cs : List (List Int)} {k : Nat} (hk : k + 1 ≤ cs.length) : cs[cs.length - (k + 1)]? = some (rowAt cs (k + 1)) := by
  unfold rowAt
  rw [List.getD, List.getElem?_eq_getElem (by omega)]; rfl

theorem cands_len {b : Int} : ∀ {xs : List Int}, ∀ l ∈ cands b xs, l.length = xs.length
  | [], l, h => by simp [cands] at h; simp [h]
  | n :: ns, l, h => by
    simp only [cands, List.mem_append, List.mem_map] at h
    rcases h with ⟨l', h', rfl⟩ | h
    · simp [cands_len l' h']
    · split at h
      · cases h
      · obtain ⟨l', h', rfl⟩ := List.mem_map.1 h
        simp [cands_len l' h']
theorem cands_bound {b : Int} (hb : 2 ≤ b) (hb2 : b ≤ 100) : ∀ {xs : List Int}, (∀ x ∈ xs, 0 ≤ x ∧ x ≤ 10000) → ∀ l ∈ cands b xs, ∀ x ∈ l, 0 ≤ x ∧ x ≤ 10100
  | [], _, l, h => by simp [cands] at h; simp [h]
  | n :: ns, hx, l, h => by
    have hn := hx n (by simp)
    have h1 := lowOf_bound hb hn.1
    have h2 := highOf_bound hb hn.1
    have ih : ∀ l' ∈ cands b ns, ∀ x ∈ l', 0 ≤ x ∧ x ≤ 10100 := cands_bound hb hb2 (fun x hx' => hx x (List.mem_cons_of_mem _ hx'))
    simp only [cands, List.mem_append, List.mem_map] at h
    rcases h with ⟨l', h', rfl⟩ | h
    · intro x hx
      rcases List.mem_cons.1 hx with rfl | hx
      · omega
      · exact ih l' h' x hx
    · split at h
      · cases h
      · obtain ⟨l', h', rfl⟩ := List.mem_map.1 h
        intro x hx
        rcases List.mem_cons.1 hx with rfl | hx
        · omega
        · exact ih l' h' x hx
theorem cands_count {b : Int} : ∀ (xs : List Int), (cands b xs).length ≤ 2 ^ xs.length
  | [] => by simp [cands]
  | n :: ns => by
    have ih := cands_count (b := b) ns
    simp only [cands, List.length_append, List.length_map, List.length_cons, Nat.pow_succ]
    split
    · simp; omega
    · simp; omega
theorem outs_mem {b : Int} {cells : List Int} {fs : List Fx} {row : Int} {l : List Int} (h : l ∈ outs b cells fs row [] cells) : l ∈ cands b cells ∧ testB b cells fs row l = true := by
  unfold outs at h
  rw [List.mem_filter] at h
  exact ⟨by simpa using h.1, h.2⟩
theorem outs_count {b : Int} {cells : List Int} {fs : List Fx} {row : Int} (h : cells.length ≤ 4) : (outs b cells fs row [] cells).length ≤ 16 := by
  unfold outs
  refine Nat.le_trans (List.length_filter_le _ _) ?_
  rw [List.length_map]
  exact Nat.le_trans (cands_count cells) (Nat.le_trans (Nat.pow_le_pow_right (by decide) h) (by decide))

/-- its numbers are small -/
structure Bnd (k : Nat) (x : Rst) : Prop where
  w1 : 0 ≤ x.ways
  w2 : x.ways ≤ 16 ^ k
  c1 : 0 ≤ x.change
  c2 : x.change ≤ 50000 * k
  len : x.first.length ≤ 4
  cell : ∀ v ∈ x.first, 0 ≤ v ∧ v ≤ 10100
section
variable {b : Int} {cs : List (List Int)} {fs : List Fx}
theorem outsAt_mem (ok : TOk b cs fs) {k : Nat} (hk : k + 1 ≤ cs.length) {l : List Int} (h : l ∈ outsAt b cs fs (k + 1)) : l.length = (rowAt cs (k + 1)).length ∧ l.length ≤ 4 ∧ (∀ x ∈ l, 0 ≤ x ∧ x ≤ 10100) := by
  have hr := ok.row (rowAt_get hk)
  have hm := (outs_mem h).1
  have hl := cands_len l hm
  exact ⟨hl, by rw [hl]; exact hr.l2, cands_bound hr.b1 hr.b2 hr.cell l hm⟩
theorem rowCost_bound (ok : TOk b cs fs) {k : Nat} (hk : k + 1 ≤ cs.length) {l : List Int} (h : l ∈ outsAt b cs fs (k + 1)) : 0 ≤ rowCost l (rowAt cs (k + 1)) ∧ rowCost l (rowAt cs (k + 1)) ≤ 50000 := by
  have hr := ok.row (rowAt_get hk)
  obtain ⟨h1, h2, h3⟩ := outsAt_mem ok hk h
  have := costTo_bounds (M := 10100) (by omega) h3 (fun x hx => by have := hr.cell x hx; omega) l.length
  unfold rowCost
  omega
theorem outsAt_count (ok : TOk b cs fs) {k : Nat} (hk : k + 1 ≤ cs.length) : (outsAt b cs fs (k + 1)).length ≤ 16 := outs_count (ok.row (rowAt_get hk)).l2
theorem Bnd.step {k j : Nat} {nx acc : Rst} {l cells : List Int} (h : Bnd k nx) (ha : 0 ≤ acc.ways ∧ acc.ways ≤ j * 16 ^ k) (hb : 0 ≤ acc.change ∧ acc.change ≤ 50000 * (k + 1 : Nat)) (hc : 0 ≤ rowCost l cells ∧ rowCost l cells ≤ 50000) :
    (0 ≤ (stepR cells nx acc l).ways ∧ (stepR cells nx acc l).ways ≤ (j + 1 : Nat) * 16 ^ k) ∧ (0 ≤ (stepR cells nx acc l).change ∧ (stepR cells nx acc l).change ≤ 50000 * (k + 1 : Nat)) := by
  have e : ((j + 1 : Nat) : Int) * 16 ^ k = j * 16 ^ k + 16 ^ k := by rw [Int.natCast_add, Int.add_mul]; simp
  have h0 : (0 : Int) ≤ 16 ^ k := Int.pow_nonneg (by decide)
  have h1 := h.w1; have h2 := h.w2; have h3 := h.c1; have h4 := h.c2
  rw [e]
  unfold stepR
  split
  · exact ⟨⟨ha.1, by omega⟩, hb⟩
  · split
    · exact ⟨⟨by show 0 ≤ acc.ways + nx.ways; omega, by show acc.ways + nx.ways ≤ _; omega⟩, ⟨by show 0 ≤ nx.change + rowCost l cells; omega, by show nx.change + rowCost l cells ≤ _; omega⟩⟩
    · exact ⟨⟨by show 0 ≤ acc.ways + nx.ways; omega, by show acc.ways + nx.ways ≤ _; omega⟩, hb⟩
theorem stepR_first {nx acc : Rst} {l cells : List Int} : (stepR cells nx acc l).first = acc.first ∨ (stepR cells nx acc l).first = l := by
  unfold stepR
  split
  · exact .inl rfl
  · split
    · exact .inr rfl
    · exact .inl rfl
/-- the numbers of the loop are small -/
structure BndJ (k j : Nat) (x : Rst) : Prop where
  w : 0 ≤ x.ways ∧ x.ways ≤ j * 16 ^ k
  c : 0 ≤ x.change ∧ x.change ≤ 50000 * (k + 1 : Nat)
  len : x.first.length ≤ 4
  cell : ∀ v ∈ x.first, 0 ≤ v ∧ v ≤ 10100
theorem BndJ.step {k j : Nat} {nx acc : Rst} {l cells : List Int} (h : BndJ k j acc) (hn : Bnd k nx) (hc : 0 ≤ rowCost l cells ∧ rowCost l cells ≤ 50000) (h2 : l.length ≤ 4) (h3 : ∀ x ∈ l, 0 ≤ x ∧ x ≤ 10100) : BndJ k (j + 1) (stepR cells nx acc l) := by
  have hst := hn.step h.w h.c hc
  refine ⟨hst.1, hst.2, ?_, ?_⟩
  · rcases stepR_first (cells := cells) (nx := nx) (acc := acc) (l := l) with h' | h' <;> rw [h']
    · exact h.len
    · exact h2
  · rcases stepR_first (cells := cells) (nx := nx) (acc := acc) (l := l) with h' | h' <;> rw [h']
    · exact h.cell
    · exact h3
theorem bnd_spec (ok : TOk b cs fs) : ∀ (k : Nat), k ≤ cs.length → ∀ s, Bnd k (spec b cs fs k s) ∧ (k + 1 ≤ cs.length → ∀ j, j ≤ (outsAt b cs fs (k + 1)).length → BndJ k j (specTo b cs fs k s j)) := by
  intro k
  induction k with
  | zero =>
    intro hk s
    have hB : ∀ s, Bnd 0 (spec b cs fs 0 s) := fun s => by
      unfold spec
      split <;> exact ⟨by decide, by decide, by decide, by decide, by decide, fun v hv => by cases hv⟩
    refine ⟨hB s, fun hk1 j => ?_⟩
    induction j with
    | zero => intro _; rw [specTo_zero]; exact ⟨⟨by simp, by simp⟩, ⟨by simp, by simp⟩, by simp, fun v hv => by cases hv⟩
    | succ j ihj =>
      intro hj
      have ih := ihj (by omega)
      have hl := List.getElem?_eq_getElem (l := outsAt b cs fs (0 + 1)) (i := j) (by omega)
      have hm := List.getElem_mem (l := outsAt b cs fs (0 + 1)) (n := j) (by omega)
      rw [specTo_succ hl]
      obtain ⟨h1, h2, h3⟩ := outsAt_mem ok hk1 hm
      exact ih.step (hB _) (rowCost_bound ok hk1 hm) h2 h3
  | succ k ihk =>
    intro hk s
    have hB : ∀ s, Bnd (k + 1) (spec b cs fs (k + 1) s) := fun s => by
      have := (ihk (by omega) s).2 hk _ (Nat.le_refl _)
      rw [specTo_all] at this
      have hc := outsAt_count ok hk
      have h0 : (0 : Int) ≤ 16 ^ k := Int.pow_nonneg (by decide)
      have hci : ((outsAt b cs fs (k + 1)).length : Int) ≤ 16 := by omega
      have hm := Int.mul_le_mul_of_nonneg_right hci h0
      refine ⟨this.w.1, ?_, this.c.1, this.c.2, this.len, this.cell⟩
      rw [Int.pow_succ, Int.mul_comm]
      exact Int.le_trans this.w.2 hm
    refine ⟨hB s, fun hk1 j => ?_⟩
    induction j with
    | zero => intro _; rw [specTo_zero]; exact ⟨⟨by simp, by simp⟩, ⟨by simp, by simp; omega⟩, by simp, fun v hv => by cases hv⟩
    | succ j ihj =>
      intro hj
      have ih := ihj (by omega)
      have hl := List.getElem?_eq_getElem (l := outsAt b cs fs (k + 1 + 1)) (i := j) (by omega)
      have hm := List.getElem_mem (l := outsAt b cs fs (k + 1 + 1)) (n := j) (by omega)
      rw [specTo_succ hl]
      obtain ⟨h1, h2, h3⟩ := outsAt_mem ok hk1 hm
      exact ih.step (hB _) (rowCost_bound ok hk1 hm) h2 h3
theorem plusS_small' {M : Int} {s : S4} {l : List Int} (hs : Small M s) (hl : ∀ x ∈ l, 0 ≤ x ∧ x ≤ 10100) : Small (M + 10100) (plusS s l) := by
  obtain ⟨h1, h2, h3, h4⟩ := hs
  have g := fun i => getD_small (by decide) hl i
  have g0 := g 0; have g1 := g 1; have g2 := g 2; have g3 := g 3
  refine ⟨⟨?_, ?_⟩, ⟨?_, ?_⟩, ⟨?_, ?_⟩, ⟨?_, ?_⟩⟩ <;> simp only [plusS] <;> omega
end

def restV (x : Rst) (A : Option Addr) (c : Nat) : Value := .agg #[.int .i64 x.ways, .int .i64 x.change, .slice A x.first.length c]
/-- the list of a result lies in memory, outside Y -/
structure Good (Y : Nat → Prop) (W : World) (x : Rst) (A : Option Addr) (c : Nat) : Prop where
  ints : IsInts W W.heap.size A x.first
  av : ∀ a, A = some a → (∃ cs, Blk W a.block 3 cs) ∧ ¬ Y a.block
  le : x.first.length ≤ c
  mx : c ≤ maxLen
  nil : A = none → c = 0
/-- the map holds what is true -/
def Memo (b : Int) (cs : List (List Int)) (fs : List Fx) (mb : Nat) (Y : Nat → Prop) (W : World) : Prop :=
  ∃ es clock, W.heap[mb]? = some (.map es clock) ∧ SpotKeys es ∧ ∀ e ∈ es.toList, ∃ k s A c, 1 ≤ k ∧ k ≤ cs.length ∧ e.key = spotV ((cs.length - k : Nat) : Int) s ∧ e.val = restV (spec b cs fs k s) A c ∧ Good Y W (spec b cs fs k s) A c

/-- what from reads, but for the map -/
structure FEnv (P n mb : Nat) (b : Int) (At : Option Addr) (ct : Nat) (cs : List (List Int)) (Af : Option Addr) (cf : Nat) (fs : List Fx) (W : World) : Prop where
  bp : Blk W P 124 #[.int .i64 b, .slice At cs.length ct, .slice Af fs.length cf, .map (some mb)]
  ic : IsRows W n At cs
  ix : IsFixes W n Af fs
  hn : n ≤ W.heap.size

section
variable {Y Z : Nat → Prop} {W W' : World} {x : Rst} {A : Option Addr} {c : Nat} {b : Int} {cs : List (List Int)} {fs : List Fx} {mb P n z : Nat} {At : Option Addr} {ct : Nat} {Af : Option Addr} {cf : Nat}
theorem Good.lt (h : Good Y W x A c) {a : Addr} (e : A = some a) : a.block < W.heap.size := by
  obtain ⟨⟨cs, hb⟩, _⟩ := h.av a e
  exact hb.lt
theorem Good.keep (h : Good Y W x A c) (hk : Keep Z W W') (hz : ∀ a, A = some a → ¬ Z a.block) : Good Y W' x A c := ⟨(hk.ints h.ints hz).more hk.size, fun a e => ⟨ex_of (h.av a e).1 fun _ hb => hk.blk hb (hz a e), (h.av a e).2⟩, h.le, h.mx, h.nil⟩
theorem Good.grown (h : Good Y W x A c) (hg : W.grownBy W' (some z)) (hz : Y z ∨ ∃ o, W.heap[z]? = some o ∧ o.isCells = false) : Good Y W' x A c := by
  rcases hz with hz | hz
  · exact h.keep (Z := fun k => k = z) (Keep.of_grown hg rfl) (fun a e he => (h.av a e).2 (by rw [he]; exact hz))
  · exact h.keep (Z := fun _ => False) (Keep.of_other hg hz) (fun _ _ h => h)
theorem Good.below (h : Good Y W x A c) (hb : Below W.heap.size W W') : Good Y W' x A c := h.keep (Keep.of_below (fun _ => False) hb) (fun _ _ h => h)
theorem Good.sub (h : Good Y W x A c) (hz : ∀ a, A = some a → ¬ Z a.block) : Good Z W x A c := ⟨h.ints, fun a e => ⟨(h.av a e).1, hz a e⟩, h.le, h.mx, h.nil⟩
/-- a block that holds no plain numbers is written -/
theorem Good.set_ (h : Good Y W x A c) {g : Nat} {t : TypeId} {us : Array Value} (hg : Blk W g t us) (ht : t ≠ 3) (hk : Keep (fun k => k = g) W W') : Good Y W' x A c :=
  h.keep hk (fun a e he => by
    obtain ⟨⟨cs, hb⟩, _⟩ := h.av a e
    rw [he] at hb
    exact Blk.ne_ hg hb ht rfl)
theorem Memo.grown (h : Memo b cs fs mb Y W) (hg : W.grownBy W' (some z)) (hm : z ≠ mb) (hz : Y z ∨ ∃ o, W.heap[z]? = some o ∧ o.isCells = false) : Memo b cs fs mb Y W' := by
  obtain ⟨es, clock, h1, h2, h3⟩ := h
  refine ⟨es, clock, (hg.block mb (Array.getElem?_eq_some_iff.1 h1).1 (fun e => hm (by cases e; rfl))).trans h1, h2, fun e he => ?_⟩
  obtain ⟨k, s, A, c, g1, g2, g3, g4, g5⟩ := h3 e he
  exact ⟨k, s, A, c, g1, g2, g3, g4, g5.grown hg hz⟩
theorem Memo.below (h : Memo b cs fs mb Y W) (hb : Below W.heap.size W W') : Memo b cs fs mb Y W' := by
  obtain ⟨es, clock, h1, h2, h3⟩ := h
  refine ⟨es, clock, (hb.block mb (Array.getElem?_eq_some_iff.1 h1).1).trans h1, h2, fun e he => ?_⟩
  obtain ⟨k, s, A, c, g1, g2, g3, g4, g5⟩ := h3 e he
  exact ⟨k, s, A, c, g1, g2, g3, g4, g5.below hb⟩
/-- a block that is new is one more to keep clear of -/
theorem Memo.fresh (h : Memo b cs fs mb Y W) (hz : ∀ k, Z k → Y k ∨ W.heap.size ≤ k) : Memo b cs fs mb Z W := by
  obtain ⟨es, clock, h1, h2, h3⟩ := h
  refine ⟨es, clock, h1, h2, fun e he => ?_⟩
  obtain ⟨k, s, A, c, g1, g2, g3, g4, g5⟩ := h3 e he
  refine ⟨k, s, A, c, g1, g2, g3, g4, g5.sub fun a e hza => ?_⟩
  rcases hz _ hza with h | h
  · exact (g5.av a e).2 h
  · have := g5.lt e; omega
theorem Memo.set_ (h : Memo b cs fs mb Y W) {g : Nat} {t : TypeId} {us : Array Value} (hg : Blk W g t us) (ht : t ≠ 3) (hw : W.grownBy W' (some g)) : Memo b cs fs mb Y W' := by
  obtain ⟨es, clock, h1, h2, h3⟩ := h
  refine ⟨es, clock, (hw.block mb (Array.getElem?_eq_some_iff.1 h1).1 (fun e => by
    cases e
    unfold Blk at hg
    rw [hg] at h1
    cases h1)).trans h1, h2, fun e he => ?_⟩
  obtain ⟨k, s, A, c, g1, g2, g3, g4, g5⟩ := h3 e he
  exact ⟨k, s, A, c, g1, g2, g3, g4, g5.set_ hg ht (Keep.of_grown hw rfl)⟩
theorem grown_of_set (W : World) (p : Addr) (u : Value) : W.grownBy (W.setCell p u) (some p.block) := ⟨rfl, rfl, rfl, by simp, fun k _ hn => Below.heap_setCell W p u k (fun e => hn (by rw [e]))⟩
theorem grown_one {A B C : World} {m : Option Nat} (h : A.grownBy B m) (k : B.grownBy C m) : A.grownBy C m :=
  ⟨k.os.trans h.os, k.tape.trans h.tape, k.output.trans h.output, Nat.le_trans h.size k.size, fun i hi hn => (k.block i (Nat.lt_of_lt_of_le hi h.size) hn).trans (h.block i hi hn)⟩
theorem act_eqd {a : Act} {n : Nat} {d : List Deferred} (hs : a.tmps.size = n) (hd : a.defers = d) : a = { tmps := ((List.range n).map fun i => a.tmps.getD i undef).toArray, defers := d } := by
  have := act_eq (a := { a with defers := [] }) hs rfl
  obtain ⟨t, d'⟩ := a
  simp only at hd
  subst hd
  injection this with h1
  congr 1
def set3 (W : World) (g : Nat) (u0 u1 u2 : Value) : World := ((W.setCell ⟨g, 0, none⟩ u0).setCell ⟨g, 1, none⟩ u1).setCell ⟨g, 2, none⟩ u2
theorem set3_grown (W : World) (g : Nat) (u0 u1 u2 : Value) : W.grownBy (set3 W g u0 u1 u2) (some g) :=
  grown_one (grown_one (grown_of_set W ⟨g, 0, none⟩ u0) (grown_of_set _ ⟨g, 1, none⟩ u1)) (grown_of_set _ ⟨g, 2, none⟩ u2)
theorem set3_blk {W : World} {g : Nat} {t : TypeId} {v0 v1 v2 : Value} (h : Blk W g t #[v0, v1, v2]) (u0 u1 u2 : Value) : Blk (set3 W g u0 u1 u2) g t #[u0, u1, u2] := ((h.set_ 0 u0).set_ 1 u1).set_ 2 u2
theorem FEnv.keep (h : FEnv P n mb b At ct cs Af cf fs W) (hk : Keep Z W W') (h1 : ¬ Z P) (h2 : ∀ k, Z k → n ≤ k) : FEnv P n mb b At ct cs Af cf fs W' :=
  ⟨hk.blk h.bp h1, hk.rows h.ic h2, hk.fixes h.ix h2, Nat.le_trans h.hn hk.size⟩
theorem FEnv.below (h : FEnv P n mb b At ct cs Af cf fs W) (hb : Below W.heap.size W W') : FEnv P n mb b At ct cs Af cf fs W' := h.keep (Keep.of_below (fun _ => False) hb) id (fun _ h => h.elim)
theorem FEnv.reads (h : FEnv P n mb b At ct cs Af cf fs W) : W.cell? ⟨P, 0, none⟩ = some (.int .i64 b) ∧ W.cell? ⟨P, 1, none⟩ = some (.slice At cs.length ct) ∧ W.cell? ⟨P, 2, none⟩ = some (.slice Af fs.length cf) ∧ W.cell? ⟨P, 3, none⟩ = some (.map (some mb)) := h.bp.c4
end
end Go.Proofs.Ytgoianldiomdoaa
/- from: behind the last row. -/
namespace Go.Proofs.Ytgoianldiomdoaa
open Go.RowKit Go.Shelf

set_option maxRecDepth 100000 in
set_option maxHeartbeats 4000000 in
theorem from_zero {P n mb : Nat} {b : Int} {At : Option Addr} {ct : Nat} {cs : List (List Int)} {Af : Option Addr} {cf : Nat} {fs : List Fx} {W : World} {s : S4} (he : FEnv P n mb b At ct cs Af cf fs W) (ok : TOk b cs fs) (hs : Small 200000 s) :
    Calls Try.prog 48 #[.pointer (some ⟨P, 0, none⟩), spotV (cs.length : Int) s] W fun e W' => e = .returned (restV (spec b cs fs 0 s) none 0) ∧ Below W.heap.size W W' := by
  have K := hid (show ∀ W1, Below W.heap.size W W1 → _ from fun W1 hb => closes_any b At ct cs (.slice Af fs.length cf) s W1 ok.okc ((he.below hb).ic.more (he.below hb).hn) hs)
  have HE := hid he
  obtain ⟨k0, k1, k2, k3⟩ := he.reads
  have hlt := he.bp.lt
  clear he ok hs
  cases hc : closesB b cs s
  all_goals
    rw [hc] at K
    have HC := hid hc
    clear hc
    go_enter Try.func48, Try.ntmps48
    simp only [spotV]
    go_wp2
    refine gen (p := Code.wp _ _ _ _) (fun W1 => Below W.heap.size W W1 ∧ Blk W1 W.heap.size 83 #[.pointer (some ⟨P, 0, none⟩)] ∧ Blk W1 (W.heap.size + 1) 89 #[.int .i64 (cs.length : Int), .int .i64 s.a, .int .i64 s.b, .int .i64 s.c, .int .i64 s.d] ∧ Blk W1 (W.heap.size + 1 + 1) 91 #[.int .i64 0, .int .i64 0, .slice none 0 0]) ⟨?_, ?_, ?_, ?_⟩ ?_
    · exact (((Below.refl _ _).alloc (Nat.le_refl _) _).alloc (by simp) _).alloc (by simp; omega) _
    · exact ((Blk.new _ _ _).alloc _).alloc _
    · have := (Blk.new (W.alloc (.cells #[.pointer (some ⟨P, 0, none⟩)] 83)) 89 #[.int .i64 (cs.length : Int), .int .i64 s.a, .int .i64 s.b, .int .i64 s.c, .int .i64 s.d]).alloc (.cells #[.int .i64 0, .int .i64 0, .slice none 0 0] 91)
      rwa [World.size_alloc] at this
    · have := Blk.new ((W.alloc (.cells #[.pointer (some ⟨P, 0, none⟩)] 83)).alloc (.cells #[.int .i64 (cs.length : Int), .int .i64 s.a, .int .i64 s.b, .int .i64 s.c, .int .i64 s.d] 89)) 91 #[.int .i64 0, .int .i64 0, .slice none 0 0]
      rwa [World.size_alloc, World.size_alloc] at this
    rintro W1 ⟨hb1, hw1, hs1, hr1⟩
    have HB1 := hid hb1
    have q1 := xt_c1 hw1
    obtain ⟨q2, q3, q4, q5, q6⟩ := xt_c5 hs1
    obtain ⟨q7, q8, q9, q10⟩ := xt_c4 (HE.out.below hb1).bp
    clear hb1 k0 k1 k2 k3
    refine wp_region_quiet_xt (by kernel_rfl) (by kernel_rfl) ?_
    repeat (go_big_quiet_step (fail))
    refine wpQuiet_nil ?_
    intro W2 hw2
    replace hw2 := of_xt hw2
    have hB2 := hid (HB1.out.trans (hw2.mono HB1.out.size))
    have hr2 := hr1.keep hw2
    clear q1 q2 q3 q4 q5 q6 q7 q8 q9 q10
    have q1 := xt_c1 (hw1.keep hw2)
    obtain ⟨q2, q3, q4, q5, q6⟩ := xt_c5 (hs1.keep hw2)
    obtain ⟨q7, q8, q9, q10⟩ := xt_c4 (HE.out.below hB2.out).bp
    have T := hid (show ∀ q, _ from fun q => K.out (xt W2 q) (hB2.out.trans ((below_xt W2 q).mono hB2.out.size)))
    clear hw2 hw1 hs1 hr1 HB1 K hlt
    go_wp2
    refine wp_region_quiet_xt (by kernel_rfl) (by kernel_rfl) ?_
    repeat (go_big_quiet_step ((go_at_call 72; with_reducible exact Calls.xt (T.out _))))
    refine wpQuiet_nil ?_
    intro W3 hw3
    replace hw3 := of_xt hw3
    have hr3 := hr2.keep hw3
    have hlt3 := hr3.lt
    obtain ⟨c0, c1, c2⟩ := hr3.c3
    have f0 := hr3.frozen 0
    have f1 := hr3.frozen 1
    have f2 := hr3.frozen 2
    clear q1 q2 q3 q4 q5 q6 q7 q8 q9 q10 T hr2
    have hB3 := hid (hB2.out.trans (hw3.mono hB2.out.size))
    clear hw3
    go_wp2
    have hfin : ∀ v : Int, Below W.heap.size W (((W3.setCell ⟨W.heap.size + 1 + 1, 0, none⟩ (.int .i64 v)).setCell ⟨W.heap.size + 1 + 1, 1, none⟩ (.int .i64 0)).setCell ⟨W.heap.size + 1 + 1, 2, none⟩ (.slice none 0 0)) :=
      fun v => ((hB3.out.setCell (by simp; omega) _).setCell (by simp; omega) _).setCell (by simp; omega) _
    first
      | exact bodyPost_ret (v := restV ⟨0, 0, []⟩ none 0) (by simp [results, Try.results48, go_sem, restV, c0, c1, c2]) rfl ⟨by rw [spec, HC.out]; rfl, hfin 0⟩
      | exact bodyPost_ret (v := restV ⟨1, 0, []⟩ none 0) (by simp [results, Try.results48, go_sem, restV, c0, c1, c2]) rfl ⟨by rw [spec, HC.out]; rfl, hfin 1⟩
end Go.Proofs.Ytgoianldiomdoaa
/- from: a spot that is known. -/
namespace Go.Proofs.Ytgoianldiomdoaa
open Go.RowKit Go.Shelf

theorem rest_info : (Try.prog.info? 91).map (fun i => i.zero) = some (some (.agg #[.int .i64 0, .int .i64 0, .slice none 0 0])) := by kernel_rfl
theorem rest_zero (W : World) : (zeroValue 91).run Try.prog W = .ok (.agg #[.int .i64 0, .int .i64 0, .slice none 0 0]) W := by
  obtain ⟨i, hi, hz⟩ := Option.map_eq_some_iff.1 rest_info
  simp [zeroValue, typeInfo, hi, hz, Result.andThen]

/-- one block is laid, then written -/
structure Ph5 (Val : Array Value → Prop) (w : World) (li : Array Bool) (W : World) : Prop where
  below : Below w.heap.size w W
  sz : li.getD 9 false = false → W.heap.size = w.heap.size
  blk : li.getD 9 false = true → ∃ u0 u1 u2, Blk W w.heap.size 91 #[u0, u1, u2]
  val : li.getD 10 false = true → ∃ u0 u1 u2, Blk W w.heap.size 91 #[u0, u1, u2] ∧ Val #[u0, u1, u2]
section
variable {Val : Array Value → Prop} {w W : World} {li : Array Bool} {u0 u1 u2 v0 v1 v2 : Value}
theorem Ph5.start (w : World) {n : Nat} (_ : 11 ≤ n) : Ph5 Val w (Array.replicate n false) { w with drawn := w.drawn + 1 } :=
  ⟨⟨rfl, rfl, rfl, Nat.le_refl _, fun _ _ => rfl⟩, fun _ => rfl, (by rw [getD_replicate_false]; intro h; cases h), (by rw [getD_replicate_false]; intro h; cases h)⟩
theorem Ph5.other (h : Ph5 Val w li W) {i : Nat} (h9 : i ≠ 9) (h10 : i ≠ 10) : Ph5 Val w (li.setIfInBounds i true) W :=
  ⟨h.below, by rw [getD_set_oth h9]; exact h.sz, by rw [getD_set_oth h9]; exact h.blk, by rw [getD_set_oth h10]; exact h.val⟩
theorem Ph5.alloc (h : Ph5 Val w li W) (h9 : li.getD 9 false = false) (hs : 9 < li.size) : Ph5 Val w (li.setIfInBounds 9 true) (W.alloc (.cells #[v0, v1, v2] 91)) := by
  have hz := h.sz h9
  have hb := Blk.new W 91 #[v0, v1, v2]
  rw [hz] at hb
  refine ⟨h.below.alloc (by omega) _, (by rw [getD_set_eq hs]; intro e; cases e), fun _ => ⟨_, _, _, hb⟩, ?_⟩
  rw [getD_set_oth (by decide)]
  intro h10
  obtain ⟨a, b, c, hb', _⟩ := h.val h10
  have := hb'.lt
  omega
theorem Ph5.store (h : Ph5 Val w li W) (h9 : li.getD 9 false = true) (hb : Blk W w.heap.size 91 #[u0, u1, u2]) (hv : Val #[v0, v1, v2]) :
    Ph5 Val w (li.setIfInBounds 10 true) (((W.setCell ⟨w.heap.size, 0, none⟩ v0).setCell ⟨w.heap.size, 1, none⟩ v1).setCell ⟨w.heap.size, 2, none⟩ v2) := by
  have hb2 := ((hb.set_ 0 v0).set_ 1 v1).set_ 2 v2
  refine ⟨((h.below.setCell (Nat.le_refl _) _).setCell (Nat.le_refl _) _).setCell (Nat.le_refl _) _, (by rw [getD_set_oth (by decide), h9]; intro e; cases e), fun _ => ⟨_, _, _, hb2⟩, fun _ => ⟨_, _, _, hb2, hv⟩⟩
end

set_option maxRecDepth 100000 in
set_option maxHeartbeats 4000000 in
theorem from_hit {P n mb : Nat} {b : Int} {At : Option Addr} {ct : Nat} {cs : List (List Int)} {Af : Option Addr} {cf : Nat} {fs : List Fx} {W : World} {s : S4} {r : Nat} {es : Array MapEntry} {clock : Nat} (he : FEnv P n mb b At ct cs Af cf fs W) (ok : TOk b cs fs) (hr : r < cs.length) (hs : Small 200000 s) (hm : W.heap[mb]? = some (.map es clock)) (hk : SpotKeys es)
    (hg : ∀ e ∈ es.toList, ∃ k s A c, 1 ≤ k ∧ k ≤ cs.length ∧ e.key = spotV ((cs.length - k : Nat) : Int) s ∧ e.val = restV (spec b cs fs k s) A c) (hin : ∃ x ∈ es.toList, x.key = spotV r s) :
    Calls Try.prog 48 #[.pointer (some ⟨P, 0, none⟩), spotV (r : Int) s] W fun e W' => (∃ x ∈ es.toList, x.key = spotV r s ∧ e = .returned x.val) ∧ Below W.heap.size W W' := by
  have HE := hid he
  obtain ⟨k0, k1, k2, k3⟩ := he.reads
  have hlt := he.bp.lt
  have hne : ((r : Int) == (cs.length : Int)) = false := by simp; omega
  have hkey := spot_key (r := (r : Int)) (s := s) ⟨by omega, by have := ok.okc.n2; omega⟩ (hs.mono (by decide))
  have hml : mb < W.heap.size := (Array.getElem?_eq_some_iff.1 hm).1
  have H0 := hid (And.intro hml (And.intro hm (And.intro hk (And.intro hkey hin))))
  have HG := hid (show ∀ x ∈ es.toList, ∃ k s A c, 1 ≤ k ∧ k ≤ cs.length ∧ x.key = spotV ((cs.length - k : Nat) : Int) s ∧ x.val = restV (spec b cs fs k s) A c ∧ True from fun x hx => by
    obtain ⟨k, s, A, c, g1, g2, g3, g4⟩ := hg x hx; exact ⟨k, s, A, c, g1, g2, g3, g4, trivial⟩)
  have HZ := hid (fun W => rest_zero W)
  clear he ok hs hm hk hg hin hkey hml hr
  go_enter Try.func48, Try.ntmps48
  simp only [spotV]
  go_wp2
  refine gen (p := Code.wp _ _ _ _) (fun W1 => Below W.heap.size W W1 ∧ Blk W1 W.heap.size 83 #[.pointer (some ⟨P, 0, none⟩)] ∧ Blk W1 (W.heap.size + 1) 89 #[.int .i64 (r : Int), .int .i64 s.a, .int .i64 s.b, .int .i64 s.c, .int .i64 s.d] ∧ Blk W1 (W.heap.size + 1 + 1) 91 #[.int .i64 0, .int .i64 0, .slice none 0 0]) ⟨?_, ?_, ?_, ?_⟩ ?_
  · exact (((Below.refl _ _).alloc (Nat.le_refl _) _).alloc (by simp) _).alloc (by simp; omega) _
  · exact ((Blk.new _ _ _).alloc _).alloc _
  · have := (Blk.new (W.alloc (.cells #[.pointer (some ⟨P, 0, none⟩)] 83)) 89 #[.int .i64 (r : Int), .int .i64 s.a, .int .i64 s.b, .int .i64 s.c, .int .i64 s.d]).alloc (.cells #[.int .i64 0, .int .i64 0, .slice none 0 0] 91)
    rwa [World.size_alloc] at this
  · have := Blk.new ((W.alloc (.cells #[.pointer (some ⟨P, 0, none⟩)] 83)).alloc (.cells #[.int .i64 (r : Int), .int .i64 s.a, .int .i64 s.b, .int .i64 s.c, .int .i64 s.d] 89)) 91 #[.int .i64 0, .int .i64 0, .slice none 0 0]
    rwa [World.size_alloc, World.size_alloc] at this
  rintro W1 ⟨hb1, hw1, hs1, hr1⟩
  have HB1 := hid hb1
  have q1 := xt_c1 hw1
  obtain ⟨q2, q3, q4, q5, q6⟩ := xt_c5 hs1
  obtain ⟨q7, q8, q9, q10⟩ := xt_c4 (HE.out.below hb1).bp
  clear hb1 k0 k1 k2 k3 hlt
  refine wp_region_quiet_xt (by kernel_rfl) (by kernel_rfl) ?_
  repeat (go_big_quiet_step (fail))
  refine wpQuiet_nil ?_
  intro W2 hw2
  replace hw2 := of_xt hw2
  clear q1 q2 q3 q4 q5 q6 q7 q8 q9 q10
  go_wp2
  refine gen (p := Code.wp _ _ _ _) (fun W3 => Below W.heap.size W W3 ∧ Blk W3 W.heap.size 83 #[.pointer (some ⟨P, 0, none⟩)] ∧ Blk W3 (W.heap.size + 1) 89 #[.int .i64 (r : Int), .int .i64 s.a, .int .i64 s.b, .int .i64 s.c, .int .i64 s.d] ∧ Blk W3 (W.heap.size + 1 + 1) 91 #[.int .i64 0, .int .i64 0, .slice none 0 0]) ⟨HB1.out.trans (hw2.mono HB1.out.size), hw1.keep hw2, hs1.keep hw2, hr1.keep hw2⟩ ?_
  clear hw2 hw1 hs1 hr1 HB1
  clear W2 W1
  rintro W1 ⟨hb1, hw1, hs1, hr1⟩
  have HM := hid (show mb < W1.heap.size ∧ W1.heap[mb]? = some (.map es clock) ∧ SpotKeys es ∧ (∃ l, keyOf Try.prog 89 (spotV r s) = some l) ∧ (∃ x ∈ es.toList, x.key = spotV r s) from
    ⟨Nat.lt_of_lt_of_le H0.out.1 hb1.size, (hb1.block mb H0.out.1).trans H0.out.2.1, H0.out.2.2.1, H0.out.2.2.2.1, H0.out.2.2.2.2⟩)
  clear H0
  have HQ := hid (show ∀ W2, Below W1.heap.size W1 W2 → W2.cell? ⟨W.heap.size, 0, none⟩ = some (.pointer (some ⟨P, 0, none⟩)) ∧ W2.cell? ⟨W.heap.size + 1, 0, none⟩ = some (.int .i64 (r : Int)) ∧ W2.cell? ⟨W.heap.size + 1, 1, none⟩ = some (.int .i64 s.a) ∧ W2.cell? ⟨W.heap.size + 1, 2, none⟩ = some (.int .i64 s.b) ∧ W2.cell? ⟨W.heap.size + 1, 3, none⟩ = some (.int .i64 s.c) ∧ W2.cell? ⟨W.heap.size + 1, 4, none⟩ = some (.int .i64 s.d) ∧ W2.cell? ⟨P, 3, none⟩ = some (.map (some mb)) from
    fun W2 hb => ⟨(hw1.keep hb).c1, (hs1.keep hb).c5.1, (hs1.keep hb).c5.2.1, (hs1.keep hb).c5.2.2.1, (hs1.keep hb).c5.2.2.2.1, (hs1.keep hb).c5.2.2.2.2, (((HE.out.below hb1).below hb).bp).c4.2.2.2⟩)
  refine (wpIn_wide (n := 0)).1 ?_
  refine wpIn_region_each 11 (fun i v _ => match i with | 0 => v = .pointer (some ⟨P, 0, none⟩) | 1 => v = .pointer (some ⟨P, 0, none⟩) | 2 => v = .pointer (some ⟨P, 3, none⟩) | 3 => v = .map (some mb) | 4 => v = .agg #[.int .i64 (r : Int), .int .i64 s.a, .int .i64 s.b, .int .i64 s.c, .int .i64 s.d] | 5 => ∃ x ∈ es.toList, x.key = spotV r s ∧ v = .tuple #[x.val, .bool true] | 6 => ∃ x ∈ es.toList, x.key = spotV r s ∧ v = .tuple #[x.val, .bool true] | 7 => ∃ x ∈ es.toList, x.key = spotV r s ∧ v = x.val | 8 => v = .bool true | 9 => v = .pointer (some ⟨W1.heap.size, 0, none⟩) | _ => True) (fun _ _ => True) (Ph5 (fun cells => ∃ x ∈ es.toList, x.key = spotV r s ∧ x.val = .agg cells) W1) (by kernel_rfl) (by kernel_rfl) ?_ (fun _ _ => trivial) trivial (Ph5.start _ (by decide)) (by kernel_rfl) ?_ ?_
  · intro i v _ _ _ h; exact h
  · refine ⟨?_, ?_, ?_, ?_, ?_, ?_, ?_, ?_, ?_, ?_, ?_, trivial⟩
    · -- 0: Op.load 83 t2
      intro li a1 W2 hA K hK
      have e2 := hA.par 2 (by kernel_rfl)
      obtain ⟨q1, q2, q3, q4, q5, q6, q7⟩ := HQ.out W2 hA.ph.below
      refine opStep none 0 rfl rfl (fun c hc => by cases hc) ?_
      go_simp
      exact hK _ _ rfl trivial (hA.ph.other (by decide) (by decide))
    · -- 1: Op.nilCheck t30
      intro li a1 W2 hA K hK
      have e30 : a1.tmps.getD 30 undef = .pointer (some ⟨P, 0, none⟩) := hA.val 0 30 (by kernel_rfl) (by kernel_rfl)
      obtain ⟨q1, q2, q3, q4, q5, q6, q7⟩ := HQ.out W2 hA.ph.below
      refine opStep none 0 rfl rfl (fun c hc => by cases hc) ?_
      go_simp
      exact hK _ _ rfl trivial (hA.ph.other (by decide) (by decide))
    · -- 2: Op.fieldAddr 124 t31 1
      intro li a1 W2 hA K hK
      have e31 : a1.tmps.getD 31 undef = .pointer (some ⟨P, 0, none⟩) := hA.val 1 31 (by kernel_rfl) (by kernel_rfl)
      obtain ⟨q1, q2, q3, q4, q5, q6, q7⟩ := HQ.out W2 hA.ph.below
      refine opStep none 0 rfl rfl (fun c hc => by cases hc) ?_
      go_simp
      exact hK _ _ rfl trivial (hA.ph.other (by decide) (by decide))
    · -- 3: Op.load 122 t32
      intro li a1 W2 hA K hK
      have e32 : a1.tmps.getD 32 undef = .pointer (some ⟨P, 3, none⟩) := hA.val 2 32 (by kernel_rfl) (by kernel_rfl)
      obtain ⟨q1, q2, q3, q4, q5, q6, q7⟩ := HQ.out W2 hA.ph.below
      refine opStep none 0 rfl rfl (fun c hc => by cases hc) ?_
      go_simp
      exact hK _ _ rfl trivial (hA.ph.other (by decide) (by decide))
    · -- 4: Op.load 89 t3
      intro li a1 W2 hA K hK
      have e3 := hA.par 3 (by kernel_rfl)
      obtain ⟨q1, q2, q3, q4, q5, q6, q7⟩ := HQ.out W2 hA.ph.below
      refine opStep none 0 rfl rfl (fun c hc => by cases hc) ?_
      go_simp
      exact hK _ _ rfl trivial (hA.ph.other (by decide) (by decide))
    · -- 5: Op.lookup 122 t33 t34 true
      intro li a1 W2 hA K hK
      have e33 : a1.tmps.getD 33 undef = .map (some mb) := hA.val 3 33 (by kernel_rfl) (by kernel_rfl)
      have e34 : a1.tmps.getD 34 undef = .agg #[.int .i64 (r : Int), .int .i64 s.a, .int .i64 s.b, .int .i64 s.c, .int .i64 s.d] := hA.val 4 34 (by kernel_rfl) (by kernel_rfl)
      obtain ⟨q1, q2, q3, q4, q5, q6, q7⟩ := HQ.out W2 hA.ph.below
      -- raw
      have hq := (hA.ph.below.block mb HM.out.1).trans HM.out.2.1
      rcases spot_look (t := 122) true Try.underlying122 (HZ.out _) hq HM.out.2.2.1 HM.out.2.2.2.1 with ⟨_, hno⟩ | ⟨x, hx, hk, hr⟩
      · exact absurd HM.out.2.2.2.2 (fun ⟨x, hx, hk⟩ => hno x hx hk)
      · refine opValue (v := .tuple #[x.val, .bool true]) none 0 rfl rfl (fun c hc => by cases hc) (W' := W2) (by
          have hr' : (Instr.lookup 122 (.map (some mb)) (.agg #[.int .i64 (r : Int), .int .i64 s.a, .int .i64 s.b, .int .i64 s.c, .int .i64 s.d]) true).run Try.prog W2 = _ := hr
          simp [execOp, Act.eval, e33, e34, hr', Result.andThen]) ?_
        exact hK _ _ ⟨x, hx, hk, rfl⟩ trivial (hA.ph.other (by decide) (by decide))
    · -- 6: Op.move t35
      intro li a1 W2 hA K hK
      have e35 := hA.val 5 35 (by kernel_rfl) (by kernel_rfl)
      obtain ⟨q1, q2, q3, q4, q5, q6, q7⟩ := HQ.out W2 hA.ph.below
      -- raw
      obtain ⟨x, hx, hk, e35'⟩ := e35
      refine opStep none 0 rfl rfl (fun c hc => by cases hc) ?_
      go_simp
      exact hK _ _ ⟨x, hx, hk, rfl⟩ trivial (hA.ph.other (by decide) (by decide))
    · -- 7: Op.extract t29 0
      intro li a1 W2 hA K hK
      have e29 := hA.val 6 29 (by kernel_rfl) (by kernel_rfl)
      obtain ⟨q1, q2, q3, q4, q5, q6, q7⟩ := HQ.out W2 hA.ph.below
      -- raw
      obtain ⟨x, hx, hk, e29'⟩ := e29
      refine opStep none 0 rfl rfl (fun c hc => by cases hc) ?_
      go_simp
      exact hK _ _ ⟨x, hx, hk, rfl⟩ trivial (hA.ph.other (by decide) (by decide))
    · -- 8: Op.extract t29 1
      intro li a1 W2 hA K hK
      have e29 := hA.val 6 29 (by kernel_rfl) (by kernel_rfl)
      obtain ⟨q1, q2, q3, q4, q5, q6, q7⟩ := HQ.out W2 hA.ph.below
      -- raw
      obtain ⟨x, hx, hk, e29'⟩ := e29
      refine opStep none 0 rfl rfl (fun c hc => by cases hc) ?_
      go_simp
      exact hK _ _ rfl trivial (hA.ph.other (by decide) (by decide))
    · -- 9: Op.alloc 91
      intro li a1 W2 hA K hK
      obtain ⟨q1, q2, q3, q4, q5, q6, q7⟩ := HQ.out W2 hA.ph.below
      refine opStep none 0 rfl rfl (fun c hc => by cases hc) ?_
      go_simp
      have hz := hA.ph.sz hA.new
      rw [hz]
      exact hK _ _ rfl trivial (hA.ph.alloc hA.new (by rw [hA.lsize]; decide))
    · -- 10: Op.store 91 t5 t36
      intro li a1 W2 hA K hK
      have e5 : a1.tmps.getD 5 undef = .pointer (some ⟨W1.heap.size, 0, none⟩) := hA.val 9 5 (by kernel_rfl) (by kernel_rfl)
      have e36 := hA.val 7 36 (by kernel_rfl) (by kernel_rfl)
      obtain ⟨q1, q2, q3, q4, q5, q6, q7⟩ := HQ.out W2 hA.ph.below
      -- raw
      obtain ⟨x, hx, hk, e36'⟩ := e36
      obtain ⟨kx, sx, Ax, cx, g1, g2, g3, g4, g5⟩ := HG.out x hx
      have hl9 := hA.has 9 (by kernel_rfl)
      obtain ⟨u0, u1, u2, hb2⟩ := hA.ph.blk hl9
      obtain ⟨c0, c1, c2⟩ := hb2.c3
      have f0 := hb2.frozen 0
      have f1 := hb2.frozen 1
      have f2 := hb2.frozen 2
      rw [g4, restV] at e36'
      refine opStep none 0 rfl rfl (fun c hc => by cases hc) ?_
      go_simp
      refine hK undef _ trivial trivial (hA.ph.store (Val := fun cells => ∃ x ∈ es.toList, x.key = spotV r s ∧ x.val = .agg cells) hl9 hb2 ?_)
      exact ⟨x, hx, hk, by rw [g4, restV]⟩
  · intro li a1 W2 hD
    have e37 : a1.tmps.getD 37 undef = .bool true := hD.val 8 37 (by kernel_rfl) (by kernel_rfl)
    have e4 := hD.par 4 (by kernel_rfl)
    have e5 : a1.tmps.getD 5 undef = .pointer (some ⟨W1.heap.size, 0, none⟩) := hD.val 9 5 (by kernel_rfl) (by kernel_rfl)
    have hs : a1.tmps.size = 92 := hD.size
    have hd : a1.defers = [] := hD.defers
    refine tail_val (i := 11) (W' := W2) (v := .bool true) none 0 rfl rfl rfl (fun c hc => by cases hc) (by go_simp) (by rw [hs]; decide) ?_
    intro a4 s4 d4 f6 o4
    obtain ⟨u0, u1, u2, hb5, x, hx, hk, hv⟩ := hD.ph.val (hD.all 10 (by decide))
    have hr2 := hr1.keep hD.ph.below
    have HB2 := hid (hb1.trans (hD.ph.below.mono hb1.size))
    have f4 := (o4 4 (by decide)).trans e4
    have f5 := (o4 5 (by decide)).trans e5
    replace hs := s4.trans hs
    replace hd := d4.trans hd
    refine wpListIn_nil ?_
    have e := act_eq hs hd
    obtain ⟨g, hg⟩ : ∃ g : Nat → Value, g = fun i => a4.tmps.getD i undef := ⟨_, rfl⟩
    rw [← hg] at e
    have g4 : g 4 = .pointer (some ⟨W.heap.size + 1 + 1, 0, none⟩) := by rw [hg]; exact f4
    have g5 : g 5 = .pointer (some ⟨W1.heap.size, 0, none⟩) := by rw [hg]; exact f5
    have g6 : g 6 = .bool true := by rw [hg]; exact f6
    rw [e]
    have hlt2 := hr2.lt
    obtain ⟨c0, c1, c2⟩ := hr2.c3
    have fr0 := hr2.frozen 0
    have fr1 := hr2.frozen 1
    have fr2 := hr2.frozen 2
    obtain ⟨d0, d1, d2⟩ := hb5.c3
    obtain ⟨kx, sx, Ax, cx, _, _, _, gx, _⟩ := HG.out x hx
    rw [hv, restV] at gx
    injection gx with gx
    simp only [Array.mk.injEq, List.cons.injEq, and_true] at gx
    obtain ⟨rfl, rfl, rfl⟩ := gx
    have HX := hid (show ∃ x ∈ es.toList, x.key = spotV r s ∧ x.val = .agg #[.int .i64 (spec b cs fs kx sx).ways, .int .i64 (spec b cs fs kx sx).change, .slice Ax (spec b cs fs kx sx).first.length cx] from ⟨x, hx, hk, hv⟩)
    clear hs hd e s4 d4 f6 o4 f4 f5 e4 e5 e37 hg hD hb5 hx hk hv HE HG HZ HM HQ hr1 hb1 hw1 hs1 hne hr2
    simp only [List.range, List.range.loop, List.map_cons, List.map_nil]
    simp only [g4, g5, g6]
    clear g4 g5 g6
    generalize spec b cs fs kx sx = sp at *
    go_wp2
    obtain ⟨x, hx, hk, hv⟩ := HX.out
    refine bodyPost_ret (v := .agg #[.int .i64 sp.ways, .int .i64 sp.change, .slice Ax sp.first.length cx]) (by simp [results, Try.results48, go_sem, c0, c1, c2]) rfl ⟨⟨x, hx, hk, by rw [hv]⟩, ?_⟩
    exact ((HB2.out.setCell (by simp; omega) _).setCell (by simp; omega) _).setCell (by simp; omega) _
end Go.Proofs.Ytgoianldiomdoaa
/- from: a spot that is not known: the loop. -/
namespace Go.Proofs.Ytgoianldiomdoaa
open Go.RowKit Go.Shelf
attribute [local go_sem] Oper.semAt_some

theorem choices_any (P : Nat) (r : Int) (W : World) : Calls Try.prog 54 #[.pointer (some ⟨P, 0, none⟩), .int .i64 r] W fun e W' =>
    e = .returned (.func (.func 82) #[] #[.pointer (some ⟨W.heap.size, 0, none⟩), .pointer (some ⟨W.heap.size + 1, 0, none⟩)]) ∧ Below W.heap.size W W' ∧ Blk W' W.heap.size 83 #[.pointer (some ⟨P, 0, none⟩)] ∧ Blk W' (W.heap.size + 1) 3 #[.int .i64 r] := by
  go_enter Try.func54, Try.ntmps54
  go_wp2
  go_ret
  refine ⟨rfl, ((Below.refl _ _).alloc (Nat.le_refl _) _).alloc (by simp) _, (Blk.new _ _ _).alloc _, ?_⟩
  have := Blk.new (W.alloc (.cells #[.pointer (some ⟨P, 0, none⟩)] 83)) 3 #[.int .i64 r]
  rwa [World.size_alloc] at this

theorem grown_then {A B C : World} {m : Nat} (h : A.grownBy B (some m)) (k : B.grownBy C (some m)) : A.grownBy C (some m) :=
  ⟨k.os.trans h.os, k.tape.trans h.tape, k.output.trans h.output, Nat.le_trans h.size k.size, fun i hi hn => (k.block i (Nat.lt_of_lt_of_le hi h.size) hn).trans (h.block i hi hn)⟩
theorem grown_new {A B C : World} {m z : Nat} (h : A.grownBy B (some m)) (k : B.grownBy C (some z)) (hz : A.heap.size ≤ z) : A.grownBy C (some m) :=
  ⟨k.os.trans h.os, k.tape.trans h.tape, k.output.trans h.output, Nat.le_trans h.size k.size, fun i hi hn => (k.block i (Nat.lt_of_lt_of_le hi h.size) (fun e => by cases e; omega)).trans (h.block i hi hn)⟩

theorem pow16 {k : Nat} (h : k ≤ 4) : (16 : Int) ^ k ≤ 65536 := by
  have : k = 0 ∨ k = 1 ∨ k = 2 ∨ k = 3 ∨ k = 4 := by omega
  rcases this with rfl | rfl | rfl | rfl | rfl <;> decide
theorem stepR_skip {cells l : List Int} {nx acc : Rst} (h : (nx.ways == 0) = true) : stepR cells nx acc l = acc := by unfold stepR; rw [if_pos h]
theorem stepR_take {cells l : List Int} {nx acc : Rst} (h : (nx.ways == 0) = false) (h2 : (acc.ways == 0 || decide (nx.change + rowCost l cells < acc.change)) = true) : stepR cells nx acc l = ⟨acc.ways + nx.ways, nx.change + rowCost l cells, l⟩ := by unfold stepR; rw [if_neg (by rw [h]; decide), if_pos h2]
theorem stepR_more {cells l : List Int} {nx acc : Rst} (h : (nx.ways == 0) = false) (h2 : (acc.ways == 0 || decide (nx.change + rowCost l cells < acc.change)) = false) : stepR cells nx acc l = ⟨acc.ways + nx.ways, acc.change, acc.first⟩ := by unfold stepR; rw [if_neg (by rw [h]; decide), if_neg (by rw [h2]; decide)]

/-- what holds when j lists are done -/
structure LoopI (P n mb : Nat) (b : Int) (At : Option Addr) (ct : Nat) (cs : List (List Int)) (Af : Option Addr) (cf : Nat) (fs : List Fx) (W0 : World) (s : S4) (r k B7 : Nat) (Y : Nat → Prop) (y j : Nat) (W : World) : Prop where
  env : FEnv P n mb b At ct cs Af cf fs W
  memo : Memo b cs fs mb (fun q => Y q ∨ q = y) W
  b2 : Blk W W0.heap.size 83 #[.pointer (some ⟨P, 0, none⟩)]
  b3 : Blk W (W0.heap.size + 1) 89 #[.int .i64 (r : Int), .int .i64 s.a, .int .i64 s.b, .int .i64 s.c, .int .i64 s.d]
  b4 : Blk W (W0.heap.size + 1 + 1) 91 #[.int .i64 0, .int .i64 0, .slice none 0 0]
  base : W0.grownBy W (some mb)
  acc : ∃ A c, Blk W B7 91 #[.int .i64 (specTo b cs fs k s j).ways, .int .i64 (specTo b cs fs k s j).change, .slice A (specTo b cs fs k s j).first.length c] ∧ Good (fun q => Y q ∨ q = y) W (specTo b cs fs k s j) A c
theorem LoopI.grown {P n mb : Nat} {b : Int} {At : Option Addr} {ct : Nat} {cs : List (List Int)} {Af : Option Addr} {cf : Nat} {fs : List Fx} {W0 : World} {s : S4} {r k B7 : Nat} {Y : Nat → Prop} {y j z lo : Nat} {W W' : World}
    (h : LoopI P n mb b At ct cs Af cf fs W0 s r k B7 Y y j W) (hz : lo ≤ z) (hg : W.grownBy W' (some z)) (hzc : z = y ∨ ∃ o, W.heap[z]? = some o ∧ o.isCells = false) (hP : P < lo) (hn : n ≤ lo) (hmb : mb < lo) (h0 : W0.heap.size + 1 + 1 < lo) (h7 : B7 < lo) :
    LoopI P n mb b At ct cs Af cf fs W0 s r k B7 Y y j W' := by
  have hk : Keep (fun q => q = z) W W' := Keep.of_grown hg rfl
  have hzc' : (Y z ∨ z = y) ∨ ∃ o, W.heap[z]? = some o ∧ o.isCells = false := by
    rcases hzc with h | h
    · exact .inl (.inr h)
    · exact .inr h
  obtain ⟨A, c, g1, g2⟩ := h.acc
  exact ⟨h.env.keep hk (by omega) (fun q hq => by omega), h.memo.grown hg (by omega) hzc', hk.blk h.b2 (by omega), hk.blk h.b3 (by omega), hk.blk h.b4 (by omega), grown_new h.base hg (by omega), A, c, hk.blk g1 (by omega), g2.grown hg hzc'⟩

set_option maxRecDepth 100000 in
set_option maxHeartbeats 8000000 in
theorem from_miss {P n mb : Nat} {b : Int} {At : Option Addr} {ct : Nat} {cs : List (List Int)} {Af : Option Addr} {cf : Nat} {fs : List Fx} {W : World} {s : S4} {r : Nat} {Y : Nat → Prop} {k : Nat} {es : Array MapEntry} {clock : Nat} (he : FEnv P n mb b At ct cs Af cf fs W) (ok : TOk b cs fs) (hr : r + (k + 1) = cs.length) (hs : Small (10100 * (r : Int)) s) (hY : Y mb) (hYl : ∀ q, Y q → q < W.heap.size) (hmemo : Memo b cs fs mb Y W) (hm : W.heap[mb]? = some (.map es clock)) (hk : SpotKeys es)
    (hno : ∀ x ∈ es.toList, x.key ≠ spotV r s) (hP : P ≠ mb) (hnm : n ≤ mb)
    (hfrom : ∀ (s' : S4) (Y' : Nat → Prop) (W' : World), Small (10100 * ((r + 1 : Nat) : Int)) s' → Y' mb → (∀ q, Y' q → q < W'.heap.size) → FEnv P n mb b At ct cs Af cf fs W' → Memo b cs fs mb Y' W' →
      Calls Try.prog 48 #[.pointer (some ⟨P, 0, none⟩), spotV ((r : Int) + 1) s'] W' fun e W'' => ∃ A c, e = .returned (restV (spec b cs fs k s') A c) ∧ W'.grownBy W'' (some mb) ∧ Memo b cs fs mb Y' W'' ∧ Good Y' W'' (spec b cs fs k s') A c) :
    Calls Try.prog 48 #[.pointer (some ⟨P, 0, none⟩), spotV (r : Int) s] W fun e W' => ∃ A c, e = .returned (restV (spec b cs fs (k + 1) s) A c) ∧ W.grownBy W' (some mb) ∧ Memo b cs fs mb Y W' ∧ Good Y W' (spec b cs fs (k + 1) s) A c := by
  have HE := hid he
  obtain ⟨k0, k1, k2, k3⟩ := he.reads
  have hlt := he.bp.lt
  have hne : ((r : Int) == (cs.length : Int)) = false := by simp; omega
  have hrl : r ≤ 4 := by have := ok.okc.n2; omega
  have hs2 : Small 200000 s := hs.mono (by omega)
  have hkey := spot_key (r := (r : Int)) (s := s) ⟨by omega, by omega⟩ (hs2.mono (by decide))
  have hml : mb < W.heap.size := (Array.getElem?_eq_some_iff.1 hm).1
  have H0 := hid (And.intro hml (And.intro hm (And.intro hk (And.intro hkey hno))))
  have HH := hid (And.intro ok (And.intro hr (And.intro hs (And.intro hY (And.intro hYl (And.intro hmemo (And.intro hP (And.intro hnm hfrom))))))))
  have HZ := hid (fun W => rest_zero W)
  have HL := hid (And.intro hlt (And.intro hml he.hn))
  clear he ok hr hs hm hk hno hkey hml hY hYl hmemo hP hnm hfrom hrl hs2
  refine callsOf (ro := none) (n := 0) ?_
  refine callsIn_of_wp_marks Try.func48 rfl trivial ?_ rfl
  refine wpIn_wide.2 ?_
  simp only [Try.ntmps48, List.size_toArray, List.length_cons, List.length_nil, Nat.reduceAdd, Nat.reduceSub, Array.replicate_succ, Array.replicate_zero, List.push_toArray, List.append_toArray, List.nil_append, List.cons_append]
  simp only [spotV]
  go_wp2
  refine gen (p := Code.wp _ _ _ _) (fun W1 => Below W.heap.size W W1 ∧ Blk W1 W.heap.size 83 #[.pointer (some ⟨P, 0, none⟩)] ∧ Blk W1 (W.heap.size + 1) 89 #[.int .i64 (r : Int), .int .i64 s.a, .int .i64 s.b, .int .i64 s.c, .int .i64 s.d] ∧ Blk W1 (W.heap.size + 1 + 1) 91 #[.int .i64 0, .int .i64 0, .slice none 0 0]) ⟨?_, ?_, ?_, ?_⟩ ?_
  · exact (((Below.refl _ _).alloc (Nat.le_refl _) _).alloc (by simp) _).alloc (by simp; omega) _
  · exact ((Blk.new _ _ _).alloc _).alloc _
  · have := (Blk.new (W.alloc (.cells #[.pointer (some ⟨P, 0, none⟩)] 83)) 89 #[.int .i64 (r : Int), .int .i64 s.a, .int .i64 s.b, .int .i64 s.c, .int .i64 s.d]).alloc (.cells #[.int .i64 0, .int .i64 0, .slice none 0 0] 91)
    rwa [World.size_alloc] at this
  · have := Blk.new ((W.alloc (.cells #[.pointer (some ⟨P, 0, none⟩)] 83)).alloc (.cells #[.int .i64 (r : Int), .int .i64 s.a, .int .i64 s.b, .int .i64 s.c, .int .i64 s.d] 89)) 91 #[.int .i64 0, .int .i64 0, .slice none 0 0]
    rwa [World.size_alloc, World.size_alloc] at this
  rintro W1 ⟨hb1, hw1, hs1, hr1⟩
  have HB1 := hid hb1
  have q1 := xt_c1 hw1
  obtain ⟨q2, q3, q4, q5, q6⟩ := xt_c5 hs1
  obtain ⟨q7, q8, q9, q10⟩ := xt_c4 (HE.out.below hb1).bp
  clear hb1 k0 k1 k2 k3 hlt
  refine wp_region_quiet_xt (by kernel_rfl) (by kernel_rfl) ?_
  repeat (go_big_quiet_step (fail))
  refine wpQuiet_nil ?_
  intro W2 hw2
  replace hw2 := of_xt hw2
  clear q1 q2 q3 q4 q5 q6 q7 q8 q9 q10
  go_wp2
  refine gen (p := Code.wp _ _ _ _) (fun W3 => Below W.heap.size W W3 ∧ Blk W3 W.heap.size 83 #[.pointer (some ⟨P, 0, none⟩)] ∧ Blk W3 (W.heap.size + 1) 89 #[.int .i64 (r : Int), .int .i64 s.a, .int .i64 s.b, .int .i64 s.c, .int .i64 s.d] ∧ Blk W3 (W.heap.size + 1 + 1) 91 #[.int .i64 0, .int .i64 0, .slice none 0 0]) ⟨HB1.out.trans (hw2.mono HB1.out.size), hw1.keep hw2, hs1.keep hw2, hr1.keep hw2⟩ ?_
  clear hw2 hw1 hs1 hr1 HB1
  clear W2 W1
  rintro W1 ⟨hb1, hw1, hs1, hr1⟩
  have HM := hid (show mb < W1.heap.size ∧ W1.heap[mb]? = some (.map es clock) ∧ SpotKeys es ∧ (∃ l, keyOf Try.prog 89 (spotV r s) = some l) ∧ (∀ x ∈ es.toList, x.key ≠ spotV r s) from
    ⟨Nat.lt_of_lt_of_le H0.out.1 hb1.size, (hb1.block mb H0.out.1).trans H0.out.2.1, H0.out.2.2.1, H0.out.2.2.2.1, H0.out.2.2.2.2⟩)
  clear H0
  have HQ := hid (show ∀ W2, Below W1.heap.size W1 W2 → W2.cell? ⟨W.heap.size, 0, none⟩ = some (.pointer (some ⟨P, 0, none⟩)) ∧ W2.cell? ⟨W.heap.size + 1, 0, none⟩ = some (.int .i64 (r : Int)) ∧ W2.cell? ⟨W.heap.size + 1, 1, none⟩ = some (.int .i64 s.a) ∧ W2.cell? ⟨W.heap.size + 1, 2, none⟩ = some (.int .i64 s.b) ∧ W2.cell? ⟨W.heap.size + 1, 3, none⟩ = some (.int .i64 s.c) ∧ W2.cell? ⟨W.heap.size + 1, 4, none⟩ = some (.int .i64 s.d) ∧ W2.cell? ⟨P, 3, none⟩ = some (.map (some mb)) from
    fun W2 hb => ⟨(hw1.keep hb).c1, (hs1.keep hb).c5.1, (hs1.keep hb).c5.2.1, (hs1.keep hb).c5.2.2.1, (hs1.keep hb).c5.2.2.2.1, (hs1.keep hb).c5.2.2.2.2, (((HE.out.below hb1).below hb).bp).c4.2.2.2⟩)
  refine (wpIn_wide (n := 0)).1 ?_
  refine wpIn_region_each 11 (fun i v _ => match i with | 0 => v = .pointer (some ⟨P, 0, none⟩) | 1 => v = .pointer (some ⟨P, 0, none⟩) | 2 => v = .pointer (some ⟨P, 3, none⟩) | 3 => v = .map (some mb) | 4 => v = .agg #[.int .i64 (r : Int), .int .i64 s.a, .int .i64 s.b, .int .i64 s.c, .int .i64 s.d] | 5 => v = .tuple #[.agg #[.int .i64 0, .int .i64 0, .slice none 0 0], .bool false] | 6 => v = .tuple #[.agg #[.int .i64 0, .int .i64 0, .slice none 0 0], .bool false] | 7 => v = .agg #[.int .i64 0, .int .i64 0, .slice none 0 0] | 8 => v = .bool false | 9 => v = .pointer (some ⟨W1.heap.size, 0, none⟩) | _ => True) (fun _ _ => True) (Ph5 (fun _ => True) W1) (by kernel_rfl) (by kernel_rfl) ?_ (fun _ _ => trivial) trivial (Ph5.start _ (by decide)) (by kernel_rfl) ?_ ?_
  · intro i v _ _ _ h; exact h
  · refine ⟨?_, ?_, ?_, ?_, ?_, ?_, ?_, ?_, ?_, ?_, ?_, trivial⟩
    · -- 0: Op.load 83 t2
      intro li a1 W2 hA K hK
      have e2 := hA.par 2 (by kernel_rfl)
      obtain ⟨q1, q2, q3, q4, q5, q6, q7⟩ := HQ.out W2 hA.ph.below
      refine opStep none 0 rfl rfl (fun c hc => by cases hc) ?_
      go_simp
      exact hK _ _ rfl trivial (hA.ph.other (by decide) (by decide))
    · -- 1: Op.nilCheck t30
      intro li a1 W2 hA K hK
      have e30 : a1.tmps.getD 30 undef = .pointer (some ⟨P, 0, none⟩) := hA.val 0 30 (by kernel_rfl) (by kernel_rfl)
      obtain ⟨q1, q2, q3, q4, q5, q6, q7⟩ := HQ.out W2 hA.ph.below
      refine opStep none 0 rfl rfl (fun c hc => by cases hc) ?_
      go_simp
      exact hK _ _ rfl trivial (hA.ph.other (by decide) (by decide))
    · -- 2: Op.fieldAddr 124 t31 1
      intro li a1 W2 hA K hK
      have e31 : a1.tmps.getD 31 undef = .pointer (some ⟨P, 0, none⟩) := hA.val 1 31 (by kernel_rfl) (by kernel_rfl)
      obtain ⟨q1, q2, q3, q4, q5, q6, q7⟩ := HQ.out W2 hA.ph.below
      refine opStep none 0 rfl rfl (fun c hc => by cases hc) ?_
      go_simp
      exact hK _ _ rfl trivial (hA.ph.other (by decide) (by decide))
    · -- 3: Op.load 122 t32
      intro li a1 W2 hA K hK
      have e32 : a1.tmps.getD 32 undef = .pointer (some ⟨P, 3, none⟩) := hA.val 2 32 (by kernel_rfl) (by kernel_rfl)
      obtain ⟨q1, q2, q3, q4, q5, q6, q7⟩ := HQ.out W2 hA.ph.below
      refine opStep none 0 rfl rfl (fun c hc => by cases hc) ?_
      go_simp
      exact hK _ _ rfl trivial (hA.ph.other (by decide) (by decide))
    · -- 4: Op.load 89 t3
      intro li a1 W2 hA K hK
      have e3 := hA.par 3 (by kernel_rfl)
      obtain ⟨q1, q2, q3, q4, q5, q6, q7⟩ := HQ.out W2 hA.ph.below
      refine opStep none 0 rfl rfl (fun c hc => by cases hc) ?_
      go_simp
      exact hK _ _ rfl trivial (hA.ph.other (by decide) (by decide))
    · -- 5: Op.lookup 122 t33 t34 true
      intro li a1 W2 hA K hK
      have e33 : a1.tmps.getD 33 undef = .map (some mb) := hA.val 3 33 (by kernel_rfl) (by kernel_rfl)
      have e34 : a1.tmps.getD 34 undef = .agg #[.int .i64 (r : Int), .int .i64 s.a, .int .i64 s.b, .int .i64 s.c, .int .i64 s.d] := hA.val 4 34 (by kernel_rfl) (by kernel_rfl)
      obtain ⟨q1, q2, q3, q4, q5, q6, q7⟩ := HQ.out W2 hA.ph.below
      -- raw
      have hq := (hA.ph.below.block mb HM.out.1).trans HM.out.2.1
      rcases spot_look (t := 122) true Try.underlying122 (HZ.out _) hq HM.out.2.2.1 HM.out.2.2.2.1 with ⟨hr, _⟩ | ⟨x, hx, hk, _⟩
      · refine opValue (v := .tuple #[.agg #[.int .i64 0, .int .i64 0, .slice none 0 0], .bool false]) none 0 rfl rfl (fun c hc => by cases hc) (W' := W2) (by
          have hr' : (Instr.lookup 122 (.map (some mb)) (.agg #[.int .i64 (r : Int), .int .i64 s.a, .int .i64 s.b, .int .i64 s.c, .int .i64 s.d]) true).run Try.prog W2 = _ := hr
          simp [execOp, Act.eval, e33, e34, hr', Result.andThen]) ?_
        exact hK _ _ rfl trivial (hA.ph.other (by decide) (by decide))
      · exact absurd hk (HM.out.2.2.2.2 x hx)
    · -- 6: Op.move t35
      intro li a1 W2 hA K hK
      have e35 : a1.tmps.getD 35 undef = .tuple #[.agg #[.int .i64 0, .int .i64 0, .slice none 0 0], .bool false] := hA.val 5 35 (by kernel_rfl) (by kernel_rfl)
      obtain ⟨q1, q2, q3, q4, q5, q6, q7⟩ := HQ.out W2 hA.ph.below
      refine opStep none 0 rfl rfl (fun c hc => by cases hc) ?_
      go_simp
      exact hK _ _ rfl trivial (hA.ph.other (by decide) (by decide))
    · -- 7: Op.extract t29 0
      intro li a1 W2 hA K hK
      have e29 : a1.tmps.getD 29 undef = .tuple #[.agg #[.int .i64 0, .int .i64 0, .slice none 0 0], .bool false] := hA.val 6 29 (by kernel_rfl) (by kernel_rfl)
      obtain ⟨q1, q2, q3, q4, q5, q6, q7⟩ := HQ.out W2 hA.ph.below
      refine opStep none 0 rfl rfl (fun c hc => by cases hc) ?_
      go_simp
      exact hK _ _ rfl trivial (hA.ph.other (by decide) (by decide))
    · -- 8: Op.extract t29 1
      intro li a1 W2 hA K hK
      have e29 : a1.tmps.getD 29 undef = .tuple #[.agg #[.int .i64 0, .int .i64 0, .slice none 0 0], .bool false] := hA.val 6 29 (by kernel_rfl) (by kernel_rfl)
      obtain ⟨q1, q2, q3, q4, q5, q6, q7⟩ := HQ.out W2 hA.ph.below
      refine opStep none 0 rfl rfl (fun c hc => by cases hc) ?_
      go_simp
      exact hK _ _ rfl trivial (hA.ph.other (by decide) (by decide))
    · -- 9: Op.alloc 91
      intro li a1 W2 hA K hK
      obtain ⟨q1, q2, q3, q4, q5, q6, q7⟩ := HQ.out W2 hA.ph.below
      refine opStep none 0 rfl rfl (fun c hc => by cases hc) ?_
      go_simp
      have hz := hA.ph.sz hA.new
      rw [hz]
      exact hK _ _ rfl trivial (hA.ph.alloc hA.new (by rw [hA.lsize]; decide))
    · -- 10: Op.store 91 t5 t36
      intro li a1 W2 hA K hK
      have e5 : a1.tmps.getD 5 undef = .pointer (some ⟨W1.heap.size, 0, none⟩) := hA.val 9 5 (by kernel_rfl) (by kernel_rfl)
      have e36 : a1.tmps.getD 36 undef = .agg #[.int .i64 0, .int .i64 0, .slice none 0 0] := hA.val 7 36 (by kernel_rfl) (by kernel_rfl)
      obtain ⟨q1, q2, q3, q4, q5, q6, q7⟩ := HQ.out W2 hA.ph.below
      -- raw
      have hl9 := hA.has 9 (by kernel_rfl)
      obtain ⟨u0, u1, u2, hb2⟩ := hA.ph.blk hl9
      obtain ⟨c0, c1, c2⟩ := hb2.c3
      have f0 := hb2.frozen 0
      have f1 := hb2.frozen 1
      have f2 := hb2.frozen 2
      refine opStep none 0 rfl rfl (fun c hc => by cases hc) ?_
      go_simp
      refine hK undef _ trivial trivial (hA.ph.store (Val := fun cells => True) hl9 hb2 trivial)
  · intro li a1 W2 hD
    have e37 : a1.tmps.getD 37 undef = .bool false := hD.val 8 37 (by kernel_rfl) (by kernel_rfl)
    have e2 := hD.par 2 (by kernel_rfl)
    have e3 := hD.par 3 (by kernel_rfl)
    have e4 := hD.par 4 (by kernel_rfl)
    have hs : a1.tmps.size = 92 := hD.size
    have hd : a1.defers = [] := hD.defers
    refine tail_val (i := 11) (W' := W2) (v := .bool false) none 0 rfl rfl rfl (fun c hc => by cases hc) (by go_simp) (by rw [hs]; decide) ?_
    intro a4 s4 d4 f6 o4
    have hbl := hD.ph.below
    have HB2 := hid (hb1.trans (hbl.mono hb1.size))
    have f2 := (o4 2 (by decide)).trans e2
    have f3 := (o4 3 (by decide)).trans e3
    have f4 := (o4 4 (by decide)).trans e4
    replace hs := s4.trans hs
    replace hd := d4.trans hd
    refine wpListIn_nil ?_
    have e := act_eq hs hd
    obtain ⟨g, hg⟩ : ∃ g : Nat → Value, g = fun i => a4.tmps.getD i undef := ⟨_, rfl⟩
    rw [← hg] at e
    have g2 : g 2 = .pointer (some ⟨W.heap.size, 0, none⟩) := by rw [hg]; exact f2
    have g3 : g 3 = .pointer (some ⟨W.heap.size + 1, 0, none⟩) := by rw [hg]; exact f3
    have g4 : g 4 = .pointer (some ⟨W.heap.size + 1 + 1, 0, none⟩) := by rw [hg]; exact f4
    have g6 : g 6 = .bool false := by rw [hg]; exact f6
    rw [e]
    have hw2 := hw1.keep hbl
    have hs2 := hs1.keep hbl
    have hr2 := hr1.keep hbl
    clear hs hd e s4 d4 f6 o4 f2 f3 f4 e2 e3 e4 e37 hg hD HM HQ hr1 hb1 hw1 hs1 hne HZ hbl
    simp only [List.range, List.range.loop, List.map_cons, List.map_nil]
    simp only [g2, g3, g4, g6]
    clear g2 g3 g4 g6
    have q1 := hw2.c1
    have q2 := hs2.c5.1
    have l2 := hw2.lt
    have l3 := hs2.lt
    go_wp2_with (go_at_call 54; refine (choices_any _ _ _).mono ?_; rintro e W5 ⟨rfl, hb5, hgw, hgr⟩)
    have hz : (W2.alloc (.cells #[.int .i64 0, .int .i64 0, .slice none 0 0] 91)).heap.size = W2.heap.size + 1 := by simp
    have hb25 : Below W2.heap.size W2 W5 := ((Below.refl _ _).alloc (Nat.le_refl _) _).trans (hb5.mono (by simp))
    have hb7 := (Blk.new W2 91 #[.int .i64 0, .int .i64 0, .slice none 0 0]).keep hb5
    rw [hz] at hgw hgr
    have HBW := hid (HB2.out.trans (hb25.mono HB2.out.size))
    have hw5 := hw2.keep hb25
    have hs5 := hs2.keep hb25
    have hr5 := hr2.keep hb25
    have l4 := hr2.lt
    have hgl := hgr.lt
    have hW2 := HB2.out.size
    clear hb25 hb5 hz hw2 hs2 hr2 HB2 q1 q2 li a1 a4
    have HN := hid (And.intro hw5 (And.intro hs5 (And.intro hr5 (And.intro hb7 (And.intro hgw hgr)))))
    have HL2 := hid (And.intro l2 (And.intro l3 (And.intro l4 (And.intro hgl hW2))))
    clear hw5 hs5 hr5 hb7 hgw hgr l2 l3 l4 hgl hW2
    generalize hB7 : W2.heap.size = B7 at *
    clear hB7
    refine (wpIn_wide (n := 0)).1 ?_
    apply wpIn_rangeFunc_seq (gf := 82) (lb := #[.pointer (some ⟨B7 + 1, 0, none⟩), .pointer (some ⟨B7 + 1 + 1, 0, none⟩)]) (xs := outsAt b cs fs (k + 1)) (X := fun q => q = B7) (w0 := W5) (q := 8) (I := LoopI P n mb b At ct cs Af cf fs W s r k B7 Y)
    case hg => rfl
    case eg => exact enters_of Try.func82 (by kernel_rfl) rfl
    case hb0 => exact Below.refl _ _
    case hassign =>
      intro l v Wa K hK
      gi_wp2
      exact hK
    case hseq =>
      obtain ⟨ok, hr, hs, hY, hYl, hmemo, hP, hnm, hfrom⟩ := HH.out
      obtain ⟨hw5, hs5, hr5, hb7, hgw, hgr⟩ := HN.out
      obtain ⟨l2, l3, l4, hgl, hW2⟩ := HL2.out
      have hE5 := HE.out.below HBW.out
      have hrow := rowAt_get (cs := cs) (k := k) (by omega)
      have hrk : cs.length - (k + 1) = r := by omega
      have hn0 := HL.out.2.2
      have hPl := HL.out.1
      have := HBW.out.size
      rw [hrk] at hrow
      have := choices1_any (X := fun q => q = B7) hgw hgr hE5.bp hE5.hn hE5.ic hE5.ix hrow (ok.row hrow) (fun q hq => by subst hq; omega)
      unfold outsAt
      rw [hrk]
      exact this
    case hI =>
      intro y j Wa Wb z hy hz hi hg hzc
      obtain ⟨l2, l3, l4, hgl, hW2⟩ := HL2.out
      obtain ⟨hPl, hml, hn0⟩ := HL.out
      exact hi.grown hz hg hzc (by omega) (by omega) (by omega) (by omega) (by omega)
    case h0 =>
      intro y hy
      obtain ⟨ok, hr, hs, hY, hYl, hmemo, hP, hnm, hfrom⟩ := HH.out
      obtain ⟨hw5, hs5, hr5, hb7, hgw, hgr⟩ := HN.out
      have hsz := HBW.out.size
      refine ⟨HE.out.below HBW.out, (hmemo.below HBW.out).fresh (fun q hq => or_of hq id (fun e => by omega)), hw5, hs5, hr5, grown_of_below HBW.out _, none, 0, ?_, ?_⟩
      · rw [specTo_zero]; exact hb7
      · rw [specTo_zero]
        exact ⟨(fun q v hq => by simp at hq), (fun a e => by cases e), Nat.le_refl _, Nat.zero_le _, fun _ => rfl⟩
    case hdone =>
      intro D y Wd hD hy hi hkp hdef
      obtain ⟨l2, l3, l4, hgl, hW2⟩ := HL2.out
      obtain ⟨A0, ca, hacc, hgood⟩ := hi.acc
      rw [specTo_all] at hacc hgood
      have HI := hid hi
      have HQ := hid (show ∀ W1, Below Wd.heap.size Wd W1 → W1.cell? ⟨W.heap.size, 0, none⟩ = some (.pointer (some ⟨P, 0, none⟩)) ∧ W1.cell? ⟨W.heap.size + 1, 0, none⟩ = some (.int .i64 (r : Int)) ∧ W1.cell? ⟨W.heap.size + 1, 1, none⟩ = some (.int .i64 s.a) ∧ W1.cell? ⟨W.heap.size + 1, 2, none⟩ = some (.int .i64 s.b) ∧ W1.cell? ⟨W.heap.size + 1, 3, none⟩ = some (.int .i64 s.c) ∧ W1.cell? ⟨W.heap.size + 1, 4, none⟩ = some (.int .i64 s.d) ∧ W1.cell? ⟨P, 3, none⟩ = some (.map (some mb)) ∧ W1.cell? ⟨B7, 0, none⟩ = some (.int .i64 (spec b cs fs (k + 1) s).ways) ∧ W1.cell? ⟨B7, 1, none⟩ = some (.int .i64 (spec b cs fs (k + 1) s).change) ∧ W1.cell? ⟨B7, 2, none⟩ = some (.slice A0 (spec b cs fs (k + 1) s).first.length ca) from
        fun W1 hb => ⟨(hi.b2.keep hb).c1, (hi.b3.keep hb).c5.1, (hi.b3.keep hb).c5.2.1, (hi.b3.keep hb).c5.2.2.1, (hi.b3.keep hb).c5.2.2.2.1, (hi.b3.keep hb).c5.2.2.2.2, ((hi.env.below hb).bp).c4.2.2.2, (hacc.keep hb).c3.1, (hacc.keep hb).c3.2.1, (hacc.keep hb).c3.2.2⟩)
      have HG := hid (And.intro hacc (And.intro hgood (And.intro hkp (And.intro hdef (And.intro hD hy)))))
      clear hi hacc hgood hkp hdef hD hy l2 l3 l4 hgl hW2
      go_wp2
      refine (wpIn_wide (n := 0)).1 ?_
      refine wpIn_region_each 6 (fun i v _ => match i with | 0 => v = .pointer (some ⟨P, 0, none⟩) | 1 => v = .pointer (some ⟨P, 0, none⟩) | 2 => v = .pointer (some ⟨P, 3, none⟩) | 3 => v = .map (some mb) | 4 => v = .agg #[.int .i64 (r : Int), .int .i64 s.a, .int .i64 s.b, .int .i64 s.c, .int .i64 s.d] | 5 => v = .agg #[.int .i64 (spec b cs fs (k + 1) s).ways, .int .i64 (spec b cs fs (k + 1) s).change, .slice A0 (spec b cs fs (k + 1) s).first.length ca] | _ => True) (fun A B => Below A.heap.size A B) (fun _ _ => True) (by kernel_rfl) (by kernel_rfl) ?_ (fun h k => h.trans (k.mono h.size)) ⟨rfl, rfl, rfl, Nat.le_refl _, fun _ _ => rfl⟩ trivial (by kernel_rfl) ?_ ?_
      · intro i v _ _ _ h; exact h
      · refine ⟨?_, ?_, ?_, ?_, ?_, ?_, trivial⟩
        · -- 0: Op.load 83 t2
          intro li a1 W2 hA K hK
          have e2 := hA.par 2 (by kernel_rfl)
          obtain ⟨q1, q2, q3, q4, q5, q6, q7, q8, q9, q10⟩ := HQ.out W2 hA.st
          refine opStep none 0 rfl rfl (fun c hc => by cases hc) ?_
          go_simp
          exact hK _ _ rfl (Below.refl _ _) trivial
        · -- 1: Op.nilCheck t85
          intro li a1 W2 hA K hK
          have e85 : a1.tmps.getD 85 undef = .pointer (some ⟨P, 0, none⟩) := hA.val 0 85 (by kernel_rfl) (by kernel_rfl)
          obtain ⟨q1, q2, q3, q4, q5, q6, q7, q8, q9, q10⟩ := HQ.out W2 hA.st
          refine opStep none 0 rfl rfl (fun c hc => by cases hc) ?_
          go_simp
          exact hK _ _ rfl (Below.refl _ _) trivial
        · -- 2: Op.fieldAddr 124 t86 1
          intro li a1 W2 hA K hK
          have e86 : a1.tmps.getD 86 undef = .pointer (some ⟨P, 0, none⟩) := hA.val 1 86 (by kernel_rfl) (by kernel_rfl)
          obtain ⟨q1, q2, q3, q4, q5, q6, q7, q8, q9, q10⟩ := HQ.out W2 hA.st
          refine opStep none 0 rfl rfl (fun c hc => by cases hc) ?_
          go_simp
          exact hK _ _ rfl (Below.refl _ _) trivial
        · -- 3: Op.load 122 t87
          intro li a1 W2 hA K hK
          have e87 : a1.tmps.getD 87 undef = .pointer (some ⟨P, 3, none⟩) := hA.val 2 87 (by kernel_rfl) (by kernel_rfl)
          obtain ⟨q1, q2, q3, q4, q5, q6, q7, q8, q9, q10⟩ := HQ.out W2 hA.st
          refine opStep none 0 rfl rfl (fun c hc => by cases hc) ?_
          go_simp
          exact hK _ _ rfl (Below.refl _ _) trivial
        · -- 4: Op.load 89 t3
          intro li a1 W2 hA K hK
          have e3 := hA.par 3 (by kernel_rfl)
          obtain ⟨q1, q2, q3, q4, q5, q6, q7, q8, q9, q10⟩ := HQ.out W2 hA.st
          refine opStep none 0 rfl rfl (fun c hc => by cases hc) ?_
          go_simp
          exact hK _ _ rfl (Below.refl _ _) trivial
        · -- 5: Op.load 91 t7
          intro li a1 W2 hA K hK
          have e7 := hA.par 7 (by kernel_rfl)
          obtain ⟨q1, q2, q3, q4, q5, q6, q7, q8, q9, q10⟩ := HQ.out W2 hA.st
          refine opStep none 0 rfl rfl (fun c hc => by cases hc) ?_
          go_simp
          exact hK _ _ rfl (Below.refl _ _) trivial
      · intro li a1 W2 hD
        have e88 : a1.tmps.getD 88 undef = .map (some mb) := hD.val 3 88 (by kernel_rfl) (by kernel_rfl)
        have e89 : a1.tmps.getD 89 undef = .agg #[.int .i64 (r : Int), .int .i64 s.a, .int .i64 s.b, .int .i64 s.c, .int .i64 s.d] := hD.val 4 89 (by kernel_rfl) (by kernel_rfl)
        have e90 : a1.tmps.getD 90 undef = .agg #[.int .i64 (spec b cs fs (k + 1) s).ways, .int .i64 (spec b cs fs (k + 1) s).change, .slice A0 (spec b cs fs (k + 1) s).first.length ca] := hD.val 5 90 (by kernel_rfl) (by kernel_rfl)
        obtain ⟨es2, ck2, hm2, hk2, hg2⟩ := HI.out.memo.below hD.st
        obtain ⟨ok, hr, hs, hY, hYl, hmemo, hP, hnm, hfrom⟩ := HH.out
        have hkey := spot_key (r := (r : Int)) (s := s) ⟨by omega, by have := ok.okc.n2; omega⟩ (hs.mono (by have := ok.okc.n2; omega))
        obtain ⟨es3, ck3, hrun, hk3, hmem, _⟩ := spot_store (t := 122) Try.underlying122 hm2 hk2 hkey (.agg #[.int .i64 (spec b cs fs (k + 1) s).ways, .int .i64 (spec b cs fs (k + 1) s).change, .slice A0 (spec b cs fs (k + 1) s).first.length ca])
        have hrun' : (Instr.mapUpdate 122 (.map (some mb)) (.agg #[.int .i64 (r : Int), .int .i64 s.a, .int .i64 s.b, .int .i64 s.c, .int .i64 s.d]) (.agg #[.int .i64 (spec b cs fs (k + 1) s).ways, .int .i64 (spec b cs fs (k + 1) s).change, .slice A0 (spec b cs fs (k + 1) s).first.length ca])).run Try.prog W2 = .ok () (W2.putObj mb (.map es3 ck3)) := hrun
        refine tail_store (i := 6) (W' := W2.putObj mb (.map es3 ck3)) none 0 rfl rfl rfl (fun c hc => by cases hc) (by simp [execOp, Act.eval, e88, e89, e90, hrun', Result.andThen]) ?_
        obtain ⟨hacc, hgood, hkp, hdef, hDl, hyl⟩ := HG.out
        obtain ⟨l2, l3, l4, hgl, hW2⟩ := HL2.out
        obtain ⟨hPl, hml, hn0⟩ := HL.out
        have hbs := HBW.out.size
        have hgp := grownBy_putObj' W2 mb (.map es3 ck3)
        have hnc : ∃ o, W2.heap[mb]? = some o ∧ o.isCells = false := ⟨_, hm2, rfl⟩
        have hmb3 : (W2.putObj mb (.map es3 ck3)).heap[mb]? = some (.map es3 ck3) := World.putObj_heap_same (Array.getElem?_eq_some_iff.1 hm2).1
        have hk : Keep (fun _ => False) W2 (W2.putObj mb (.map es3 ck3)) := Keep.of_other hgp hnc
        have hb4 := hk.blk (HI.out.b4.keep hD.st) id
        have hb7 := hk.blk (hacc.keep hD.st) id
        have hbase := grown_then (grown_one HI.out.base (grown_of_below hD.st _)) hgp
        have hdef3 : (W2.putObj mb (.map es3 ck3)).heap[D]? = some (.deferred (some [])) := (World.putObj_heap_other (by omega)).trans ((hD.st.block D (Array.getElem?_eq_some_iff.1 hdef).1).trans hdef)
        have hgd : Good Y (W2.putObj mb (.map es3 ck3)) (spec b cs fs (k + 1) s) A0 ca := ((hgood.below hD.st).keep hk (fun _ _ h => h)).sub (fun a e h => (hgood.av a e).2 (.inl h))
        have hmm : Memo b cs fs mb Y (W2.putObj mb (.map es3 ck3)) := by
          refine ⟨es3, ck3, hmb3, hk3, fun e he => ?_⟩
          rcases hmem e he with h | ⟨h1, h2⟩
          · obtain ⟨k', s', A', c', g1, g2, g3, g4, g5⟩ := hg2 e h
            exact ⟨k', s', A', c', g1, g2, g3, g4, (g5.keep hk (fun _ _ h => h)).sub (fun a e h => (g5.av a e).2 (.inl h))⟩
          · refine ⟨k + 1, s, A0, ca, by omega, by omega, ?_, h2, hgd⟩
            rw [h1]; congr 1; omega
        have hs : a1.tmps.size = 92 := hD.size
        have hd : a1.defers = [{ target := .collected D, args := #[] }] := hD.defers
        have e4 : a1.tmps.getD 4 undef = .pointer (some ⟨W.heap.size + 1 + 1, 0, none⟩) := hD.par 4 (by kernel_rfl)
        have e7 : a1.tmps.getD 7 undef = .pointer (some ⟨B7, 0, none⟩) := hD.par 7 (by kernel_rfl)
        have e := act_eqd hs hd
        obtain ⟨g', hg⟩ : ∃ g' : Nat → Value, g' = fun i => a1.tmps.getD i undef := ⟨_, rfl⟩
        rw [← hg] at e
        have g4 : g' 4 = .pointer (some ⟨W.heap.size + 1 + 1, 0, none⟩) := by rw [hg]; exact e4
        have g7 : g' 7 = .pointer (some ⟨B7, 0, none⟩) := by rw [hg]; exact e7
        rw [e]
        refine wpListIn_nil ?_
        simp only [List.range, List.range.loop, List.map_cons, List.map_nil, g4, g7]
        generalize W2.putObj mb (.map es3 ck3) = W3 at *
        have HR := hid (And.intro hbase (And.intro hmm (And.intro hgd (And.intro hdef3 (And.intro hb4 (And.intro hDl (And.intro l4 hgl)))))))
        obtain ⟨c0, c1, c2⟩ := hb4.c3
        obtain ⟨c3, c4, c5⟩ := hb7.c3
        have fr0 := hb4.frozen 0
        have fr1 := hb4.frozen 1
        have fr2 := hb4.frozen 2
        have l7 := hb4.lt
        clear hbase hmm hgd hdef3 hb4 hb7 hk hnc hgp hmb3 hdef hgood hacc hkp hrun hrun' hmem hk3 hg2 hk2 hm2 hD e88 e89 e90 e e4 e7 hg g4 g7 hs hd HI HQ HG HE HN HBW hfrom hmemo ok hY hYl
        go_wp2
        obtain ⟨hbase, hmm, hgd, hdef3, hb4, hDl, l4, hgl⟩ := HR.out
        have hst := set3_grown W3 (W.heap.size + 1 + 1) (.int .i64 (spec b cs fs (k + 1) s).ways) (.int .i64 (spec b cs fs (k + 1) s).change) (.slice A0 (spec b cs fs (k + 1) s).first.length ca)
        have hb44 := set3_blk hb4 (.int .i64 (spec b cs fs (k + 1) s).ways) (.int .i64 (spec b cs fs (k + 1) s).change) (.slice A0 (spec b cs fs (k + 1) s).first.length ca)
        have hm4 := hmm.set_ hb4 (by decide) hst
        have hg4 := hgd.set_ hb4 (by decide) (Keep.of_grown (Z := fun q => q = W.heap.size + 1 + 1) hst rfl)
        have hd4 := (hst.block D (Array.getElem?_eq_some_iff.1 hdef3).1 (fun e => by cases e; omega)).trans hdef3
        have hba4 := grown_new hbase hst (by omega)
        revert hst hb44 hm4 hg4 hd4 hba4
        unfold set3
        generalize ((W3.setCell ⟨W.heap.size + 1 + 1, 0, none⟩ (.int .i64 (spec b cs fs (k + 1) s).ways)).setCell ⟨W.heap.size + 1 + 1, 1, none⟩ (.int .i64 (spec b cs fs (k + 1) s).change)).setCell ⟨W.heap.size + 1 + 1, 2, none⟩ (.slice A0 (spec b cs fs (k + 1) s).first.length ca) = W4
        intro hst hb44 hm4 hg4 hd4 hba4
        have hgD := grownBy_putObj' W4 D (.deferred none)
        have hnD : ∃ o, W4.heap[D]? = some o ∧ o.isCells = false := ⟨_, hd4, rfl⟩
        obtain ⟨c6, c7, c8⟩ := ((Keep.of_other (Z := fun _ => False) hgD hnD).blk hb44 id).c3
        refine ⟨by simp, .inl ⟨_, _, rfl, run_takeDeferred hd4, ?_⟩⟩
        refine ⟨restV (spec b cs fs (k + 1) s) A0 ca, ?_, A0, ca, rfl, grown_new hba4 hgD (by omega), hm4.grown hgD (by omega) (.inr hnD), hg4.grown hgD (.inr hnD)⟩
        simp [results, Try.results48, go_sem, restV, c6, c7, c8]
    case hbody =>
      intro l y j x A c Wc hy hyl hx hi hsz hints hA hc1 hc2 hc3
      obtain ⟨ok, hr, hs, hY, hYl, hmemo, hP, hnm, hfrom⟩ := HH.out
      obtain ⟨l2, l3, l4, hgl, hW2⟩ := HL2.out
      obtain ⟨hPl, hml, hn0⟩ := HL.out
      have hr4 : (r : Int) ≤ 4 := by have := ok.okc.n2; omega
      have hr0 : (0 : Int) ≤ (r : Int) := by omega
      have hxm : x ∈ outsAt b cs fs (k + 1) := List.mem_of_getElem? hx
      obtain ⟨hx1, hx2, hx3⟩ := outsAt_mem ok (by omega) hxm
      have hamb : ∀ a, A = some a → a.block ≠ mb := fun a e => by have := hA a e; omega
      have HQ := hid (show ∀ W1, Wc.grownBy W1 (some mb) → FEnv P n mb b At ct cs Af cf fs W1 ∧ Blk W1 W.heap.size 83 #[.pointer (some ⟨P, 0, none⟩)] ∧ Blk W1 (W.heap.size + 1) 89 #[.int .i64 (r : Int), .int .i64 s.a, .int .i64 s.b, .int .i64 s.c, .int .i64 s.d] ∧ Blk W1 (W.heap.size + 1 + 1) 91 #[.int .i64 0, .int .i64 0, .slice none 0 0] ∧ IsInts W1 W1.heap.size A x from fun W1 hg => by
        have hk : Keep (fun q => q = mb) Wc W1 := Keep.of_grown hg rfl
        exact ⟨hi.env.keep hk hP (fun q hq => by omega), hk.blk hi.b2 (by omega), hk.blk hi.b3 (by omega), hk.blk hi.b4 (by omega), (hints.grown hg (.inl hamb)).more hg.size⟩)
      have HC := hid (show ∀ W1, Wc.grownBy W1 (some mb) → W1.cell? ⟨W.heap.size, 0, none⟩ = some (.pointer (some ⟨P, 0, none⟩)) ∧ W1.cell? ⟨W.heap.size + 1, 0, none⟩ = some (.int .i64 (r : Int)) ∧ W1.cell? ⟨W.heap.size + 1, 1, none⟩ = some (.int .i64 s.a) ∧ W1.cell? ⟨W.heap.size + 1, 2, none⟩ = some (.int .i64 s.b) ∧ W1.cell? ⟨W.heap.size + 1, 3, none⟩ = some (.int .i64 s.c) ∧ W1.cell? ⟨W.heap.size + 1, 4, none⟩ = some (.int .i64 s.d) from
        fun W1 hg => ⟨(HQ.out W1 hg).2.1.c1, (HQ.out W1 hg).2.2.1.c5.1, (HQ.out W1 hg).2.2.1.c5.2.1, (HQ.out W1 hg).2.2.1.c5.2.2.1, (HQ.out W1 hg).2.2.1.c5.2.2.2.1, (HQ.out W1 hg).2.2.1.c5.2.2.2.2⟩)
      have HP := hid (show ∀ W1, Wc.grownBy W1 (some mb) → _ from fun W1 hg => plus_any s A c x W1 (hs.mono (by omega)) (HQ.out W1 hg).2.2.2.2 hx2 (fun v hv => by have := hx3 v hv; omega))
      have HF := hid (show ∀ W1, Wc.grownBy W1 (some mb) → Memo b cs fs mb (fun q => Y q ∨ q = y) W1 → _ from fun W1 hg hm => hfrom (plusS s x) (fun q => Y q ∨ q = y) W1 ((plusS_small' hs hx3).mono (by omega)) (.inl hY) (fun q hq => by
        have h1 := hg.size
        rcases hq with h | h
        · have := hYl q h; omega
        · omega) (HQ.out W1 hg).1 hm)
      have HSZ := hid hsz
      have HI := hid hi
      have HA := hid (And.intro hA (And.intro hc1 (And.intro hc2 (And.intro hc3 (And.intro hx1 (And.intro hx2 (And.intro hx3 (And.intro hx (And.intro hxm (And.intro hyl (And.intro hy hamb)))))))))))
      have HY := hid hY
      clear hi hA hc1 hc2 hc3 hx1 hx2 hx3 hx hxm hyl hy hamb hY hYl hmemo hP hnm hfrom hs ok hr hsz hints l2 l3 l4 hgl hW2 hPl hml hn0
      simp only [List.setIfInBounds_toArray, List.set_cons_succ, List.set_cons_zero]
      gi_wp2
      refine wpIn_region_each 11 (fun i v W' => match i with | 0 => v = .pointer (some ⟨P, 0, none⟩) | 1 => v = .pointer (some ⟨W.heap.size + 1, 0, none⟩) | 2 => v = .int .i64 (r : Int) | 3 => v = .int .i64 ((r : Int) + 1) | 4 => v = .pointer (some ⟨W.heap.size + 1, 1, none⟩) | 5 => v = .agg #[.int .i64 s.a, .int .i64 s.b, .int .i64 s.c, .int .i64 s.d] | 6 => v = .slice A x.length c | 7 => v = .agg #[.int .i64 (plusS s x).a, .int .i64 (plusS s x).b, .int .i64 (plusS s x).c, .int .i64 (plusS s x).d] | 8 => v = .agg #[.int .i64 ((r : Int) + 1), .int .i64 (plusS s x).a, .int .i64 (plusS s x).b, .int .i64 (plusS s x).c, .int .i64 (plusS s x).d] | 9 => ∃ A' c', v = restV (spec b cs fs k (plusS s x)) A' c' ∧ Good (fun q => Y q ∨ q = y) W' (spec b cs fs k (plusS s x)) A' c' | 10 => ∃ g, v = .pointer (some ⟨g, 0, none⟩) ∧ Wc.heap.size ≤ g ∧ Blk W' g 91 #[.int .i64 0, .int .i64 0, .slice none 0 0] | _ => True) (fun A B => A.grownBy B (some mb)) (fun _ W' => Memo b cs fs mb (fun q => Y q ∨ q = y) W') (by kernel_rfl) (by kernel_rfl) ?_ (fun h k => grown_then h k) ⟨rfl, rfl, rfl, Nat.le_refl _, fun _ _ _ => rfl⟩ (HI.out.memo.below ⟨rfl, rfl, rfl, Nat.le_refl _, fun _ _ => rfl⟩) (by kernel_rfl) ?_ ?_
      · intro i v W1 W2 hb h
        match i, h with
        | 0, h => exact h
        | 1, h => exact h
        | 2, h => exact h
        | 3, h => exact h
        | 4, h => exact h
        | 5, h => exact h
        | 6, h => exact h
        | 7, h => exact h
        | 8, h => exact h
        | 9, h =>
          obtain ⟨A', c', rfl, h1⟩ := h
          exact ⟨A', c', rfl, h1.grown hb (.inl (.inl HY.out))⟩
        | 10, h =>
          obtain ⟨g, rfl, h1, h2⟩ := h
          refine ⟨g, rfl, h1, (hb.block g h2.lt (fun e => ?_)).trans h2⟩
          cases e
          have := HSZ.out; have := HBW.out.size; have := HL.out.2.1
          omega
        | i + 11, h => trivial
      · refine ⟨?_, ?_, ?_, ?_, ?_, ?_, ?_, ?_, ?_, ?_, ?_, trivial⟩
        · -- 0: Op.load 83 t2
          intro li a1 W2 hA K hK
          have e2 := hA.par 2 (by kernel_rfl)
          obtain ⟨q1, q2, q3, q4, q5, q6⟩ := HC.out W2 hA.st
          refine opStep (some l) 0 rfl rfl (fun c hc => by cases hc) ?_
          go_simp
          exact hK _ _ rfl (grown_of_below (Below.refl _ _) _) hA.ph
        · -- 1: Op.fieldAddr 89 t3 0
          intro li a1 W2 hA K hK
          have e3 := hA.par 3 (by kernel_rfl)
          obtain ⟨q1, q2, q3, q4, q5, q6⟩ := HC.out W2 hA.st
          refine opStep (some l) 0 rfl rfl (fun c hc => by cases hc) ?_
          go_simp
          exact hK _ _ rfl (grown_of_below (Below.refl _ _) _) hA.ph
        · -- 2: Op.load 3 t46
          intro li a1 W2 hA K hK
          have e46 : a1.tmps.getD 46 undef = .pointer (some ⟨W.heap.size + 1, 0, none⟩) := hA.val 1 46 (by kernel_rfl) (by kernel_rfl)
          obtain ⟨q1, q2, q3, q4, q5, q6⟩ := HC.out W2 hA.st
          refine opStep (some l) 0 rfl rfl (fun c hc => by cases hc) ?_
          go_simp
          exact hK _ _ rfl (grown_of_below (Below.refl _ _) _) hA.ph
        · -- 3: Op.binOp BinOp.add 3 t47 (const (1:i64)) 3
          intro li a1 W2 hA K hK
          have e47 : a1.tmps.getD 47 undef = .int .i64 (r : Int) := hA.val 2 47 (by kernel_rfl) (by kernel_rfl)
          obtain ⟨q1, q2, q3, q4, q5, q6⟩ := HC.out W2 hA.st
          refine opStep (some l) 0 rfl rfl (fun c hc => by cases hc) ?_
          have hw : IntKind.i64.wrap ((r : Int) + 1) = (r : Int) + 1 := by rw [IntKind.wrap_i64]; omega
          go_simp
          exact hK _ _ (by first | rfl | exact congrArg (Value.int .i64) hw) (grown_of_below (Below.refl _ _) _) hA.ph
        · -- 4: Op.fieldAddr 89 t3 1
          intro li a1 W2 hA K hK
          have e3 := hA.par 3 (by kernel_rfl)
          obtain ⟨q1, q2, q3, q4, q5, q6⟩ := HC.out W2 hA.st
          refine opStep (some l) 0 rfl rfl (fun c hc => by cases hc) ?_
          go_simp
          exact hK _ _ rfl (grown_of_below (Below.refl _ _) _) hA.ph
        · -- 5: Op.load 87 t49
          intro li a1 W2 hA K hK
          have e49 : a1.tmps.getD 49 undef = .pointer (some ⟨W.heap.size + 1, 1, none⟩) := hA.val 4 49 (by kernel_rfl) (by kernel_rfl)
          obtain ⟨q1, q2, q3, q4, q5, q6⟩ := HC.out W2 hA.st
          refine opStep (some l) 0 rfl rfl (fun c hc => by cases hc) ?_
          go_simp
          exact hK _ _ rfl (grown_of_below (Below.refl _ _) _) hA.ph
        · -- 6: Op.move t8
          intro li a1 W2 hA K hK
          have e8 := hA.par 8 (by kernel_rfl)
          obtain ⟨q1, q2, q3, q4, q5, q6⟩ := HC.out W2 hA.st
          refine opStep (some l) 0 rfl rfl (fun c hc => by cases hc) ?_
          go_simp
          exact hK _ _ rfl (grown_of_below (Below.refl _ _) _) hA.ph
        · -- 7: Op.call { value (Operand.func 50), args := #[t50, t51], argTypes := #[87, 56] }
          intro li a1 W2 hA K hK
          have e50 : a1.tmps.getD 50 undef = .agg #[.int .i64 s.a, .int .i64 s.b, .int .i64 s.c, .int .i64 s.d] := hA.val 5 50 (by kernel_rfl) (by kernel_rfl)
          have e51 : a1.tmps.getD 51 undef = .slice A x.length c := hA.val 6 51 (by kernel_rfl) (by kernel_rfl)
          obtain ⟨q1, q2, q3, q4, q5, q6⟩ := HC.out W2 hA.st
          refine opStep (some l) 0 rfl rfl (fun c hc => by cases hc) ?_
          go_simp
          refine (HP.out W2 hA.st).mono ?_
          rintro e W3 ⟨rfl, hb3⟩
          exact hK _ _ rfl (grown_of_below hb3 _) (hA.ph.below hb3)
        · -- 8: Op.build 89 #[(0, t48), (1, t52)]
          intro li a1 W2 hA K hK
          have e48 : a1.tmps.getD 48 undef = .int .i64 ((r : Int) + 1) := hA.val 3 48 (by kernel_rfl) (by kernel_rfl)
          have e52 : a1.tmps.getD 52 undef = .agg #[.int .i64 (plusS s x).a, .int .i64 (plusS s x).b, .int .i64 (plusS s x).c, .int .i64 (plusS s x).d] := hA.val 7 52 (by kernel_rfl) (by kernel_rfl)
          obtain ⟨q1, q2, q3, q4, q5, q6⟩ := HC.out W2 hA.st
          refine opStep (some l) 0 rfl rfl (fun c hc => by cases hc) ?_
          have e48' := e48
          have e52' := e52
          rw [Array.getD_eq_getD_getElem?] at e48' e52'
          go_simp
          exact hK _ _ rfl (grown_of_below (Below.refl _ _) _) hA.ph
        · -- 9: Op.call { value (Operand.func 48), args := #[t45, t53], argTypes := #[83, 89] }
          intro li a1 W2 hA K hK
          have e45 : a1.tmps.getD 45 undef = .pointer (some ⟨P, 0, none⟩) := hA.val 0 45 (by kernel_rfl) (by kernel_rfl)
          have e53 : a1.tmps.getD 53 undef = .agg #[.int .i64 ((r : Int) + 1), .int .i64 (plusS s x).a, .int .i64 (plusS s x).b, .int .i64 (plusS s x).c, .int .i64 (plusS s x).d] := hA.val 8 53 (by kernel_rfl) (by kernel_rfl)
          obtain ⟨q1, q2, q3, q4, q5, q6⟩ := HC.out W2 hA.st
          refine opStep (some l) 0 rfl rfl (fun c hc => by cases hc) ?_
          go_simp
          refine (HF.out W2 hA.st hA.ph).mono ?_
          rintro e W3 ⟨A', c', rfl, h1, h2, h3⟩
          exact hK _ _ ⟨A', c', rfl, h3⟩ h1 h2
        · -- 10: Op.alloc 91
          intro li a1 W2 hA K hK
          obtain ⟨q1, q2, q3, q4, q5, q6⟩ := HC.out W2 hA.st
          refine opStep (some l) 0 rfl rfl (fun c hc => by cases hc) ?_
          go_simp
          exact hK _ _ ⟨_, rfl, hA.st.size, Blk.new _ _ _⟩ (grown_of_below ((Below.refl _ _).alloc (Nat.le_refl _) _) _) (hA.ph.below ((Below.refl _ _).alloc (Nat.le_refl _) _))
      · intro li a1 W2 hD
        obtain ⟨A', c', e54, hgd⟩ := hD.val 9 54 (by kernel_rfl) (by kernel_rfl)
        obtain ⟨gb, e9, hgb, hbl⟩ := hD.val 10 9 (by kernel_rfl) (by kernel_rfl)
        obtain ⟨c0, c1, c2⟩ := hbl.c3
        have f0 := hbl.frozen 0
        have f1 := hbl.frozen 1
        have f2 := hbl.frozen 2
        have hgl := hbl.lt
        rw [restV] at e54
        refine tail_store (i := 11) (W' := ((W2.setCell ⟨gb, 0, none⟩ (.int .i64 (spec b cs fs k (plusS s x)).ways)).setCell ⟨gb, 1, none⟩ (.int .i64 (spec b cs fs k (plusS s x)).change)).setCell ⟨gb, 2, none⟩ (.slice A' (spec b cs fs k (plusS s x)).first.length c')) (some l) 0 rfl rfl rfl (fun c hc => by cases hc) (by go_simp) ?_
        have hs3 := set3_grown W2 gb (.int .i64 (spec b cs fs k (plusS s x)).ways) (.int .i64 (spec b cs fs k (plusS s x)).change) (.slice A' (spec b cs fs k (plusS s x)).first.length c')
        have hb3 := set3_blk hbl (.int .i64 (spec b cs fs k (plusS s x)).ways) (.int .i64 (spec b cs fs k (plusS s x)).change) (.slice A' (spec b cs fs k (plusS s x)).first.length c')
        have hg3 := grown_new hD.st hs3 hgb
        have hm3 := hD.ph.set_ hbl (by decide) hs3
        have hd3 := hgd.set_ hbl (by decide) (Keep.of_grown (Z := fun q => q = gb) hs3 rfl)
        have HW3 := hid (And.intro hb3 (And.intro hg3 (And.intro hm3 hd3)))
        clear hb3 hg3 hm3 hd3 hs3 c0 c1 c2 f0 f1 f2 hgl hbl hgd e54
        have hs : a1.tmps.size = 92 := hD.size
        have hd : a1.defers = [] := hD.defers
        have e2 : a1.tmps.getD 2 undef = .pointer (some ⟨W.heap.size, 0, none⟩) := hD.par 2 (by kernel_rfl)
        have e3 : a1.tmps.getD 3 undef = .pointer (some ⟨W.heap.size + 1, 0, none⟩) := hD.par 3 (by kernel_rfl)
        have e7 : a1.tmps.getD 7 undef = .pointer (some ⟨B7, 0, none⟩) := hD.par 7 (by kernel_rfl)
        have e8 : a1.tmps.getD 8 undef = .slice A x.length c := hD.par 8 (by kernel_rfl)
        have e := act_eq hs hd
        obtain ⟨g', hg⟩ : ∃ g' : Nat → Value, g' = fun i => a1.tmps.getD i undef := ⟨_, rfl⟩
        rw [← hg] at e
        have g2 : g' 2 = .pointer (some ⟨W.heap.size, 0, none⟩) := by rw [hg]; exact e2
        have g3 : g' 3 = .pointer (some ⟨W.heap.size + 1, 0, none⟩) := by rw [hg]; exact e3
        have g7 : g' 7 = .pointer (some ⟨B7, 0, none⟩) := by rw [hg]; exact e7
        have g8 : g' 8 = .slice A x.length c := by rw [hg]; exact e8
        have g9 : g' 9 = .pointer (some ⟨gb, 0, none⟩) := by rw [hg]; exact e9
        rw [e]
        clear hs hd e e2 e3 e7 e8 e9 hg hD HP HF
        refine wpListIn_nil ?_
        simp only [List.range, List.range.loop, List.map_cons, List.map_nil, g2, g3, g7, g8, g9]
        clear g2 g3 g7 g8 g9
        refine gen (p := Exit.then _ _ .normal _) (fun W3 => Blk W3 gb 91 #[.int .i64 (spec b cs fs k (plusS s x)).ways, .int .i64 (spec b cs fs k (plusS s x)).change, .slice A' (spec b cs fs k (plusS s x)).first.length c'] ∧ Wc.grownBy W3 (some mb) ∧ Memo b cs fs mb (fun q => Y q ∨ q = y) W3 ∧ Good (fun q => Y q ∨ q = y) W3 (spec b cs fs k (plusS s x)) A' c') HW3.out ?_
        clear HW3
        clear W2
        rintro W3 ⟨hb3, hg3, hm3, hd3⟩
        obtain ⟨A0, ca, hacc, hgood⟩ := HI.out.acc
        have hk4 : k ≤ 4 := by have := HH.out.2.1; have := HH.out.1.okc.n2; omega
        have hkl : k + 1 ≤ cs.length := by have := HH.out.2.1; omega
        have hjl : j ≤ (outsAt b cs fs (k + 1)).length := by have := (List.getElem?_eq_some_iff.1 HA.out.2.2.2.2.2.2.2.1).1; omega
        have hj16 : j ≤ 16 := Nat.le_trans hjl (outsAt_count HH.out.1 hkl)
        have hbn := (bnd_spec HH.out.1 k (by omega) (plusS s x)).1
        have hbj := (bnd_spec HH.out.1 k (by omega) s).2 hkl j hjl
        have hbc := rowCost_bound HH.out.1 hkl HA.out.2.2.2.2.2.2.2.2.1
        have hsq := specTo_succ (s := s) HA.out.2.2.2.2.2.2.2.1
        have hp16 := pow16 hk4
        have hp0 : (0 : Int) ≤ 16 ^ k := Int.pow_nonneg (by decide)
        have hjp : (j : Int) * 16 ^ k ≤ 16 * 65536 := Int.mul_le_mul (by omega) hp16 hp0 (by decide)
        have hnw : 0 ≤ (spec b cs fs k (plusS s x)).ways ∧ (spec b cs fs k (plusS s x)).ways ≤ 65536 := ⟨hbn.w1, Int.le_trans hbn.w2 hp16⟩
        have hnc : 0 ≤ (spec b cs fs k (plusS s x)).change ∧ (spec b cs fs k (plusS s x)).change ≤ 200000 := ⟨hbn.c1, by have := hbn.c2; omega⟩
        have haw : 0 ≤ (specTo b cs fs k s j).ways ∧ (specTo b cs fs k s j).ways ≤ 1048576 := ⟨hbj.w.1, by have := hbj.w.2; omega⟩
        have hac : 0 ≤ (specTo b cs fs k s j).change ∧ (specTo b cs fs k s j).change ≤ 250000 := ⟨hbj.c.1, by have := hbj.c.2; omega⟩
        have hB7 : Blk W3 B7 91 _ := (hg3.block B7 hacc.lt (fun e => by have := HL2.out; have := HL.out; cases e; omega)).trans hacc
        have hgood3 := hgood.grown hg3 (.inl (.inl HY.out))
        clear hbn hbj hacc hgood hp16 hp0 hjp hk4 hjl hj16
        have HSQ := hid hsq
        have HG := hid (And.intro hg3 (And.intro hm3 (And.intro hd3 hgood3)))
        clear hsq hg3 hm3 hd3 hgood3
        generalize hnx : spec b cs fs k (plusS s x) = nx at *
        generalize hax : specTo b cs fs k s j = ac at *
        clear hnx hax
        obtain ⟨c0, c1, c2⟩ := hb3.c3
        obtain ⟨c3, c4, c5⟩ := hB7.c3
        have lb := hb3.lt
        have l7 := hB7.lt
        have hmbl : mb < W5.heap.size := by have := HL.out; have := HBW.out.size; omega
        cases h0 : (nx.ways == 0)
        · gi_wp2
          have hrk : cs.length - (k + 1) = r := by have := HH.out.2.1; omega
          have hT := hid (show ∀ q, _ from fun q => by
            have hg' : Wc.grownBy (xt W3 q) (some mb) := grown_one HG.out.1 (grown_of_below (below_xt W3 q) _)
            have hE := (HQ.out _ hg').1
            exact Calls.same_below (cost_any (.int .i64 b) (.map (some mb)) (.slice Af fs.length cf) P At ct cs r A c x (xt W3 q) (hE.ic.more hE.hn) hE.bp (HQ.out _ hg').2.2.2.2 (by have := HH.out.2.1; omega) HA.out.2.2.2.2.2.1 (by rw [← hrk]; exact HA.out.2.2.2.2.1.symm) HA.out.2.2.2.2.2.2.1 (fun r' hr' v hv => by have := HH.out.1.okc.cell r' hr' v hv; omega)))
          have hrw : cs.getD r [] = rowAt cs (k + 1) := by rw [← hrk]; rfl
          rw [hrw] at hT
          generalize hrc : rowCost x (rowAt cs (k + 1)) = rc at *
          have HRC := hid hrc
          clear hrc hrw
          have q0 := xt_c3 hb3
          have q2 : ∀ q, (xt W3 q).cell? ⟨W.heap.size, 0, none⟩ = some (.pointer (some ⟨P, 0, none⟩)) := fun q => (HC.out _ (grown_one HG.out.1 (grown_of_below (below_xt W3 q) _))).1
          have q3 : ∀ q, (xt W3 q).cell? ⟨W.heap.size + 1, 0, none⟩ = some (.int .i64 (r : Int)) := fun q => (HC.out _ (grown_one HG.out.1 (grown_of_below (below_xt W3 q) _))).2.1
          obtain ⟨q4, q5, q6⟩ := q0
          refine wpIn_region_quiet_xt (some l) 0 (by kernel_rfl) (by kernel_rfl) (by kernel_rfl) ?_
          repeat (go_big_quiet_step ((go_at_call 80; with_reducible exact Calls.xt (hT.out _))))
          refine wpQuiet_nil ?_
          intro W4 hw4
          replace hw4 := of_xt hw4
          have hB74 := hB7.keep hw4
          have hb34 := hb3.keep hw4
          have HW4 := hid hw4
          clear q2 q3 q4 q5 q6 c0 c1 c2 c3 c4 c5 lb l7 hT hb3 hB7 hw4
          obtain ⟨c0, c1, c2⟩ := hb34.c3
          obtain ⟨c3, c4, c5⟩ := hB74.c3
          have fr0 := hB74.frozen 0
          have fr1 := hB74.frozen 1
          have fr2 := hB74.frozen 2
          have lb := hb34.lt
          have l7 := hB74.lt
          have hne7 : gb ≠ B7 := by have := HSZ.out; have := HL2.out; omega
          have hg4 : Wc.grownBy W4 (some mb) := grown_one HG.out.1 (grown_of_below HW4.out _)
          have FIN := hid (show ∀ (W' : World) (acc' : Rst) (A1 : Option Addr) (c1 : Nat), W4.grownBy W' (some B7) → Blk W' B7 91 #[.int .i64 acc'.ways, .int .i64 acc'.change, .slice A1 acc'.first.length c1] → specTo b cs fs k s (j + 1) = acc' → Good (fun q => Y q ∨ q = y) W4 acc' A1 c1 → RoundOk W5.heap.size (LoopI P n mb b At ct cs Af cf fs W s r k B7 Y) (fun q => q = B7) y j Wc .normal W' from by
            intro W' acc' A1 c1 hgB hbl heq hgd
            obtain ⟨es', ck', hmap, _⟩ := HI.out.memo
            obtain ⟨l2, l3, l4, hgl, hW2⟩ := HL2.out
            obtain ⟨hPl, hml, hn0⟩ := HL.out
            have hk : Keep (fun q => q = B7) W4 W' := Keep.of_grown hgB rfl
            obtain ⟨v1, v2, v3, v4, v5⟩ := HQ.out W4 hg4
            refine ⟨rfl, ⟨v1.keep hk (by omega) (fun q hq => by omega), (HG.out.2.1.below HW4.out).set_ hB74 (by decide) hgB, hk.blk v2 (by omega), hk.blk v3 (by omega), hk.blk v4 (by omega), grown_new (grown_then HI.out.base hg4) hgB (by omega), A1, c1, by rw [heq]; exact hbl, by rw [heq]; exact hgd.set_ hB74 (by decide) hk⟩,
              (Keep.of_other hg4 ⟨_, hmap, rfl⟩).trans hk, fun i hi hlt => (hgB.block i (Nat.lt_of_lt_of_le hlt hg4.size) (fun e => by cases e; omega)).trans (hg4.block i hlt (fun e => by cases e; omega))⟩)
          have GX := hid (show ∀ (a' c' : Int), Good (fun q => Y q ∨ q = y) W4 ⟨a', c', x⟩ A c from fun a' c' => by
            obtain ⟨hA1, hc1, hc2, hc3, _, _, _, _, _, _, _, hamb⟩ := HA.out
            have := HBW.out.size
            refine ⟨(HQ.out W4 hg4).2.2.2.2, fun a e => ⟨ex_of (hA1 a e).2.2 fun _ hb => (hg4.block a.block (Blk.lt hb) (fun e' => hamb a e (by cases e'; rfl))).trans hb, ?_⟩, hc1, hc2, hc3⟩
            rintro (hq | hq)
            · have := HH.out.2.2.2.2.1 _ hq; have := (hA1 a e).2.1; omega
            · exact (hA1 a e).1 hq)
          have GO := hid (show ∀ (a' : Int), Good (fun q => Y q ∨ q = y) W4 ⟨a', ac.change, ac.first⟩ A0 ca from fun a' => by
            have := HG.out.2.2.2.below HW4.out
            exact ⟨this.ints, this.av, this.le, this.mx, this.nil⟩)
          have SK := hid (show (ac.ways == 0 || decide (nx.change + rc < ac.change)) = true → specTo b cs fs k s (j + 1) = ⟨ac.ways + nx.ways, nx.change + rc, x⟩ from fun h => by rw [HSQ.out, stepR_take h0 (by rw [HRC.out]; exact h), HRC.out])
          have SM := hid (show (ac.ways == 0 || decide (nx.change + rc < ac.change)) = false → specTo b cs fs k s (j + 1) = ⟨ac.ways + nx.ways, ac.change, ac.first⟩ from fun h => by rw [HSQ.out, stepR_more h0 (by rw [HRC.out]; exact h)])
          have B0 := hid hB74
          clear hg4
          cases h1 : (ac.ways == 0)
          · cases h2 : decide (nx.change + rc < ac.change)
            · gi_wp2
              exact FIN.out _ _ _ _ (grown_of_set W4 ⟨B7, 0, none⟩ _) (B0.out.set_ 0 _) (SM.out (by rw [h1, h2]; rfl)) (GO.out _)
            · gi_wp2
              exact FIN.out _ _ _ _ (grown_one (grown_one (grown_of_set W4 ⟨B7, 1, none⟩ _) (grown_of_set _ ⟨B7, 2, none⟩ _)) (grown_of_set _ ⟨B7, 0, none⟩ _)) (((B0.out.set_ 1 _).set_ 2 _).set_ 0 _) (SK.out (by rw [h1]; rw [h2]; rfl)) (GX.out _ _)
          · gi_wp2
            exact FIN.out _ _ _ _ (grown_one (grown_one (grown_of_set W4 ⟨B7, 1, none⟩ _) (grown_of_set _ ⟨B7, 2, none⟩ _)) (grown_of_set _ ⟨B7, 0, none⟩ _)) (((B0.out.set_ 1 _).set_ 2 _).set_ 0 _) (SK.out (by rw [h1]; rfl)) (GX.out _ _)
        · gi_wp2
          obtain ⟨es', ck', hmap, _⟩ := HI.out.memo
          exact ⟨rfl, ⟨(HQ.out W3 HG.out.1).1, HG.out.2.1, (HQ.out W3 HG.out.1).2.1, (HQ.out W3 HG.out.1).2.2.1, (HQ.out W3 HG.out.1).2.2.2.1, grown_then HI.out.base HG.out.1, A0, ca, by rw [HSQ.out, stepR_skip h0]; exact hB7, by rw [HSQ.out, stepR_skip h0]; exact HG.out.2.2.2⟩,
            Keep.of_other HG.out.1 ⟨_, hmap, rfl⟩, fun i hi hlt => HG.out.1.block i hlt (fun e => by cases e; omega)⟩
end Go.Proofs.Ytgoianldiomdoaa
/- from, whole. -/
namespace Go.Proofs.Ytgoianldiomdoaa
open Go.RowKit Go.Shelf

theorem from_any {P n mb : Nat} {b : Int} {At : Option Addr} {ct : Nat} {cs : List (List Int)} {Af : Option Addr} {cf : Nat} {fs : List Fx} (ok : TOk b cs fs) (hP : P ≠ mb) (hnm : n ≤ mb) :
    ∀ (k r : Nat) (s : S4) (Y : Nat → Prop) (W : World), r + k = cs.length → Small (10100 * (r : Int)) s → Y mb → (∀ q, Y q → q < W.heap.size) → FEnv P n mb b At ct cs Af cf fs W → Memo b cs fs mb Y W →
      Calls Try.prog 48 #[.pointer (some ⟨P, 0, none⟩), spotV (r : Int) s] W fun e W' => ∃ A c, e = .returned (restV (spec b cs fs k s) A c) ∧ W.grownBy W' (some mb) ∧ Memo b cs fs mb Y W' ∧ Good Y W' (spec b cs fs k s) A c := by
  intro k
  induction k with
  | zero =>
    intro r s Y W hr hs hY hYl he hm
    have hrl : r = cs.length := by omega
    subst hrl
    have hn2 := ok.okc.n2
    have hfirst : (spec b cs fs 0 s).first = [] := by unfold spec; split <;> rfl
    refine (from_zero he ok (hs.mono (by omega))).mono ?_
    rintro e W' ⟨rfl, hb⟩
    refine ⟨none, 0, rfl, grown_of_below hb _, hm.below hb, ⟨?_, ?_, ?_, Nat.zero_le _, fun _ => rfl⟩⟩
    · rw [hfirst]; intro q v hq; simp at hq
    · intro a e; cases e
    · rw [hfirst]; exact Nat.le_refl _
  | succ k ih =>
    intro r s Y W hr hs hY hYl he hm
    have hn2 := ok.okc.n2
    obtain ⟨es, clock, h1, h2, h3⟩ := id hm
    by_cases hin : ∃ x ∈ es.toList, x.key = spotV (r : Int) s
    · refine (from_hit he ok (by omega) (hs.mono (by omega)) h1 h2 (fun e he => by
        obtain ⟨k', s', A, c, g1, g2, g3, g4, _⟩ := h3 e he
        exact ⟨k', s', A, c, g1, g2, g3, g4⟩) hin).mono ?_
      rintro e W' ⟨⟨x, hx, hk, rfl⟩, hb⟩
      obtain ⟨k', s', A, c, g1, g2, g3, g4, g5⟩ := h3 x hx
      obtain ⟨e1, rfl⟩ := spotV_inj (g3.symm.trans hk)
      obtain rfl : k' = k + 1 := by omega
      exact ⟨A, c, by rw [g4], grown_of_below hb _, hm.below hb, g5.below hb⟩
    · refine from_miss he ok hr hs hY hYl hm h1 h2 (fun x hx hk => hin ⟨x, hx, hk⟩) hP hnm ?_
      intro s' Y' W' q1 q2 q3 q4 q5
      exact ih (r + 1) s' Y' W' (by omega) q1 q2 q3 q4 q5
end Go.Proofs.Ytgoianldiomdoaa
/- work: a table at work. -/
namespace Go.Proofs.Ytgoianldiomdoaa
open Go.RowKit Go.Shelf

/-- the table of a call lies in memory -/
structure TIn (A : Option Addr) (c : Nat) (cs : List (List Int)) (A2 : Option Addr) (c2 : Nat) (fs : List Fx) (w : World) : Prop where
  ic : IsRows w w.heap.size A cs
  ix : IsFixes w w.heap.size A2 fs
  l1 : cs.length ≤ c
  m1 : c ≤ maxLen
  l2 : fs.length ≤ c2
  m2 : c2 ≤ maxLen
  k : colsOf cs ≤ maxLen
theorem TIn.at_ {A : Option Addr} {c : Nat} {cs : List (List Int)} {A2 : Option Addr} {c2 : Nat} {fs : List Fx} {w w' : World} (h : TIn A c cs A2 c2 fs w) (hb : Below w.heap.size w w') : TIn A c cs A2 c2 fs w' :=
  ⟨h.ic.at_ hb, h.ix.at_ hb, h.l1, h.m1, h.l2, h.m2, h.k⟩

set_option maxRecDepth 10000 in
set_option maxHeartbeats 1000000 in
theorem work_bad (b : Int) (A : Option Addr) (c : Nat) (cs : List (List Int)) (A2 : Option Addr) (c2 : Nat) (fs : List Fx) (w : World) (h : TIn A c cs A2 c2 fs w) (hc : chkE b cs fs ≠ 0) :
    Calls Try.prog 47 #[.agg #[.int .i64 b, .slice A cs.length c, .slice A2 fs.length c2]] w fun e w' => e = .returned (.tuple #[.pointer none, .int .i64 (chkE b cs fs)]) ∧ Below w.heap.size w w' := by
  have hB := below_box (w := w) #[.int .i64 b, .slice A cs.length c, .slice A2 fs.length c2] 33
  have K := hid (show ∀ W, Below w.heap.size w W → _ from fun W hW => check_any b A c cs A2 c2 fs W (h.at_ hW).ic (h.at_ hW).ix h.l1 h.m1 h.l2 h.m2 h.k)
  have hne : (chkE b cs fs != 0) = true := by simpa using hc
  clear h hc
  generalize chkE b cs fs = ce at *
  go_enter Try.func47, Try.ntmps47
  go_wp2_with (go_at_call 41; refine (K.out _ hB).mono ?_; rintro e w2 ⟨rfl, hb2⟩)
  exact bodyPost_ret (v := .tuple #[.pointer none, .int .i64 ce]) (by simp [results, Try.results47, go_sem]) rfl ⟨rfl, hB.trans (hb2.mono hB.size)⟩

set_option maxRecDepth 10000 in
set_option maxHeartbeats 1000000 in
theorem work_ok (b : Int) (A : Option Addr) (c : Nat) (cs : List (List Int)) (A2 : Option Addr) (c2 : Nat) (fs : List Fx) (w : World) (h : TIn A c cs A2 c2 fs w) (hc : chkE b cs fs = 0) :
    Calls Try.prog 47 #[.agg #[.int .i64 b, .slice A cs.length c, .slice A2 fs.length c2]] w fun e w' => ∃ mb, e = .returned (.tuple #[.pointer (some ⟨mb + 1, 0, none⟩), .int .i64 0]) ∧ Below w.heap.size w w' ∧ w.heap.size ≤ mb ∧
      w'.heap[mb]? = some (.map #[] 0) ∧ Blk w' (mb + 1) 124 #[.int .i64 b, .slice A cs.length c, .slice A2 fs.length c2, .map (some mb)] := by
  have hB := below_box (w := w) #[.int .i64 b, .slice A cs.length c, .slice A2 fs.length c2] 33
  have K := hid (show ∀ W, Below w.heap.size w W → _ from fun W hW => check_any b A c cs A2 c2 fs W (h.at_ hW).ic (h.at_ hW).ix h.l1 h.m1 h.l2 h.m2 h.k)
  rw [hc] at K
  clear h hc
  have hmm := @run_makeMap Try.prog
  go_enter Try.func47, Try.ntmps47
  go_wp2_with (go_at_call 41; refine (K.out _ hB).mono ?_; rintro e w2 ⟨rfl, hb2⟩; have hz := hb2.size; simp at hz; have hT := (Blk.new w 33 #[.int .i64 b, .slice A cs.length c, .slice A2 fs.length c2]).keep hb2; have hlt := hT.lt; obtain ⟨d0, d1, d2⟩ := hT.c3)
  refine bodyPost_ret (v := .tuple #[.pointer (some ⟨w2.heap.size + 1, 0, none⟩), .int .i64 0]) (by simp [results, Try.results47, go_sem]) rfl ⟨w2.heap.size, rfl, ?_, by omega, ?_, ?_⟩
  · exact ((hB.trans (hb2.mono hB.size)).alloc (by omega) _).alloc (by simp; omega) _
  · exact (Below.heap_alloc _ _ _ (by simp)).trans (World.alloc_heap_new w2 _)
  · have := Blk.new (w2.alloc (.map #[] 0)) 124 #[.int .i64 b, .slice A cs.length c, .slice A2 fs.length c2, .map (some w2.heap.size)]
    rwa [World.size_alloc] at this
end Go.Proofs.Ytgoianldiomdoaa
/- Ways: how many roundings a table has. -/
namespace Go.Proofs.Ytgoianldiomdoaa
open Go.RowKit Go.Shelf

/-- where the work on a table begins -/
structure Began (b : Int) (A : Option Addr) (c : Nat) (cs : List (List Int)) (A2 : Option Addr) (c2 : Nat) (fs : List Fx) (n mb : Nat) (w' : World) : Prop where
  ok : TOk b cs fs
  env : FEnv (mb + 1) n mb b A c cs A2 c2 fs w'
  memo : Memo b cs fs mb (fun q => q = mb) w'
  hn : n ≤ mb
  lt : mb < w'.heap.size
theorem chk_ok {b : Int} {cs : List (List Int)} {fs : List Fx} (h : chkE b cs fs = 0) : TOk b cs fs := by
  unfold chkE at h
  split at h
  · cases h
  · rename_i h1
    split at h
    · cases h
    · rename_i h2
      simp only [Bool.or_eq_true, Bool.not_eq_true', not_or, Bool.not_eq_false, decide_eq_true_eq] at h1 h2
      obtain ⟨⟨a1, a2⟩, a3⟩ := h1
      obtain ⟨⟨⟨b1, b2⟩, b3⟩, b4⟩ := h2
      have q1 : 2 ≤ b ∧ b ≤ 100 := by simpa [withinB] using b1
      have q2 : colsOf cs ≠ 0 := by intro e; apply b2; rw [e]; rfl
      have q3 : ∀ r ∈ cs, r.length = colsOf cs ∧ ∀ x ∈ r, 0 ≤ x ∧ x ≤ 10000 := fun r hr => by
        have := List.all_eq_true.1 b3 r hr
        simp only [rowB, Bool.and_eq_true, beq_iff_eq] at this
        exact ⟨by omega, fun x hx => by simpa [withinB] using List.all_eq_true.1 this.2 x hx⟩
      have q4 : colsOf cs ≤ 4 := by
        cases cs with
        | nil => exact absurd rfl q2
        | cons r l =>
          have := List.all_eq_true.1 a2 r (by simp)
          simpa [narrowB, colsOf] using this
      have q5 : 1 ≤ cs.length := by
        cases cs with
        | nil => exact absurd rfl q2
        | cons r l => simp
      refine ⟨⟨q1.1, q1.2, q5, by omega, by omega, q4, fun r hr => (q3 r hr).1, fun r hr => (q3 r hr).2⟩, by omega, fun f hf => ?_⟩
      have := List.all_eq_true.1 b4 f hf
      simp only [fixOkB, withinB, Bool.and_eq_true, decide_eq_true_eq] at this
      omega

theorem below_new {A B C : World} {m : Nat} (h : Below A.heap.size A B) (k : B.grownBy C (some m)) (hm : A.heap.size ≤ m) : Below A.heap.size A C :=
  ⟨k.os.trans h.os, k.tape.trans h.tape, k.output.trans h.output, Nat.le_trans h.size k.size, fun i hi => (k.block i (Nat.lt_of_lt_of_le hi h.size) (fun e => by cases e; omega)).trans (h.block i hi)⟩
theorem began {b : Int} {A : Option Addr} {c : Nat} {cs : List (List Int)} {A2 : Option Addr} {c2 : Nat} {fs : List Fx} {w w' : World} {mb : Nat} (h : TIn A c cs A2 c2 fs w) (hc : chkE b cs fs = 0) (hb : Below w.heap.size w w') (h1 : w.heap.size ≤ mb) (h2 : w'.heap[mb]? = some (.map #[] 0))
    (h3 : Blk w' (mb + 1) 124 #[.int .i64 b, .slice A cs.length c, .slice A2 fs.length c2, .map (some mb)]) : Began b A c cs A2 c2 fs w.heap.size mb w' :=
  ⟨chk_ok hc, ⟨h3, h.ic.below hb, h.ix.below hb, hb.size⟩, ⟨#[], 0, h2, (fun e he => by simp at he), fun e he => by simp at he⟩, h1, (Array.getElem?_eq_some_iff.1 h2).1⟩
def zeroS : S4 := ⟨0, 0, 0, 0⟩
theorem zeroS_small {M : Int} (h : 0 ≤ M) : Small M zeroS := ⟨⟨Int.le_refl _, h⟩, ⟨Int.le_refl _, h⟩, ⟨Int.le_refl _, h⟩, ⟨Int.le_refl _, h⟩⟩
theorem rest_fields : (Try.prog.fieldsOf 91).toList.map (fun f => (f.type, f.offset)) = [(3, 0), (3, 1), (56, 2)] := by kernel_rfl
theorem rest_under : Try.prog.underlying 91 = some (.struct (Try.prog.fieldsOf 91)) := by kernel_rfl
theorem field_at {P : Program} {l : List (Nat × Nat)} {t : TypeId} (h : (P.fieldsOf t).toList.map (fun f => (f.type, f.offset)) = l) {i a b : Nat} (hl : l[i]? = some (a, b)) : ∃ f : Field, (P.fieldsOf t)[i]? = some f ∧ f.type = a ∧ f.offset = b := by
  rw [← h, List.getElem?_map] at hl
  cases hf : (P.fieldsOf t).toList[i]? with
  | none => rw [hf] at hl; cases hl
  | some f =>
    rw [hf] at hl
    simp at hl
    exact ⟨f, by simpa using hf, hl.1, hl.2⟩
theorem rest_field {u0 u1 u2 : Value} (i : Nat) (a : Nat) (v : Value) (W : World) (hl : [(3, 0), (3, 1), (56, 2)][i]? = some (a, i)) (hv : #[u0, u1, u2][i]? = some v) (ha : (isAgg a).run Try.prog W = .ok false W) : (Instr.field 91 (.agg #[u0, u1, u2]) i).run Try.prog W = .ok v W := by
  obtain ⟨f, h1, h2, h3⟩ := field_at rest_fields hl
  have hv' : [u0, u1, u2][i]? = some v := by simpa using hv
  simp [Instr.field, run_underlying rest_under, h1, h2, h3, part, asAgg, ha, hv', Result.andThen]
/-- the first call of from -/
theorem Began.from {b : Int} {A : Option Addr} {c : Nat} {cs : List (List Int)} {A2 : Option Addr} {c2 : Nat} {fs : List Fx} {n mb : Nat} {w : World} (h : Began b A c cs A2 c2 fs n mb w) :
    Calls Try.prog 48 #[.pointer (some ⟨mb + 1, 0, none⟩), spotV 0 zeroS] w fun e W' => ∃ A' c', e = .returned (restV (spec b cs fs cs.length zeroS) A' c') ∧ w.grownBy W' (some mb) ∧ Memo b cs fs mb (fun q => q = mb) W' ∧ Good (fun q => q = mb) W' (spec b cs fs cs.length zeroS) A' c' :=
  from_any h.ok (by omega) h.hn cs.length 0 zeroS (fun q => q = mb) w (by omega) (zeroS_small (by decide)) rfl (fun q hq => by cases hq; exact h.lt) h.env h.memo

set_option maxRecDepth 10000 in
set_option maxHeartbeats 1000000 in
theorem ways_any (b : Int) (A : Option Addr) (c : Nat) (cs : List (List Int)) (A2 : Option Addr) (c2 : Nat) (fs : List Fx) (w : World) (h : TIn A c cs A2 c2 fs w) :
    Calls Try.prog 20 #[.agg #[.int .i64 b, .slice A cs.length c, .slice A2 fs.length c2]] w fun e w' =>
      e = .returned (if chkE b cs fs = 0 then .tuple #[.int .i64 (spec b cs fs cs.length zeroS).ways, .int .i64 0] else .tuple #[.int .i64 0, .int .i64 (chkE b cs fs)]) ∧ Below w.heap.size w w' := by
  have hB := below_box (w := w) #[.int .i64 b, .slice A cs.length c, .slice A2 fs.length c2] 33
  have h' := h.at_ hB
  by_cases hc : chkE b cs fs = 0
  · have K := hid (work_ok b A c cs A2 c2 fs _ h' hc)
    have KB := hid (fun w' mb hb h1 h2 h3 => (began (w' := w') (mb := mb) h' hc hb h1 h2 h3).from)
    rw [if_pos hc]
    clear h h' hc
    go_enter Try.func20, Try.ntmps20
    go_wp2_with (first | (go_at_call 47; refine (K.out).mono ?_; rintro e w2 ⟨mb, rfl, hb2, h1, h2, h3⟩; have KC := KB.out w2 mb hb2 h1 h2 h3; have KD := hid (And.intro KC (And.intro hb2 h1)); clear KC hb2 h1 h2 h3) | (go_at_call 48; refine (KD.out.1).mono ?_; rintro e w3 ⟨A', c', rfl, hg, _, _⟩; simp only [restV]))
    have hfl := rest_field (u0 := .int .i64 (spec b cs fs cs.length zeroS).ways) (u1 := .int .i64 (spec b cs fs cs.length zeroS).change) (u2 := .slice A' (spec b cs fs cs.length zeroS).first.length c') 0 3 _ w3 rfl rfl (by simp [go_sem, isAgg])
    go_simp
    go_wp2
    exact bodyPost_ret (v := .tuple #[.int .i64 (spec b cs fs cs.length zeroS).ways, .int .i64 0]) (by simp [results, Try.results20, go_sem]) rfl ⟨rfl, hB.trans ((below_new KD.out.2.1 hg KD.out.2.2).mono hB.size)⟩
  · have K := hid (work_bad b A c cs A2 c2 fs _ h' hc)
    have hne : (chkE b cs fs != 0) = true := by simpa using hc
    rw [if_neg hc]
    clear h h' hc
    generalize chkE b cs fs = ce at *
    go_enter Try.func20, Try.ntmps20
    go_wp2_with (go_at_call 47; refine (K.out).mono ?_; rintro e w2 ⟨rfl, hb2⟩)
    exact bodyPost_ret (v := .tuple #[.int .i64 0, .int .i64 ce]) (by simp [results, Try.results20, go_sem]) rfl ⟨rfl, hB.trans (hb2.mono hB.size)⟩
end Go.Proofs.Ytgoianldiomdoaa
/- Best: the best rounding. -/
namespace Go.Proofs.Ytgoianldiomdoaa
open Go.RowKit Go.Shelf

/-- the rows of the best rounding from a spot on -/
def bestOf (b : Int) (cs : List (List Int)) (fs : List Fx) : Nat → S4 → List (List Int)
  | 0, _ => []
  | k + 1, s => (spec b cs fs (k + 1) s).first :: bestOf b cs fs k (plusS s (spec b cs fs (k + 1) s).first)
/-- the sums when j rows are chosen -/
def sAt (b : Int) (cs : List (List Int)) (fs : List Fx) : Nat → S4
  | 0 => zeroS
  | j + 1 => plusS (sAt b cs fs j) (spec b cs fs (cs.length - j) (sAt b cs fs j)).first
theorem bestOf_get {b : Int} {cs : List (List Int)} {fs : List Fx} : ∀ (j i k : Nat), k + i = cs.length → j < k → (bestOf b cs fs k (sAt b cs fs i))[j]? = some (spec b cs fs (cs.length - (i + j)) (sAt b cs fs (i + j))).first
  | 0, i, k + 1, h, _ => by
    have : cs.length - i = k + 1 := by omega
    simp [bestOf, this]
  | j + 1, i, k + 1, h, hj => by
    have e : cs.length - i = k + 1 := by omega
    have ih := bestOf_get (b := b) (cs := cs) (fs := fs) j (i + 1) k (by omega) (by omega)
    rw [show i + 1 + j = i + (j + 1) by omega] at ih
    rw [← ih]
    simp [bestOf, sAt, e]
theorem bestOf_len {b : Int} {cs : List (List Int)} {fs : List Fx} : ∀ (k : Nat) (s : S4), (bestOf b cs fs k s).length = k
  | 0, _ => rfl
  | k + 1, s => by simp [bestOf, bestOf_len k]

theorem own_ne {W : World} {base e size n z : Nat} {v : Value} {xs : List Value} (h : W.ownsRow base e size v n xs) (hz : ∀ cs, W.heap[z]? ≠ some (.cells cs e (0, 0))) : v.ownBlock = none ∨ v.ownBlock ≠ some z := by
  rcases h.2 with ⟨rfl, _⟩ | ⟨g, cap, cur, rfl, _, hb, _⟩
  · exact .inl rfl
  · refine .inr fun e' => ?_
    injection e' with e'
    simp only at e'
    subst e'
    exact hz _ hb
theorem blk_not {W : World} {g t e : Nat} {us : Array Value} (h : Blk W g t us) (hne : t ≠ e) : ∀ cs, W.heap[g]? ≠ some (.cells cs e (0, 0)) := by
  intro cs hc
  unfold Blk at h
  rw [h] at hc
  injection hc with hc
  injection hc with _ ht
  exact hne ht
theorem map_not {W : World} {g e : Nat} {es : Array MapEntry} {ck : Nat} (h : W.heap[g]? = some (.map es ck)) : ∀ cs, W.heap[g]? ≠ some (.cells cs e (0, 0)) := by
  intro cs hc
  rw [h] at hc
  cases hc
/-- numbers is a list of rows, which lie in memory -/
def Rows_ (base : Nat) (v : Value) (j : Nat) (rows : List (List Int)) (W : World) : Prop :=
  ∃ vs, W.ownsRow base 56 1 v j vs ∧ ∀ i x, i < j → rows[i]? = some x → ∃ A c, vs[i]? = some (.slice A x.length c) ∧ Good (fun _ => False) W ⟨0, 0, x⟩ A c
theorem Rows_.grown {base j z : Nat} {v : Value} {rows : List (List Int)} {W W' : World} (h : Rows_ base v j rows W) (hg : W.grownBy W' (some z)) (h1 : ∀ cs, W.heap[z]? ≠ some (.cells cs 56 (0, 0))) (h2 : ∀ cs, W.heap[z]? ≠ some (.cells cs 3 (0, 0))) : Rows_ base v j rows W' := by
  obtain ⟨vs, ho, hv⟩ := h
  refine ⟨vs, ho.kept hg (own_ne ho h1), fun i x hi hx => ?_⟩
  obtain ⟨A, c, g1, g2⟩ := hv i x hi hx
  exact ⟨A, c, g1, g2.keep (Keep.of_grown (Z := fun q => q = z) hg rfl) (fun a e he => by
    obtain ⟨⟨us, hb⟩, _⟩ := g2.av a e
    rw [he] at hb
    exact h2 us hb)⟩
theorem Rows_.below {base j : Nat} {v : Value} {rows : List (List Int)} {W W' : World} (h : Rows_ base v j rows W) (hb : Below W.heap.size W W') : Rows_ base v j rows W' := by
  obtain ⟨vs, ho, hv⟩ := h
  refine ⟨vs, ho.kept (row := none) ⟨hb.os, hb.tape, hb.output, hb.size, fun i hi _ => hb.block i hi⟩ (by
    rcases ho.2 with ⟨rfl, _⟩ | ⟨g, cap, cur, rfl, _⟩
    · exact .inl rfl
    · exact .inr (by simp [Value.ownBlock])), fun i x hi hx => ?_⟩
  obtain ⟨A, c, g1, g2⟩ := hv i x hi hx
  exact ⟨A, c, g1, g2.below hb⟩
end Go.Proofs.Ytgoianldiomdoaa
/- Best, walked: where there is none. -/
namespace Go.Proofs.Ytgoianldiomdoaa
open Go.RowKit Go.Shelf

set_option maxRecDepth 10000 in
set_option maxHeartbeats 1000000 in
theorem best_bad (b : Int) (A : Option Addr) (c : Nat) (cs : List (List Int)) (A2 : Option Addr) (c2 : Nat) (fs : List Fx) (w : World) (h : TIn A c cs A2 c2 fs w) (hc : chkE b cs fs ≠ 0) :
    Calls Try.prog 18 #[.agg #[.int .i64 b, .slice A cs.length c, .slice A2 fs.length c2]] w fun e w' => e = .returned (.tuple #[.slice none 0 0, .int .i64 0, .int .i64 (chkE b cs fs)]) ∧ Below w.heap.size w w' := by
  have hB := below_box (w := w) #[.int .i64 b, .slice A cs.length c, .slice A2 fs.length c2] 33
  have K := hid (work_bad b A c cs A2 c2 fs _ (h.at_ hB) hc)
  have hne : (chkE b cs fs != 0) = true := by simpa using hc
  clear h hc
  generalize chkE b cs fs = ce at *
  go_enter Try.func18, Try.ntmps18
  go_wp2_with (go_at_call 47; refine (K.out).mono ?_; rintro e w2 ⟨rfl, hb2⟩)
  exact bodyPost_ret (v := .tuple #[.slice none 0 0, .int .i64 0, .int .i64 ce]) (by simp [results, Try.results18, go_sem]) rfl ⟨rfl, hB.trans (hb2.mono hB.size)⟩

theorem Began.below {b : Int} {A : Option Addr} {c : Nat} {cs : List (List Int)} {A2 : Option Addr} {c2 : Nat} {fs : List Fx} {n mb : Nat} {w w' : World} (h : Began b A c cs A2 c2 fs n mb w) (hb : Below w.heap.size w w') : Began b A c cs A2 c2 fs n mb w' :=
  ⟨h.ok, h.env.below hb, h.memo.below hb, h.hn, Nat.lt_of_lt_of_le h.lt hb.size⟩

set_option maxRecDepth 10000 in
set_option maxHeartbeats 1000000 in
theorem best_none (b : Int) (A : Option Addr) (c : Nat) (cs : List (List Int)) (A2 : Option Addr) (c2 : Nat) (fs : List Fx) (w : World) (h : TIn A c cs A2 c2 fs w) (hc : chkE b cs fs = 0) (hw : (spec b cs fs cs.length zeroS).ways = 0) :
    Calls Try.prog 18 #[.agg #[.int .i64 b, .slice A cs.length c, .slice A2 fs.length c2]] w fun e w' => e = .returned (.tuple #[.slice none 0 0, .int .i64 0, .int .i64 9]) ∧ Below w.heap.size w w' := by
  have hB := below_box (w := w) #[.int .i64 b, .slice A cs.length c, .slice A2 fs.length c2] 33
  have h' := h.at_ hB
  have K := hid (work_ok b A c cs A2 c2 fs _ h' hc)
  have KB := hid (fun w' mb hb h1 h2 h3 => (began (w' := w') (mb := mb) h' hc hb h1 h2 h3))
  have HW := hid hw
  clear h h' hc hw
  go_enter Try.func18, Try.ntmps18
  go_wp2_with (go_at_call 47; refine (K.out).mono ?_; rintro e w2 ⟨mb, rfl, hb2, h1, h2, h3⟩; have KC := KB.out w2 mb hb2 h1 h2 h3; have KD := hid (And.intro KC (And.intro hb2 h1)); clear KC hb2 h1 h2 h3)
  have hbl := (Below.refl w2.heap.size w2).alloc (Nat.le_refl _) (.cells #[.int .i64 0, .int .i64 0, .int .i64 0, .int .i64 0, .int .i64 0] 89)
  refine ((KD.out.1.below hbl).from).mono ?_
  rintro e w3 ⟨A', c', rfl, hg, _, _⟩
  have hz := HW.out
  simp only [restV, hz]
  go_wp2
  refine bodyPost_ret (v := .tuple #[.slice none 0 0, .int .i64 0, .int .i64 9]) (by simp [results, Try.results18, go_sem]) rfl ⟨rfl, ?_⟩
  have hq := below_new (KD.out.2.1.trans (hbl.mono KD.out.2.1.size)) hg KD.out.2.2
  exact (hB.trans (hq.mono hB.size)).alloc (Nat.le_trans hB.size hq.size) _
end Go.Proofs.Ytgoianldiomdoaa
/- Best, walked: the loop over the rows. -/
namespace Go.Proofs.Ytgoianldiomdoaa
open Go.RowKit Go.Shelf

theorem rows_info : (Try.prog.info? 56).map (fun i => (i.zero, i.size, i.bytes)) = some (some (.slice none 0 0), 1, 24) := by kernel_rfl

/-- the best rounding, when j rows are chosen -/
structure BestI (b : Int) (A : Option Addr) (c : Nat) (cs : List (List Int)) (A2 : Option Addr) (c2 : Nat) (fs : List Fx) (n mb B6 B7 : Nat) (w : World) (j : Nat) (v : Value) (W : World) : Prop where
  env : FEnv (mb + 1) n mb b A c cs A2 c2 fs W
  memo : Memo b cs fs mb (fun q => q = mb) W
  tb : Blk W w.heap.size 33 #[.int .i64 b, .slice A cs.length c, .slice A2 fs.length c2]
  t6 : Blk W B6 89 #[.int .i64 j, .int .i64 (sAt b cs fs j).a, .int .i64 (sAt b cs fs j).b, .int .i64 (sAt b cs fs j).c, .int .i64 (sAt b cs fs j).d]
  t7 : ∃ A' c', Blk W B7 91 #[.int .i64 (spec b cs fs cs.length zeroS).ways, .int .i64 (spec b cs fs cs.length zeroS).change, .slice A' (spec b cs fs cs.length zeroS).first.length c']
  rows : Rows_ (w.heap.size + 1) v j (bestOf b cs fs cs.length zeroS) W
  below : Below w.heap.size w W
section
variable {W W' : World} {base e size n : Nat} {v : Value} {vs : List Value}
theorem Keep.of_row {Z : Nat → Prop} {row : Option Nat} (h : W.grownBy W' row) (hz : ∀ k, row = some k → Z k) : Keep Z W W' :=
  ⟨h.os, h.tape, h.output, h.size, fun i _ _ _ hi hn => (h.block i (Array.getElem?_eq_some_iff.1 hi).1 (fun e => hn (hz i e.symm))).trans hi⟩
theorem keep_row (hg : W.grownBy W' v.ownBlock) : Keep (fun q => v.ownBlock = some q) W W' := Keep.of_row hg (fun _ h => h)
theorem own_not (ho : W.ownsRow base e size v n vs) {z : Nat} (hz : ∀ cs, W.heap[z]? ≠ some (.cells cs e (0, 0))) : ¬ v.ownBlock = some z := by
  rcases own_ne ho hz with h | h
  · rw [h]; intro e; cases e
  · exact h
theorem Blk.row {g t : Nat} {cs : Array Value} (h : Blk W g t cs) (ho : W.ownsRow base e size v n vs) (he : t ≠ e) (hg : W.grownBy W' v.ownBlock) : Blk W' g t cs := (keep_row hg).blk h (own_not ho (blk_not h he))
theorem FEnv.row {P n' mb : Nat} {b : Int} {At : Option Addr} {ct : Nat} {cs : List (List Int)} {Af : Option Addr} {cf : Nat} {fs : List Fx} (h : FEnv P n' mb b At ct cs Af cf fs W) (ho : W.ownsRow base e size v n vs) (he : 124 ≠ e) (hn : n' ≤ base) (hg : W.grownBy W' v.ownBlock) : FEnv P n' mb b At ct cs Af cf fs W' :=
  h.keep (keep_row hg) (own_not ho (blk_not h.bp he)) (fun q hq => by have := ho.lt q hq; omega)
theorem Good.row {Y : Nat → Prop} {x : Rst} {A : Option Addr} {c : Nat} (h : Good Y W x A c) (ho : W.ownsRow base e size v n vs) (he : 3 ≠ e) (hg : W.grownBy W' v.ownBlock) : Good Y W' x A c :=
  h.keep (keep_row hg) (fun a e' => by
    obtain ⟨⟨us, hb⟩, _⟩ := h.av a e'
    exact own_not ho (blk_not hb he))
theorem Memo.row {Y : Nat → Prop} {b : Int} {cs : List (List Int)} {fs : List Fx} {mb : Nat} (h : Memo b cs fs mb Y W) (ho : W.ownsRow base e size v n vs) (he : 3 ≠ e) (hg : W.grownBy W' v.ownBlock) : Memo b cs fs mb Y W' := by
  obtain ⟨es, clock, h1, h2, h3⟩ := h
  refine ⟨es, clock, (hg.block mb (Array.getElem?_eq_some_iff.1 h1).1 (fun e => own_not ho (map_not h1) e.symm)).trans h1, h2, fun e' he' => ?_⟩
  obtain ⟨k, s, A, c, g1, g2, g3, g4, g5⟩ := h3 e' he'
  exact ⟨k, s, A, c, g1, g2, g3, g4, g5.row ho he hg⟩
theorem below_row {B : Nat} {A : World} (h : Below B A W) (ho : W.ownsRow base e size v n vs) (hb : B ≤ base) (hg : W.grownBy W' v.ownBlock) (hB : B ≤ W.heap.size) : Below B A W' := h.grown hg hB (fun k hk => by have := ho.lt k hk; omega)
end
def set5 (W : World) (g : Nat) (u0 u1 u2 u3 u4 : Value) : World := ((((W.setCell ⟨g, 0, none⟩ u0).setCell ⟨g, 1, none⟩ u1).setCell ⟨g, 2, none⟩ u2).setCell ⟨g, 3, none⟩ u3).setCell ⟨g, 4, none⟩ u4
theorem set5_grown (W : World) (g : Nat) (u0 u1 u2 u3 u4 : Value) : W.grownBy (set5 W g u0 u1 u2 u3 u4) (some g) :=
  grown_one (grown_one (grown_one (grown_one (grown_of_set W ⟨g, 0, none⟩ u0) (grown_of_set _ ⟨g, 1, none⟩ u1)) (grown_of_set _ ⟨g, 2, none⟩ u2)) (grown_of_set _ ⟨g, 3, none⟩ u3)) (grown_of_set _ ⟨g, 4, none⟩ u4)
theorem set5_blk {W : World} {g : Nat} {t : TypeId} {v0 v1 v2 v3 v4 : Value} (h : Blk W g t #[v0, v1, v2, v3, v4]) (u0 u1 u2 u3 u4 : Value) : Blk (set5 W g u0 u1 u2 u3 u4) g t #[u0, u1, u2, u3, u4] := ((((h.set_ 0 u0).set_ 1 u1).set_ 2 u2).set_ 3 u3).set_ 4 u4
def lenOf : Value → Nat
  | .slice _ n _ => n
  | _ => 0
theorem Rows_.shape {base j : Nat} {v : Value} {rows : List (List Int)} {W : World} (h : Rows_ base v j rows W) : ∃ A c, v = .slice A j c := by
  obtain ⟨vs, ho, _⟩ := h
  rcases ho.2 with ⟨rfl, rfl⟩ | ⟨g, cap, cur, rfl, _⟩
  · exact ⟨_, _, rfl⟩
  · exact ⟨_, _, rfl⟩
theorem Rows_.zero {base : Nat} {rows : List (List Int)} {W : World} : Rows_ base (.slice none 0 0) 0 rows W := ⟨[], World.ownsRow_nil _ _ _ _, fun _ _ hi => absurd hi (Nat.not_lt_zero _)⟩
/-- a result of Best that is a rounding -/
def GivesBest (b : Int) (cs : List (List Int)) (fs : List Fx) (w : World) (e : Ending) (w' : World) : Prop :=
  ∃ A c, e = .returned (.tuple #[.slice A cs.length c, .int .i64 (spec b cs fs cs.length zeroS).change, .int .i64 0]) ∧ IsRows w' w'.heap.size A (bestOf b cs fs cs.length zeroS) ∧ cs.length ≤ c ∧ c ≤ maxLen ∧ (A = none → c = 0) ∧ (∀ a, A = some a → w.heap.size ≤ a.block) ∧ Below w.heap.size w w'
theorem Rows_.out {base : Nat} {v : Value} {rows : List (List Int)} {W : World} (h : Rows_ base v rows.length rows W) : ∃ A c, v = .slice A rows.length c ∧ IsRows W W.heap.size A rows ∧ rows.length ≤ c ∧ c ≤ maxLen ∧ (A = none → c = 0) ∧ (∀ a, A = some a → base ≤ a.block) := by
  obtain ⟨vs, ho, hv⟩ := h
  rcases ho.2 with ⟨rfl, h0⟩ | ⟨g, cap, cur, rfl, hb, hg, h1, h2, h3, h4⟩
  · rw [h0]
    refine ⟨none, 0, rfl, ?_, Nat.le_refl _, Nat.zero_le _, fun _ => rfl, fun a e => by cases e⟩
    intro r xs hx
    rw [List.eq_nil_of_length_eq_zero h0] at hx
    simp at hx
  · refine ⟨_, cap, rfl, ?_, h1, h2, (fun e => by cases e), fun a e => by cases e; exact hb⟩
    intro r xs hx
    obtain ⟨A, c, g1, g2⟩ := hv r xs (List.getElem?_eq_some_iff.1 hx).1 hx
    exact ⟨_, A, c, rfl, (Array.getElem?_eq_some_iff.1 hg).1, ho.cells (g := g) rfl r _ g1, g2.le, g2.mx, g2.ints⟩
theorem sAt_small {b : Int} {cs : List (List Int)} {fs : List Fx} (ok : TOk b cs fs) : ∀ (j : Nat), j ≤ cs.length → Small (10100 * (j : Int)) (sAt b cs fs j)
  | 0, _ => zeroS_small (by decide)
  | j + 1, hj => by
    have ih := sAt_small ok j (by omega)
    have := (bnd_spec ok (cs.length - j) (by omega) (sAt b cs fs j)).1
    exact (plusS_small' ih this.cell).mono (by omega)

set_option maxRecDepth 100000 in
set_option maxHeartbeats 4000000 in
theorem best_some (b : Int) (A : Option Addr) (c : Nat) (cs : List (List Int)) (A2 : Option Addr) (c2 : Nat) (fs : List Fx) (w : World) (h : TIn A c cs A2 c2 fs w) (hc : chkE b cs fs = 0) (hw : (spec b cs fs cs.length zeroS).ways ≠ 0) :
    Calls Try.prog 18 #[.agg #[.int .i64 b, .slice A cs.length c, .slice A2 fs.length c2]] w (GivesBest b cs fs w) := by
  have hB := below_box (w := w) #[.int .i64 b, .slice A cs.length c, .slice A2 fs.length c2] 33
  have h' := h.at_ hB
  have K := hid (work_ok b A c cs A2 c2 fs _ h' hc)
  have KB := hid (fun w' mb hb h1 h2 h3 => (began (w' := w') (mb := mb) h' hc hb h1 h2 h3))
  have hne : ((spec b cs fs cs.length zeroS).ways == 0) = false := by simpa using hw
  have OK := hid (chk_ok hc)
  clear h h' hc hw
  go_enter Try.func18, Try.ntmps18
  go_wp2_with (go_at_call 47; refine (K.out).mono ?_; rintro e w2 ⟨mb, rfl, hb2, h1, h2, h3⟩; have KC := KB.out w2 mb hb2 h1 h2 h3; have KD := hid (And.intro KC (And.intro hb2 h1)); clear KC hb2 h1 h2 h3)
  have hbl := (Below.refl w2.heap.size w2).alloc (Nat.le_refl _) (.cells #[.int .i64 0, .int .i64 0, .int .i64 0, .int .i64 0, .int .i64 0] 89)
  refine ((KD.out.1.below hbl).from).mono ?_
  rintro e w3 ⟨A', c', rfl, hg, hm, hgd⟩
  simp only [restV]
  have HX := hid (And.intro hg (And.intro hm hgd))
  clear hg hm hgd
  go_wp2
  refine gen (p := Code.wp _ _ _ _) (fun W => BestI b A c cs A2 c2 fs (w.heap.size + 1) mb w2.heap.size w3.heap.size w 0 (.slice none 0 0) W ∧ w.heap.size + 1 ≤ mb ∧ mb + 1 < w2.heap.size ∧ w2.heap.size < w3.heap.size) ?_ ?_
  · obtain ⟨hg, hm, hgd⟩ := HX.out
    obtain ⟨kb, k2, k3⟩ := KD.out
    have hs2 := kb.env.bp.lt
    have hs3 := hg.size
    have hsz : (w.alloc (.cells #[.int .i64 b, .slice A cs.length c, .slice A2 fs.length c2] 33)).heap.size = w.heap.size + 1 := by simp
    have hk2 := k2.size
    simp only [World.size_alloc] at hs3
    have hb3 := below_new (k2.trans (hbl.mono k2.size)) hg k3
    have hbn := (Below.refl w3.heap.size w3).alloc (Nat.le_refl _) (.cells #[.int .i64 (spec b cs fs cs.length zeroS).ways, .int .i64 (spec b cs fs cs.length zeroS).change, .slice A' (spec b cs fs cs.length zeroS).first.length c'] 91)
    have hk : Keep (fun q => q = mb) (w2.alloc (.cells #[.int .i64 0, .int .i64 0, .int .i64 0, .int .i64 0, .int .i64 0] 89)) w3 := Keep.of_grown hg rfl
    have h6 := (hk.blk (Blk.new w2 89 #[.int .i64 0, .int .i64 0, .int .i64 0, .int .i64 0, .int .i64 0]) (by omega)).keep hbn
    refine ⟨⟨by rw [← hsz]; exact ((kb.env.below hbl).keep hk (by omega) (fun q hq => by omega)).below hbn, hm.below hbn, ?_, h6, ⟨A', c', Blk.new _ _ _⟩, Rows_.zero, ?_⟩, by omega, by omega, by omega⟩
    · exact (((Blk.new w 33 #[.int .i64 b, .slice A cs.length c, .slice A2 fs.length c2]).below hb3 (by simp)).keep hbn)
    · exact (hB.trans (hb3.mono hB.size)).trans (hbn.mono (by omega))
  rintro W1 ⟨HI1, z1, z2, z3⟩
  have HZ := hid (And.intro z1 (And.intro z2 z3))
  have HI := hid HI1
  clear HI1 z1 z2 z3 HX KD KB K hbl
  generalize w2.heap.size = B6 at *
  generalize w3.heap.size = B7 at *
  go_loopw [2, 8] (fun v _ wr => ∃ j : Nat, j ≤ cs.length ∧ lenOf v = j ∧ BestI b A c cs A2 c2 fs (w.heap.size + 1) mb B6 B7 w j v wr) (fun v _ _ => cs.length - lenOf v)
  case atStart => exact ⟨0, Nat.zero_le _, rfl, HI.out⟩
  case round =>
    obtain ⟨j, hj, hl, hi⟩ := hrel
    clear HI
    obtain ⟨A0, c0, rfl⟩ := hi.rows.shape
    obtain ⟨z1, z2, z3⟩ := HZ.out
    obtain ⟨s0, s1, s2, s3, s4⟩ := hi.t6.c5
    obtain ⟨t0, t1, t2⟩ := hi.tb.c3
    obtain ⟨A7, c7, hr7⟩ := hi.t7
    have HI := hid hi
    by_cases hlt : j < cs.length
    · have hltI : (j : Int) < (cs.length : Int) := by omega
      have HF := hid (from_any OK.out (by omega) (by omega) (cs.length - j) j (sAt b cs fs j) (fun q => q = mb) wr (by omega) (sAt_small OK.out j hj) rfl (fun q hq => by subst hq; have := hi.env.bp.lt; omega) hi.env hi.memo)
      clear hi hr7 z1 z2 z3 hl
      go_wp2_with fail
      refine HF.out.mono ?_
      rintro e w4 ⟨A', c', rfl, hg, hm, hgd⟩
      have HS := hid (show sAt b cs fs (j + 1) = plusS (sAt b cs fs j) (spec b cs fs (cs.length - j) (sAt b cs fs j)).first from rfl)
      have HG := hid (bestOf_get (b := b) (cs := cs) (fs := fs) j 0 cs.length (by omega) hlt)
      have hbn := (bnd_spec OK.out (cs.length - j) (by omega) (sAt b cs fs j)).1
      have hx4 := hbn.len
      have HC := hid hbn.cell
      have HM := hid (sAt_small OK.out j hj)
      have hn2 := OK.out.okc.n2
      simp only [Nat.zero_add] at HG
      have e0 : sAt b cs fs 0 = zeroS := rfl
      rw [e0] at HG
      generalize spec b cs fs (cs.length - j) (sAt b cs fs j) = x at *
      have hfl := rest_field (u0 := .int .i64 x.ways) (u1 := .int .i64 x.change) (u2 := .slice A' x.first.length c') 2 56 _ w4 rfl rfl (by simp [go_sem, isAgg])
      have HX := hid (And.intro hg (And.intro hm hgd))
      clear hg hm hgd hbn e0
      simp only [restV]
      go_simp
      clear s0 s1 s2 s3 s4 t0 t1 t2
      go_wp2_with fail
      clear hfl
      refine (clone_any A' c' x.first w4 HX.out.2.2.ints HX.out.2.2.nil (by omega)).mono ?_
      rintro e w5 ⟨A5, c5, rfl, g1, g2, g3, g4, g5, hb5⟩
      obtain ⟨i0, hi0, hz0, hz1, hz2⟩ := info_parts rows_info
      have hmem := HI.out.memo
      obtain ⟨es, ck, hmap, _⟩ := hmem
      obtain ⟨vs, ho, hv⟩ := (HI.out.rows.grown HX.out.1 (map_not hmap) (map_not hmap)).below hb5
      have HV := hid (And.intro hv (And.intro g1 (And.intro g2 (And.intro g3 (And.intro g4 g5)))))
      have HO := hid (ho.alloc (.cells #[.slice A5 x.first.length c5] 56))
      have HB5 := hid hb5
      have hbase := HI.out.below.size
      have hbase4 := HX.out.1.size
      have hbase5 := hb5.size
      clear ho hv g1 g2 g3 g4 g5 hmap hb5
      go_wp2_with (at_builtin; refine wpList_append_own_at _ rfl _ _ 22 rfl (w.heap.size + 1) 56 i0 (.slice none 0 0) 1 24 Try.underlying22 hi0 hz0 hz1 hz2 rfl (by decide) _ j vs rfl HO.out ⟨w5.heap.size, 0, none⟩ 1 1 [.slice A5 x.first.length c5] rfl rfl (by intro q u hq; cases q with | zero => simp at hq; subst hq; exact (World.cell?_alloc_new _ _ _ _) | succ q => simp at hq) (by intro u hu; simp at hu; subst hu; rfl) (by simp only [maxLen]; omega) (by omega) (by simp; omega) ?_; intro v' w6 hown' hgrow _ _)
      have hown := HO.out
      have hga : w5.grownBy (w5.alloc (.cells #[.slice A5 x.first.length c5] 56)) none := grown_of_below ((Below.refl _ _).alloc (Nat.le_refl _) _) _
      have hba : Below w5.heap.size w5 (w5.alloc (.cells #[.slice A5 x.first.length c5] 56)) := (Below.refl _ _).alloc (Nat.le_refl _) _
      obtain ⟨es, ck, hmap, _⟩ := HI.out.memo
      have hk4 : Keep (fun q => q = mb) wr w4 := Keep.of_grown HX.out.1 rfl
      obtain ⟨z1, z2, z3⟩ := HZ.out
      have e4 := HI.out.env.keep hk4 (by omega) (fun q hq => by omega)
      have hb45 := HB5.out.trans (hba.mono HB5.out.size)
      have e6 := (e4.below hb45).row hown (by decide) (Nat.le_refl _) hgrow
      have m6 := (HX.out.2.1.below hb45).row hown (by decide) hgrow
      have tb6 := ((hk4.blk HI.out.tb (by omega)).keep hb45).row hown (by decide) hgrow
      have t66 := ((hk4.blk HI.out.t6 (by omega)).keep hb45).row hown (by decide) hgrow
      obtain ⟨A7, c7, hr7⟩ := HI.out.t7
      have t76 := ((hk4.blk hr7 (by omega)).keep hb45).row hown (by decide) hgrow
      have x6 := ((HX.out.2.2.below hb45).row hown (by decide) hgrow)
      have b5 : Below w.heap.size w (w5.alloc (.cells #[.slice A5 x.first.length c5] 56)) := ((HI.out.below.grown HX.out.1 hbase (fun k hk => by cases hk; omega)).trans (hb45.mono (by omega)))
      have b6 := below_row b5 hown (by omega) hgrow (by simp; omega)
      have hz6 := hgrow.size
      have r6 : Rows_ (w.heap.size + 1) v' (j + 1) (bestOf b cs fs cs.length zeroS) w6 := by
        obtain ⟨hv, g1, g2, g3, g4, g5⟩ := HV.out
        refine ⟨_, hown', fun i y hi hy => ?_⟩
        by_cases hij : i < j
        · obtain ⟨Ai, ci, q1, q2⟩ := hv i y hij hy
          have : vs.length = j := by have := hown.1; omega
          exact ⟨Ai, ci, by rw [List.getElem?_append_left (by omega)]; exact q1, (q2.below hba).row hown (by decide) hgrow⟩
        · obtain rfl : i = j := by omega
          rw [HG.out] at hy
          injection hy with hy
          subst hy
          have : vs.length = i := by have := hown.1; omega
          refine ⟨A5, c5, by rw [List.getElem?_append_right (by omega), this]; simp, Good.row (Good.below ⟨g3, fun a e => ⟨(g4 a e).2, id⟩, g1, g2, g5⟩ hba) hown (by decide) hgrow⟩
      have H6 := hid (And.intro e6 (And.intro m6 (And.intro tb6 (And.intro t66 (And.intro t76 (And.intro x6 (And.intro b6 r6)))))))
      clear HI HX HV HO HB5 hown hga hba hmap hk4 e4 hb45 e6 m6 tb6 t66 t76 x6 b5 b6 r6 hr7 hown' hgrow hbase hbase4 hbase5 hz6 HG hi0 hz0 hz1 hz2
      have HQ := hid (show ∀ W1, Below w6.heap.size w6 W1 → W1.cell? ⟨B6, 0, none⟩ = some (.int .i64 j) ∧ W1.cell? ⟨B6, 1, none⟩ = some (.int .i64 (sAt b cs fs j).a) ∧ W1.cell? ⟨B6, 2, none⟩ = some (.int .i64 (sAt b cs fs j).b) ∧ W1.cell? ⟨B6, 3, none⟩ = some (.int .i64 (sAt b cs fs j).c) ∧ W1.cell? ⟨B6, 4, none⟩ = some (.int .i64 (sAt b cs fs j).d) from
        fun W1 hb => (H6.out.2.2.2.1.keep hb).c5)
      have HP := hid (show ∀ W1, Below w6.heap.size w6 W1 → _ from fun W1 hb => plus_any (sAt b cs fs j) A' c' x.first W1 (HM.out.mono (by omega)) (H6.out.2.2.2.2.2.1.below hb).ints hx4 (fun v hv => by have := HC.out v hv; omega))
      generalize hsj : sAt b cs fs j = s at *
      clear hsj
      refine (wpIn_wide (n := 0)).1 ?_
      refine wpIn_region_each 8 (fun i v W' => match i with | 0 => v = .pointer (some ⟨B6, 0, none⟩) | 1 => v = .int .i64 j | 2 => v = .int .i64 ((j : Int) + 1) | 3 => v = .pointer (some ⟨B6, 1, none⟩) | 4 => v = .agg #[.int .i64 s.a, .int .i64 s.b, .int .i64 s.c, .int .i64 s.d] | 5 => v = .slice A' x.first.length c' | 6 => v = .agg #[.int .i64 (plusS s x.first).a, .int .i64 (plusS s x.first).b, .int .i64 (plusS s x.first).c, .int .i64 (plusS s x.first).d] | 7 => v = .agg #[.int .i64 ((j : Int) + 1), .int .i64 (plusS s x.first).a, .int .i64 (plusS s x.first).b, .int .i64 (plusS s x.first).c, .int .i64 (plusS s x.first).d] | _ => True) (fun A B => Below A.heap.size A B) (fun _ _ => True) (by kernel_rfl) (by kernel_rfl) ?_ (fun h k => h.trans (k.mono h.size)) ⟨rfl, rfl, rfl, Nat.le_refl _, fun _ _ => rfl⟩ trivial (by kernel_rfl) ?_ ?_
      · intro i v _ _ _ h; exact h
      · refine ⟨?_, ?_, ?_, ?_, ?_, ?_, ?_, ?_, trivial⟩
        · -- 0: fieldAddr t6 0
          intro li a1 W2 hA K hK
          have e6 := hA.par 6 (by kernel_rfl)
          refine opStep none 0 rfl rfl (fun c hc => by cases hc) ?_
          go_simp
          exact hK _ _ rfl (Below.refl _ _) trivial
        · -- 1: load t39
          intro li a1 W2 hA K hK
          have e39 : a1.tmps.getD 39 undef = .pointer (some ⟨B6, 0, none⟩) := hA.val 0 39 (by kernel_rfl) (by kernel_rfl)
          obtain ⟨q1, q2, q3, q4, q5⟩ := HQ.out W2 hA.st
          refine opStep none 0 rfl rfl (fun c hc => by cases hc) ?_
          go_simp
          exact hK _ _ rfl (Below.refl _ _) trivial
        · -- 2: add
          intro li a1 W2 hA K hK
          have e40 : a1.tmps.getD 40 undef = .int .i64 j := hA.val 1 40 (by kernel_rfl) (by kernel_rfl)
          refine opStep none 0 rfl rfl (fun c hc => by cases hc) ?_
          have hw : IntKind.i64.wrap ((j : Int) + 1) = (j : Int) + 1 := by rw [IntKind.wrap_i64]; omega
          go_simp
          exact hK _ _ (by first | rfl | exact congrArg (Value.int .i64) hw) (Below.refl _ _) trivial
        · -- 3: fieldAddr t6 1
          intro li a1 W2 hA K hK
          have e6 := hA.par 6 (by kernel_rfl)
          refine opStep none 0 rfl rfl (fun c hc => by cases hc) ?_
          go_simp
          exact hK _ _ rfl (Below.refl _ _) trivial
        · -- 4: load t42
          intro li a1 W2 hA K hK
          have e42 : a1.tmps.getD 42 undef = .pointer (some ⟨B6, 1, none⟩) := hA.val 3 42 (by kernel_rfl) (by kernel_rfl)
          obtain ⟨q1, q2, q3, q4, q5⟩ := HQ.out W2 hA.st
          refine opStep none 0 rfl rfl (fun c hc => by cases hc) ?_
          go_simp
          exact hK _ _ rfl (Below.refl _ _) trivial
        · -- 5: move t8
          intro li a1 W2 hA K hK
          have e8 := hA.par 8 (by kernel_rfl)
          refine opStep none 0 rfl rfl (fun c hc => by cases hc) ?_
          go_simp
          exact hK _ _ rfl (Below.refl _ _) trivial
        · -- 6: call plus
          intro li a1 W2 hA K hK
          have e43 : a1.tmps.getD 43 undef = .agg #[.int .i64 s.a, .int .i64 s.b, .int .i64 s.c, .int .i64 s.d] := hA.val 4 43 (by kernel_rfl) (by kernel_rfl)
          have e44 : a1.tmps.getD 44 undef = .slice A' x.first.length c' := hA.val 5 44 (by kernel_rfl) (by kernel_rfl)
          refine opStep none 0 rfl rfl (fun c hc => by cases hc) ?_
          go_simp
          refine (HP.out W2 hA.st).mono ?_
          rintro e W3 ⟨rfl, hb3⟩
          exact hK _ _ rfl hb3 trivial
        · -- 7: build
          intro li a1 W2 hA K hK
          have e41 : a1.tmps.getD 41 undef = .int .i64 ((j : Int) + 1) := hA.val 2 41 (by kernel_rfl) (by kernel_rfl)
          have e45 : a1.tmps.getD 45 undef = .agg #[.int .i64 (plusS s x.first).a, .int .i64 (plusS s x.first).b, .int .i64 (plusS s x.first).c, .int .i64 (plusS s x.first).d] := hA.val 6 45 (by kernel_rfl) (by kernel_rfl)
          refine opStep none 0 rfl rfl (fun c hc => by cases hc) ?_
          have e41' := e41
          have e45' := e45
          rw [Array.getD_eq_getD_getElem?] at e41' e45'
          go_simp
          exact hK _ _ rfl (Below.refl _ _) trivial
      · intro li a1 W2 hD
        have e46 : a1.tmps.getD 46 undef = .agg #[.int .i64 ((j : Int) + 1), .int .i64 (plusS s x.first).a, .int .i64 (plusS s x.first).b, .int .i64 (plusS s x.first).c, .int .i64 (plusS s x.first).d] := hD.val 7 46 (by kernel_rfl) (by kernel_rfl)
        have e6 : a1.tmps.getD 6 undef = .pointer (some ⟨B6, 0, none⟩) := hD.par 6 (by kernel_rfl)
        have hbl := H6.out.2.2.2.1.keep hD.st
        obtain ⟨d0, d1, d2, d3, d4⟩ := hbl.c5
        have f0 := hbl.frozen 0
        have f1 := hbl.frozen 1
        have f2 := hbl.frozen 2
        have f3 := hbl.frozen 3
        have f4 := hbl.frozen 4
        have hgl := hbl.lt
        refine tail_store (i := 8) (W' := set5 W2 B6 (.int .i64 ((j : Int) + 1)) (.int .i64 (plusS s x.first).a) (.int .i64 (plusS s x.first).b) (.int .i64 (plusS s x.first).c) (.int .i64 (plusS s x.first).d)) none 0 rfl rfl rfl (fun c hc => by cases hc) (by unfold set5; go_simp) ?_
        have e := hD.act [39, 40, 41, 42, 43, 44, 45, 46] (by kernel_rfl)
        obtain ⟨k1, k2, k3, k4, k5, k6, k7, k8⟩ := H6.out
        have hst := hD.st
        have hg5 := set5_grown W2 B6 (.int .i64 ((j : Int) + 1)) (.int .i64 (plusS s x.first).a) (.int .i64 (plusS s x.first).b) (.int .i64 (plusS s x.first).c) (.int .i64 (plusS s x.first).d)
        have hb5 := set5_blk hbl (.int .i64 ((j : Int) + 1)) (.int .i64 (plusS s x.first).a) (.int .i64 (plusS s x.first).b) (.int .i64 (plusS s x.first).c) (.int .i64 (plusS s x.first).d)
        have hk5 : Keep (fun q => q = B6) W2 _ := Keep.of_grown hg5 rfl
        obtain ⟨z1, z2, z3⟩ := HZ.out
        have hws := k7.size
        have hst2 := hst.size
        have hcast : ((j : Int) + 1) = ((j + 1 : Nat) : Int) := by omega
        have HN := hid (show BestI b A c cs A2 c2 fs (w.heap.size + 1) mb B6 B7 w (j + 1) v' (set5 W2 B6 (.int .i64 ((j : Int) + 1)) (.int .i64 (plusS s x.first).a) (.int .i64 (plusS s x.first).b) (.int .i64 (plusS s x.first).c) (.int .i64 (plusS s x.first).d)) from
          ⟨(k1.below hst).keep hk5 (by omega) (fun q hq => by omega), (k2.below hst).set_ hbl (by decide) hg5, hk5.blk (k3.keep hst) (by omega), by rw [HS.out, ← hcast]; exact hb5, ⟨_, _, hk5.blk (k5.keep hst) (by omega)⟩,
            (k8.below hst).grown hg5 (blk_not hbl (by decide)) (blk_not hbl (by decide)), (k7.trans (hst.mono (by omega))).grown hg5 (by omega) (fun k hk => by cases hk; omega)⟩)
        have hlen' : lenOf v' = j + 1 := by obtain ⟨Av, cv, rfl⟩ := k8.shape; rfl
        clear hD e46 e6 hbl d0 d1 d2 d3 d4 f0 f1 f2 f3 f4 hgl k1 k2 k3 k4 k5 k6 k7 k8 hst hg5 hb5 hk5 hws hst2 hcast H6 HQ HP HM HC HS
        generalize set5 W2 B6 (.int .i64 ((j : Int) + 1)) (.int .i64 (plusS s x.first).a) (.int .i64 (plusS s x.first).b) (.int .i64 (plusS s x.first).c) (.int .i64 (plusS s x.first).d) = W3 at *
        generalize (fun i => a1.tmps.getD i undef) = g at e
        refine wpListIn_nil ?_
        rw [e]
        have HL := hid hlen'
        clear e hlen' hltI
        simp only [mix, List.contains_cons, List.contains_nil, Nat.reduceAdd, Nat.reduceBEq, Bool.or_false, Bool.or_true, cond_true, cond_false]
        go_wp2
        go_roundw
        case rel => exact ⟨j + 1, hlt, HL.out, HN.out⟩
        case measure => rw [HL.out]; simp [lenOf]; omega
    · have hltI : decide ((j : Int) < (cs.length : Int)) = false := by simp; omega
      obtain rfl : j = cs.length := by omega
      obtain ⟨u0, u1, u2⟩ := xt_c3 hr7
      have hr1 := hi.rows
      have hb1 := hi.below
      clear hi hl hltI HI
      go_wp2
      clear s0 s1 s2 s3 s4 t0 t1 t2
      refine wp_region_quiet_xt (by kernel_rfl) (by kernel_rfl) ?_
      repeat (go_big_quiet_step (fail))
      refine wpQuiet_nil ?_
      intro W2 hw2
      replace hw2 := of_xt hw2
      have HR := hid (And.intro (hr1.below hw2) (hb1.trans (hw2.mono hb1.size)))
      clear hr1 hb1 hw2 u0 u1 u2 hr7
      go_wp2
      obtain ⟨hr, hb⟩ := HR.out
      have hbl := bestOf_len (b := b) (cs := cs) (fs := fs) cs.length zeroS
      obtain ⟨vs, ho, hv⟩ := hr
      have hrr : Rows_ (w.heap.size + 1) (.slice A0 cs.length c0) (bestOf b cs fs cs.length zeroS).length (bestOf b cs fs cs.length zeroS) W2 := by rw [hbl]; exact ⟨vs, ho, hv⟩
      obtain ⟨Ao, co, he, q1, q2, q3, q4, q5⟩ := hrr.out
      rw [hbl] at he q2
      injection he with he1 _ he2
      subst he1 he2
      exact bodyPost_ret (v := .tuple #[.slice A0 cs.length c0, .int .i64 (spec b cs fs cs.length zeroS).change, .int .i64 0]) (by simp [results, Try.results18, go_sem]) rfl ⟨_, _, rfl, q1, q2, q3, q4, fun a e => by have := q5 a e; omega, hb⟩

theorem best_any (b : Int) (A : Option Addr) (c : Nat) (cs : List (List Int)) (A2 : Option Addr) (c2 : Nat) (fs : List Fx) (w : World) (h : TIn A c cs A2 c2 fs w) :
    Calls Try.prog 18 #[.agg #[.int .i64 b, .slice A cs.length c, .slice A2 fs.length c2]] w fun e w' =>
      if chkE b cs fs ≠ 0 then e = .returned (.tuple #[.slice none 0 0, .int .i64 0, .int .i64 (chkE b cs fs)]) ∧ Below w.heap.size w w'
      else if (spec b cs fs cs.length zeroS).ways = 0 then e = .returned (.tuple #[.slice none 0 0, .int .i64 0, .int .i64 9]) ∧ Below w.heap.size w w' else GivesBest b cs fs w e w' := by
  by_cases hc : chkE b cs fs = 0
  · by_cases hw : (spec b cs fs cs.length zeroS).ways = 0
    · refine (best_none b A c cs A2 c2 fs w h hc hw).mono fun e w' h => ?_
      rw [if_neg (by simp [hc]), if_pos hw]; exact h
    · refine (best_some b A c cs A2 c2 fs w h hc hw).mono fun e w' h => ?_
      rw [if_neg (by simp [hc]), if_neg hw]; exact h
  · refine (best_bad b A c cs A2 c2 fs w h hc).mono fun e w' h => ?_
    rw [if_pos hc]; exact h
end Go.Proofs.Ytgoianldiomdoaa
