/- The walks and the plain laws of this part of the program, part 1: what each computes. Conditions stand at each theorem. -/
import Derived.Test.YtoeabajigfdkaaaRows
import Derived.WalkKit
import Derived.WalkSpells
import Derived.WalkLawsBesides
import Derived.Deep.Quiet
import Derived.Deep.QuietTactic
import Derived.BigQuiet
import Derived.Laws.EntriesVeiled
import Derived.Shelf.Abstract
import Derived.Below
/- Words for memory that these proofs use: slices that read as lists, worlds that have only grown, and a law for statements whose order is open. No condition. -/
namespace Go.Proofs.Ytoeabajigfdkaaa
open Go.RowKit

theorem block_of_add (a : Addr) (n : Nat) : (a.add n).block = a.block := by unfold Addr.add; split <;> rfl
theorem add_zero_ (a : Addr) : a.add 0 = a := rfl
theorem add_next (a : Addr) (n m : Nat) (hm : m ≠ 0) : a.add (n + m) = ⟨(a.add n).block, (a.add n).off + m, none⟩ := by
  unfold Addr.add
  by_cases hn : n = 0
  · subst hn; simp [hm]
  · simp [hn, Nat.add_assoc]
theorem add_of_add (a : Addr) (i j : Nat) : (a.add i).add j = a.add (i + j) := by
  unfold Addr.add
  by_cases hi : i = 0 <;> by_cases hj : j = 0 <;> simp [hi, hj, Nat.add_assoc]

/-- the slice at A reads as the numbers xs, below block n -/
def IsInts (w : World) (n : Nat) (A : Option Addr) (xs : List Int) : Prop :=
  ∀ k x, xs[k]? = some x → ∃ a, A = some a ∧ a.block < n ∧ w.cell? (a.add k) = some (.int .i64 x)

def IsRows (w : World) (n : Nat) (A : Option Addr) (xss : List (List Int)) : Prop :=
  ∀ r xs, xss[r]? = some xs → ∃ a A' c, A = some a ∧ a.block < n ∧ w.cell? (a.add r) = some (.slice A' xs.length c) ∧ xs.length ≤ c ∧ c ≤ maxLen ∧ IsInts w n A' xs

structure Fx where
  row : Int
  col : Int
  val : Int

def IsFixes (w : World) (n : Nat) (A : Option Addr) (fs : List Fx) : Prop :=
  ∀ k f, fs[k]? = some f → ∃ a, A = some a ∧ a.block < n ∧ w.cell? (a.add (k * 3)) = some (.int .i64 f.row) ∧ w.cell? ⟨(a.add (k * 3)).block, (a.add (k * 3)).off + 1, none⟩ = some (.int .i64 f.col) ∧ w.cell? ⟨(a.add (k * 3)).block, (a.add (k * 3)).off + 2, none⟩ = some (.int .i64 f.val)

section
variable {w w' : World} {n m : Nat} {A : Option Addr}
theorem IsInts.below {xs : List Int} (h : IsInts w n A xs) (hb : Below n w w') : IsInts w' n A xs := fun k x hk => by
  obtain ⟨a, e, hl, hc⟩ := h k x hk
  exact ⟨a, e, hl, (hb.cell (by rw [block_of_add]; exact hl)).trans hc⟩
theorem IsInts.more {xs : List Int} (h : IsInts w n A xs) (hm : n ≤ m) : IsInts w m A xs := fun k x hk => by
  obtain ⟨a, e, hl, hc⟩ := h k x hk
  exact ⟨a, e, by omega, hc⟩
theorem IsRows.below {xss : List (List Int)} (h : IsRows w n A xss) (hb : Below n w w') : IsRows w' n A xss := fun k x hk => by
  obtain ⟨a, A', c, e, hl, hc, h1, h2, h3⟩ := h k x hk
  exact ⟨a, A', c, e, hl, (hb.cell (by rw [block_of_add]; exact hl)).trans hc, h1, h2, h3.below hb⟩
theorem IsRows.more {xss : List (List Int)} (h : IsRows w n A xss) (hm : n ≤ m) : IsRows w m A xss := fun k x hk => by
  obtain ⟨a, A', c, e, hl, hc, h1, h2, h3⟩ := h k x hk
  exact ⟨a, A', c, e, by omega, hc, h1, h2, h3.more hm⟩
theorem IsFixes.below {fs : List Fx} (h : IsFixes w n A fs) (hb : Below n w w') : IsFixes w' n A fs := fun k x hk => by
  obtain ⟨a, e, hl, h0, h1, h2⟩ := h k x hk
  exact ⟨a, e, hl, (hb.cell (by rw [block_of_add]; exact hl)).trans h0, (hb.cell (by show (a.add _).block < n; rw [block_of_add]; exact hl)).trans h1, (hb.cell (by show (a.add _).block < n; rw [block_of_add]; exact hl)).trans h2⟩
theorem IsFixes.more {fs : List Fx} (h : IsFixes w n A fs) (hm : n ≤ m) : IsFixes w m A fs := fun k x hk => by
  obtain ⟨a, e, hl, h0⟩ := h k x hk
  exact ⟨a, e, by omega, h0⟩
end

theorem IsInts.at_ {w w' : World} {A : Option Addr} {xs : List Int} (h : IsInts w w.heap.size A xs) (hb : Below w.heap.size w w') : IsInts w' w'.heap.size A xs := (h.below hb).more hb.size
theorem IsRows.at_ {w w' : World} {A : Option Addr} {xss : List (List Int)} (h : IsRows w w.heap.size A xss) (hb : Below w.heap.size w w') : IsRows w' w'.heap.size A xss := (h.below hb).more hb.size
theorem IsFixes.at_ {w w' : World} {A : Option Addr} {fs : List Fx} (h : IsFixes w w.heap.size A fs) (hb : Below w.heap.size w w') : IsFixes w' w'.heap.size A fs := (h.below hb).more hb.size

/-- old cells and marks read as before: two rules for the walk -/
theorem bcell {W w1 : World} (hb : Below W.heap.size W w1) : (∀ b o, b < W.heap.size → w1.cell? ⟨b, o, none⟩ = W.cell? ⟨b, o, none⟩) ∧ (∀ b o, b < W.heap.size → w1.frozen? ⟨b, o, none⟩ = W.frozen? ⟨b, o, none⟩) :=
  ⟨fun b o h => hb.cell (p := ⟨b, o, none⟩) h, fun b o h => hb.frozen (p := ⟨b, o, none⟩) h⟩

theorem ex_of {α : Type} {p q : α → Prop} (h : ∃ x, p x) (f : ∀ x, p x → q x) : ∃ x, q x := by
  obtain ⟨x, hx⟩ := h
  exact ⟨x, f x hx⟩
theorem or_of {p q r s : Prop} (h : p ∨ q) (f : p → r) (g : q → s) : r ∨ s := by
  rcases h with h | h
  · exact .inl (f h)
  · exact .inr (g h)
theorem ret_int {k : IntKind} {a b : Int} (h : a = b) : Ending.returned (.int k a) = .returned (.int k b) := by rw [h]

/-- w after some draws, with some blocks laid behind it -/
structure Xt where
  os : Array Obj
  d : Nat
theorem Calls.same_below {P : Program} {f : FuncId} {args : Array Value} {w : World} {v : Value}
    (h : Calls P f args w fun e w' => e = .returned v ∧ w = w') : Calls P f args w fun e w' => e = .returned v ∧ Below w.heap.size w w' :=
  h.mono fun _ _ ⟨he, hw⟩ => ⟨he, by rw [← hw]; exact Below.refl _ _⟩
instance : Inhabited Xt := ⟨⟨#[], 0⟩⟩
def xt (w : World) (x : Xt) : World := { w with heap := w.heap ++ x.os, drawn := x.d }
theorem below_xt (w : World) (x : Xt) : Below w.heap.size w (xt w x) :=
  ⟨rfl, rfl, rfl, by simp [xt], fun k hk => by simp [xt, Array.getElem?_append, hk]⟩
theorem xt_of_below {w w' : World} (h : Below w.heap.size w w') : ∃ x : Xt, w' = xt w x := by
  obtain ⟨heap', tape', drawn', os', out'⟩ := w'
  obtain ⟨h1, h2, h3, h4, h5⟩ := h
  simp only at h1 h2 h3 h4 h5
  refine ⟨⟨heap'.extract w.heap.size heap'.size, drawn'⟩, ?_⟩
  unfold xt
  subst h1 h2 h3
  congr 1
  apply Array.ext_getElem?
  intro i
  by_cases hi : i < w.heap.size
  · rw [Array.getElem?_append_left hi, h5 i hi]
  · rw [Array.getElem?_append_right (by omega), Array.getElem?_extract]
    by_cases hj : i < heap'.size
    · rw [if_pos (by omega)]; congr 1; omega
    · rw [if_neg (by omega), Array.getElem?_eq_none (by omega)]
theorem xt_of_xt {w w' : World} {x : Xt} (h : Below (xt w x).heap.size (xt w x) w') : ∃ y : Xt, w' = xt w y :=
  xt_of_below ((below_xt w x).trans (h.mono (below_xt w x).size))
theorem cell_xt {w : World} {b o : Nat} {v : Value} (h : w.cell? ⟨b, o, none⟩ = some v) (x : Xt) : (xt w x).cell? ⟨b, o, none⟩ = some v :=
  ((below_xt w x).cell (World.block_lt_of_cell? w ⟨b, o, none⟩ h)).trans h
theorem cell_xt_at {w : World} {a : Addr} {v : Value} (h : w.cell? a = some v) (x : Xt) : (xt w x).cell? a = some v :=
  ((below_xt w x).cell (World.block_lt_of_cell? w a h)).trans h

/-- a statement whose order is open, all of whose operations read, and whose calls only lay new blocks -/
theorem wp_region_quiet_xt {P : Program} {id : Nat} {Q : Exit → Act → World → Prop} {a : Act} {w : World} {l : List Oper} (hm : P.follows .mixedOrders = true) (hB : Region.lexB .any l.toArray = true)
    (h : wpQuiet P l.toArray (fun w' => ∃ x : Xt, w' = xt w x) (fun a' => ∀ w', (∃ x : Xt, w' = xt w x) → Q .normal a' w') l a) : (Code.region id l.toArray true).wp P Q a w :=
  wp_region_quiet (C := fun w' => ∃ x : Xt, w' = xt w x) hm hB ⟨⟨#[], w.drawn + 1⟩, by simp [xt]⟩ (by simpa using h)
theorem of_xt {w w' : World} (h : ∃ x : Xt, w' = xt w x) : Below w.heap.size w w' := by
  obtain ⟨x, rfl⟩ := h
  exact below_xt w x
theorem Calls.xt {P : Program} {f : FuncId} {args : Array Value} {w : World} {x : Xt} {v : Value}
    (h : Calls P f args (xt w x) fun e w' => e = .returned v ∧ Below (xt w x).heap.size (xt w x) w') : Calls P f args (xt w x) fun e w'' => e = .returned v ∧ ∃ y : Xt, w'' = xt w y :=
  h.mono fun _ _ ⟨he, hb⟩ => ⟨he, xt_of_xt hb⟩

/-- block g is just the cells cs of element type t -/
def Blk (w : World) (g : Nat) (t : TypeId) (cs : Array Value) : Prop := w.heap[g]? = some (.cells cs t (0, 0))
section
variable {w w' : World} {g : Nat} {t : TypeId} {cs : Array Value}
theorem Blk.lt (h : Blk w g t cs) : g < w.heap.size := by
  rcases Nat.lt_or_ge g w.heap.size with hlt | hge
  · exact hlt
  · unfold Blk at h; rw [Array.getElem?_eq_none hge] at h; cases h
theorem Blk.cell (h : Blk w g t cs) (i : Nat) : w.cell? ⟨g, i, none⟩ = cs[i]? := cell_of_row w g i cs t (0, 0) h
theorem Blk.frozen (h : Blk w g t cs) (i : Nat) : w.frozen? ⟨g, i, none⟩ = false := by
  unfold Blk at h
  simp [World.frozen?, h]
theorem Blk.new (w : World) (t : TypeId) (cs : Array Value) : Blk (w.alloc (.cells cs t)) w.heap.size t cs := heap_alloc_new w _
theorem Blk.drew (h : Blk w g t cs) : Blk w.drew g t cs := h
theorem Blk.alloc (h : Blk w g t cs) (o : Obj) : Blk (w.alloc o) g t cs := (Below.heap_alloc w o g h.lt).trans h
theorem Blk.set_ (h : Blk w g t cs) (i : Nat) (u : Value) : Blk (w.setCell ⟨g, i, none⟩ u) g t (cs.setIfInBounds i u) := by
  unfold Blk at h ⊢
  simp [World.setCell, Array.getElem?_modify, h]
theorem Blk.far (h : Blk w g t cs) {p : Addr} (hp : g ≠ p.block) (u : Value) : Blk (w.setCell p u) g t cs := (Below.heap_setCell w p u g hp).trans h
theorem Blk.below {B : Nat} (h : Blk w g t cs) (hb : Below B w w') (hg : g < B) : Blk w' g t cs := (hb.block g hg).trans h
theorem Blk.keep (h : Blk w g t cs) (hb : Below w.heap.size w w') : Blk w' g t cs := (hb.block g h.lt).trans h
theorem Blk.ne_ {g' : Nat} {t' : TypeId} {cs' : Array Value} (h : Blk w g t cs) (h' : Blk w g' t' cs') (hne : t ≠ t') : g ≠ g' := by
  rintro rfl
  unfold Blk at h h'
  rw [h] at h'
  injection h' with h'
  injection h' with _ ht
  exact hne ht
theorem Blk.c1 {x : Value} (h : Blk w g t #[x]) : w.cell? ⟨g, 0, none⟩ = some x := by rw [h.cell]; rfl
theorem Blk.c2 {x y : Value} (h : Blk w g t #[x, y]) : w.cell? ⟨g, 0, none⟩ = some x ∧ w.cell? ⟨g, 1, none⟩ = some y := ⟨by rw [h.cell]; rfl, by rw [h.cell]; rfl⟩
theorem Blk.c3 {x y z : Value} (h : Blk w g t #[x, y, z]) : w.cell? ⟨g, 0, none⟩ = some x ∧ w.cell? ⟨g, 1, none⟩ = some y ∧ w.cell? ⟨g, 2, none⟩ = some z := ⟨by rw [h.cell]; rfl, by rw [h.cell]; rfl, by rw [h.cell]; rfl⟩
theorem Blk.c4 {x y z u : Value} (h : Blk w g t #[x, y, z, u]) : w.cell? ⟨g, 0, none⟩ = some x ∧ w.cell? ⟨g, 1, none⟩ = some y ∧ w.cell? ⟨g, 2, none⟩ = some z ∧ w.cell? ⟨g, 3, none⟩ = some u := ⟨by rw [h.cell]; rfl, by rw [h.cell]; rfl, by rw [h.cell]; rfl, by rw [h.cell]; rfl⟩
theorem Blk.c5 {x y z u v : Value} (h : Blk w g t #[x, y, z, u, v]) : w.cell? ⟨g, 0, none⟩ = some x ∧ w.cell? ⟨g, 1, none⟩ = some y ∧ w.cell? ⟨g, 2, none⟩ = some z ∧ w.cell? ⟨g, 3, none⟩ = some u ∧ w.cell? ⟨g, 4, none⟩ = some v := ⟨by rw [h.cell]; rfl, by rw [h.cell]; rfl, by rw [h.cell]; rfl, by rw [h.cell]; rfl, by rw [h.cell]; rfl⟩
end
theorem xt_c1 {w : World} {g : Nat} {t : TypeId} {x : Value} (h : Blk w g t #[x]) : ∀ q, (xt w q).cell? ⟨g, 0, none⟩ = some x := fun q => (h.keep (below_xt w q)).c1
theorem xt_c3 {w : World} {g : Nat} {t : TypeId} {x y z : Value} (h : Blk w g t #[x, y, z]) : (∀ q, (xt w q).cell? ⟨g, 0, none⟩ = some x) ∧ (∀ q, (xt w q).cell? ⟨g, 1, none⟩ = some y) ∧ (∀ q, (xt w q).cell? ⟨g, 2, none⟩ = some z) :=
  ⟨fun q => (h.keep (below_xt w q)).c3.1, fun q => (h.keep (below_xt w q)).c3.2.1, fun q => (h.keep (below_xt w q)).c3.2.2⟩
theorem xt_c4 {w : World} {g : Nat} {t : TypeId} {x y z u : Value} (h : Blk w g t #[x, y, z, u]) : (∀ q, (xt w q).cell? ⟨g, 0, none⟩ = some x) ∧ (∀ q, (xt w q).cell? ⟨g, 1, none⟩ = some y) ∧ (∀ q, (xt w q).cell? ⟨g, 2, none⟩ = some z) ∧ (∀ q, (xt w q).cell? ⟨g, 3, none⟩ = some u) :=
  ⟨fun q => (h.keep (below_xt w q)).c4.1, fun q => (h.keep (below_xt w q)).c4.2.1, fun q => (h.keep (below_xt w q)).c4.2.2.1, fun q => (h.keep (below_xt w q)).c4.2.2.2⟩
theorem xt_c5 {w : World} {g : Nat} {t : TypeId} {x y z u v : Value} (h : Blk w g t #[x, y, z, u, v]) : (∀ q, (xt w q).cell? ⟨g, 0, none⟩ = some x) ∧ (∀ q, (xt w q).cell? ⟨g, 1, none⟩ = some y) ∧ (∀ q, (xt w q).cell? ⟨g, 2, none⟩ = some z) ∧ (∀ q, (xt w q).cell? ⟨g, 3, none⟩ = some u) ∧ (∀ q, (xt w q).cell? ⟨g, 4, none⟩ = some v) :=
  ⟨fun q => (h.keep (below_xt w q)).c5.1, fun q => (h.keep (below_xt w q)).c5.2.1, fun q => (h.keep (below_xt w q)).c5.2.2.1, fun q => (h.keep (below_xt w q)).c5.2.2.2.1, fun q => (h.keep (below_xt w q)).c5.2.2.2.2⟩
theorem xt_cell {w : World} {a : Addr} {v : Value} (h : w.cell? a = some v) : ∀ q, (xt w q).cell? a = some v := cell_xt_at h
theorem xt_size {w : World} : ∀ q, w.heap.size ≤ (xt w q).heap.size := fun q => (below_xt w q).size
/-- a world under a name of its own, with what is known of it -/
theorem gen {p : World → Prop} {w : World} (F : World → Prop) (hF : F w) (h : ∀ W, F W → p W) : p w := h w hF
theorem hid {p : Prop} (h : p) : Hid p := h
def colsOf (cs : List (List Int)) : Nat := match cs with | [] => 0 | x :: _ => x.length
end Go.Proofs.Ytoeabajigfdkaaa
/- The small functions of the package: what each returns, for every argument; none changes memory that was there. -/
namespace Go.Proofs.Ytoeabajigfdkaaa
open Go.RowKit

def withinB (n lo hi : Int) : Bool := decide (lo ≤ n ∧ n ≤ hi)

set_option maxHeartbeats 400000 in
theorem within_any (n lo hi : Int) (w : World) : Calls Try.prog 76 #[.int .i64 n, .int .i64 lo, .int .i64 hi] w fun e w' => e = .returned (.bool (withinB n lo hi)) ∧ w = w' := by
  by_cases h1 : lo ≤ n
  · have hd : withinB n lo hi = decide (n ≤ hi) := by simp [withinB, h1]
    rw [hd]; clear hd
    go_enter Try.func76, Try.ntmps76
    go_wp2
    go_ret
    exact ⟨rfl, rfl⟩
  · have hd : withinB n lo hi = false := by simp [withinB, h1]
    rw [hd]; clear hd
    go_enter Try.func76, Try.ntmps76
    go_wp2
    go_ret
    exact ⟨rfl, rfl⟩

theorem isCell_any (n : Int) (w : World) : Calls Try.prog 75 #[.int .i64 n] w fun e w' => e = .returned (.bool (withinB n 0 10000)) ∧ w = w' := by
  go_enter Try.func75, Try.ntmps75
  go_wp2_with (go_at_call 76; refine (within_any _ _ _ _).mono ?_; rintro e w' ⟨rfl, rfl⟩)
  go_ret
  exact ⟨rfl, rfl⟩
def lowOf (b n : Int) : Int := n - n % b
def highOf (b n : Int) : Int := lowOf b (n + b - 1)

end Go.Proofs.Ytoeabajigfdkaaa
/- Sums and neighbours: what the package's helpers return. -/
namespace Go.Proofs.Ytoeabajigfdkaaa
open Go.RowKit

theorem take_succ_sum (xs : List Int) (k : Nat) (h : k < xs.length) : (xs.take (k + 1)).sum = (xs.take k).sum + xs[k] := by
  rw [List.take_succ_eq_append_getElem h, List.sum_append]; simp
theorem sum_take_bounds (M : Int) (hM : 0 ≤ M) (xs : List Int) (hx : ∀ x ∈ xs, 0 ≤ x ∧ x ≤ M) (k : Nat) : 0 ≤ (xs.take k).sum ∧ (xs.take k).sum ≤ k * M := by
  induction k with
  | zero => simp
  | succ k ih =>
    by_cases h : k < xs.length
    · rw [take_succ_sum xs k h]
      have := hx xs[k] (List.getElem_mem h)
      rw [Int.natCast_add, Int.add_mul]
      omega
    · have e1 : xs.take (k + 1) = xs := List.take_of_length_le (by omega)
      have e2 : xs.take k = xs := List.take_of_length_le (by omega)
      rw [e1, Int.natCast_add, Int.add_mul]
      rw [e2] at ih
      omega

set_option maxHeartbeats 400000 in
theorem total_any (A : Option Addr) (c : Nat) (xs : List Int) (w : World) (h : IsInts w w.heap.size A xs) (hl : xs.length ≤ 1000) (hx : ∀ x ∈ xs, 0 ≤ x ∧ x ≤ 1000000) :
    Calls Try.prog 77 #[.slice A xs.length c] w fun e w' => e = .returned (.int .i64 xs.sum) ∧ w = w' := by
  go_enter Try.func77, Try.ntmps77
  go_wp2
  go_loop [2, 7] (fun t i => ∃ k : Nat, k ≤ xs.length ∧ i = .int .i64 k ∧ t = .int .i64 (xs.take k).sum) (fun _ i => xs.length - (intOf i).toNat)
  case atStart => exact ⟨0, Nat.zero_le _, rfl, rfl⟩
  case round =>
    obtain ⟨k, hk, rfl, rfl⟩ := hrel
    by_cases hlt : k < xs.length
    · obtain ⟨a, rfl, hb, hc⟩ := h k xs[k] (List.getElem?_eq_getElem hlt)
      have hs := take_succ_sum xs k hlt
      obtain ⟨hb1, hb2⟩ := sum_take_bounds 1000000 (by omega) xs hx k
      obtain ⟨hb3, hb4⟩ := hx xs[k] (List.getElem_mem hlt)
      have HS := hid hs
      clear hs h hx
      go_wp2
      go_round
      case rel => exact ⟨k + 1, by omega, by go_num, by rw [HS.out]⟩
      case measure => simp [intOf]; omega
    · go_wp2
      go_ret
      exact ⟨ret_int (by rw [List.take_of_length_le (by omega)]), rfl⟩

def nearB (b n o : Int) : Bool := lowOf b o == n || highOf b o == n

end Go.Proofs.Ytoeabajigfdkaaa
/- Sums of columns: adding a row to the sums, for every row of at most four numbers. -/
namespace Go.Proofs.Ytoeabajigfdkaaa
open Go.RowKit

/-- the sums of four columns -/
structure S4 where
  a : Int
  b : Int
  c : Int
  d : Int
def plusS (s : S4) (xs : List Int) : S4 := ⟨s.a + xs.getD 0 0, s.b + xs.getD 1 0, s.c + xs.getD 2 0, s.d + xs.getD 3 0⟩
/-- what a column has got when k numbers are added -/
def got (xs : List Int) (k i : Nat) : Int := if i < k then xs.getD i 0 else 0
theorem got_zero (xs : List Int) (i : Nat) : got xs 0 i = 0 := by simp [got]
theorem got_all (xs : List Int) (i : Nat) : got xs xs.length i = xs.getD i 0 := by
  unfold got
  by_cases h : i < xs.length
  · rw [if_pos h]
  · rw [if_neg h]; simp [List.getD, List.getElem?_eq_none (show xs.length ≤ i by omega)]
theorem got_same (xs : List Int) (k i : Nat) (h : i ≠ k) : got xs (k + 1) i = got xs k i := by
  unfold got
  by_cases h1 : i < k
  · rw [if_pos h1, if_pos (by omega)]
  · rw [if_neg h1, if_neg (by omega)]
theorem got_new (xs : List Int) (k : Nat) : got xs (k + 1) k = xs.getD k 0 ∧ got xs k k = 0 := by simp [got]

def Small (M : Int) (s : S4) : Prop := (0 ≤ s.a ∧ s.a ≤ M) ∧ (0 ≤ s.b ∧ s.b ≤ M) ∧ (0 ≤ s.c ∧ s.c ≤ M) ∧ (0 ≤ s.d ∧ s.d ≤ M)
theorem getD_small {M : Int} (hM : 0 ≤ M) {xs : List Int} (hx : ∀ x ∈ xs, 0 ≤ x ∧ x ≤ M) (i : Nat) : 0 ≤ xs.getD i 0 ∧ xs.getD i 0 ≤ M := by
  by_cases h : i < xs.length
  · have := hx xs[i] (List.getElem_mem h)
    simpa [List.getD, List.getElem?_eq_getElem h] using this
  · simp [List.getD, List.getElem?_eq_none (show xs.length ≤ i by omega), hM]
theorem got_small {M : Int} (hM : 0 ≤ M) {xs : List Int} (hx : ∀ x ∈ xs, 0 ≤ x ∧ x ≤ M) (k i : Nat) : 0 ≤ got xs k i ∧ got xs k i ≤ M := by
  unfold got
  split
  · exact getD_small hM hx i
  · omega

def comp (s : S4) : Nat → Int
  | 0 => s.a
  | 1 => s.b
  | 2 => s.c
  | _ => s.d
def cellsK (s : S4) (xs : List Int) (k : Nat) : Array Value := #[.int .i64 (s.a + got xs k 0), .int .i64 (s.b + got xs k 1), .int .i64 (s.c + got xs k 2), .int .i64 (s.d + got xs k 3)]
theorem cellsK_get (s : S4) (xs : List Int) (k : Nat) (h : k < 4) : (cellsK s xs k)[k]? = some (.int .i64 (comp s k)) := by
  have hk4 : k = 0 ∨ k = 1 ∨ k = 2 ∨ k = 3 := by omega
  rcases hk4 with rfl | rfl | rfl | rfl <;> simp [cellsK, comp, got]
theorem cellsK_set (s : S4) (xs : List Int) (k : Nat) (h : k < 4) (hl : k < xs.length) : (cellsK s xs k).setIfInBounds k (.int .i64 (comp s k + xs[k])) = cellsK s xs (k + 1) := by
  have hg : xs[k] = xs.getD k 0 := by simp [List.getD, List.getElem?_eq_getElem hl]
  rw [hg]
  have hk4 : k = 0 ∨ k = 1 ∨ k = 2 ∨ k = 3 := by omega
  rcases hk4 with rfl | rfl | rfl | rfl <;> simp [cellsK, comp, got]
theorem comp_small {M : Int} {s : S4} (hs : Small M s) (k : Nat) : 0 ≤ comp s k ∧ comp s k ≤ M := by
  obtain ⟨h1, h2, h3, h4⟩ := hs
  match k with
  | 0 => exact h1
  | 1 => exact h2
  | 2 => exact h3
  | _ + 3 => exact h4

theorem Small.mono {M N : Int} {s : S4} (h : Small M s) (hMN : M ≤ N) : Small N s := by
  obtain ⟨⟨a1, a2⟩, ⟨a3, a4⟩, ⟨a5, a6⟩, ⟨a7, a8⟩⟩ := h
  exact ⟨⟨a1, by omega⟩, ⟨a3, by omega⟩, ⟨a5, by omega⟩, ⟨a7, by omega⟩⟩

/-- the sums of all rows -/
def addedS (rows : List (List Int)) : S4 := rows.foldl plusS ⟨0, 0, 0, 0⟩
theorem added_succ (rows : List (List Int)) (k : Nat) (h : k < rows.length) : addedS (rows.take (k + 1)) = plusS (addedS (rows.take k)) rows[k] := by
  unfold addedS
  rw [List.take_succ_eq_append_getElem h, List.foldl_append]; rfl
theorem added_small (rows : List (List Int)) (hx : ∀ r ∈ rows, ∀ x ∈ r, 0 ≤ x ∧ x ≤ 10100) (k : Nat) (hk : k ≤ rows.length) : Small (k * 10100) (addedS (rows.take k)) := by
  induction k with
  | zero => exact ⟨⟨Int.le_refl _, by simp [addedS]⟩, ⟨Int.le_refl _, by simp [addedS]⟩, ⟨Int.le_refl _, by simp [addedS]⟩, ⟨Int.le_refl _, by simp [addedS]⟩⟩
  | succ k ih =>
    obtain ⟨⟨a1, a2⟩, ⟨a3, a4⟩, ⟨a5, a6⟩, ⟨a7, a8⟩⟩ := ih (by omega)
    rw [added_succ rows k (by omega)]
    have hr := hx rows[k] (List.getElem_mem _)
    obtain ⟨b1, b2⟩ := getD_small (by omega) hr 0
    obtain ⟨b3, b4⟩ := getD_small (by omega) hr 1
    obtain ⟨b5, b6⟩ := getD_small (by omega) hr 2
    obtain ⟨b7, b8⟩ := getD_small (by omega) hr 3
    refine ⟨⟨?_, ?_⟩, ⟨?_, ?_⟩, ⟨?_, ?_⟩, ⟨?_, ?_⟩⟩ <;> simp only [plusS] <;> omega

end Go.Proofs.Ytoeabajigfdkaaa
/- closes: whether sums of columns, and their total, are neighbours of those of a table: for every valid table. -/
namespace Go.Proofs.Ytoeabajigfdkaaa
open Go.RowKit

/-- what the proofs below ask of a table: it is one that CheckTable lets by, but for its fixes -/
structure Okc (b : Int) (cs : List (List Int)) : Prop where
  b1 : 2 ≤ b
  b2 : b ≤ 100
  n1 : 1 ≤ cs.length
  n2 : cs.length ≤ 5
  c1 : 1 ≤ colsOf cs
  c2 : colsOf cs ≤ 4
  row : ∀ r ∈ cs, r.length = colsOf cs
  cell : ∀ r ∈ cs, ∀ x ∈ r, 0 ≤ x ∧ x ≤ 10000

def sumS (s : S4) : Int := [s.a, s.b, s.c, s.d].sum
theorem sumS_small {M : Int} {s : S4} (h : Small M s) : (0 ≤ sumS s ∧ sumS s ≤ 4 * M) ∧ ∀ x ∈ [s.a, s.b, s.c, s.d], 0 ≤ x ∧ x ≤ M := by
  obtain ⟨⟨a1, a2⟩, ⟨a3, a4⟩, ⟨a5, a6⟩, ⟨a7, a8⟩⟩ := h
  refine ⟨⟨by simp [sumS]; omega, by simp [sumS]; omega⟩, fun x hx => ?_⟩
  simp at hx
  rcases hx with rfl | rfl | rfl | rfl <;> omega
def closesTo (b : Int) (cs : List (List Int)) (s : S4) (k : Nat) : Bool := (List.range k).all fun c => nearB b (comp s c) (comp (addedS cs) c)
def closesB (b : Int) (cs : List (List Int)) (s : S4) : Bool := closesTo b cs s (colsOf cs) && nearB b (sumS s) (sumS (addedS cs))
theorem closesTo_succ (b : Int) (cs : List (List Int)) (s : S4) (k : Nat) : closesTo b cs s (k + 1) = (closesTo b cs s k && nearB b (comp s k) (comp (addedS cs) k)) := by
  simp [closesTo, List.range_succ]
theorem closesTo_false {b : Int} {cs : List (List Int)} {s : S4} {k m : Nat} (h : k < m) (hk : nearB b (comp s k) (comp (addedS cs) k) = false) : closesTo b cs s m = false := by
  unfold closesTo
  rw [List.all_eq_false]
  exact ⟨k, List.mem_range.2 h, by simp [hk]⟩

theorem s4_cell {w : World} {g : Nat} {t : TypeId} {s : S4} (h : Blk w g t #[.int .i64 s.a, .int .i64 s.b, .int .i64 s.c, .int .i64 s.d]) (k : Nat) (hk : k < 4) : w.cell? ⟨g, k, none⟩ = some (.int .i64 (comp s k)) := by
  rw [h.cell]
  have hk4 : k = 0 ∨ k = 1 ∨ k = 2 ∨ k = 3 := by omega
  rcases hk4 with rfl | rfl | rfl | rfl <;> rfl
theorem s4_ints {w : World} {g n : Nat} {t : TypeId} {s : S4} (h : Blk w g t #[.int .i64 s.a, .int .i64 s.b, .int .i64 s.c, .int .i64 s.d]) (hg : g < n) : IsInts w n (some ⟨g, 0, none⟩) [s.a, s.b, s.c, s.d] := by
  intro k x hk
  refine ⟨_, rfl, hg, ?_⟩
  have hk4 : k < 4 := by
    rcases Nat.lt_or_ge k 4 with h | h
    · exact h
    · rw [List.getElem?_eq_none (by simpa using h)] at hk; cases hk
  have hx : x = comp s k := by
    have hk5 : k = 0 ∨ k = 1 ∨ k = 2 ∨ k = 3 := by omega
    rcases hk5 with rfl | rfl | rfl | rfl <;> simp at hk <;> exact hk.symm
  have ha : (⟨g, 0, none⟩ : Addr).add k = ⟨g, k, none⟩ := by unfold Addr.add; split <;> simp_all
  rw [ha, hx]
  exact s4_cell h k hk4

end Go.Proofs.Ytoeabajigfdkaaa
/- holds: whether all fixes of a row do. -/
namespace Go.Proofs.Ytoeabajigfdkaaa
open Go.RowKit

def fixB (row : Int) (xs : List Int) (f : Fx) : Bool := f.row == row && xs.getD f.col.toNat 0 != f.val
def holdsB (fs : List Fx) (row : Int) (xs : List Int) : Bool := fs.all fun f => !fixB row xs f

theorem holdsB_take (fs : List Fx) (row : Int) (xs : List Int) (k : Nat) (h : k < fs.length) : holdsB (fs.take (k + 1)) row xs = (holdsB (fs.take k) row xs && !fixB row xs fs[k]) := by
  unfold holdsB
  rw [List.take_succ_eq_append_getElem h, List.all_append]; simp
theorem holdsB_false {fs : List Fx} {row : Int} {xs : List Int} {k : Nat} (h : k < fs.length) (hf : fixB row xs fs[k] = true) : holdsB fs row xs = false := by
  unfold holdsB
  rw [List.all_eq_false]
  exact ⟨fs[k], List.getElem_mem h, by simp [hf]⟩

end Go.Proofs.Ytoeabajigfdkaaa
/- all: whether each element of a list passes a test, for the package's three element types. -/
namespace Go.Proofs.Ytoeabajigfdkaaa
open Go.RowKit Go.Shelf

def idxOf {α : Type} (q : α → Bool) (xs : List α) : Int := if xs.any q then (xs.findIdx q : Int) else -1
theorem idxOf_hit {α : Type} {q : α → Bool} {xs : List α} {k : Nat} (hk : k < xs.length) (h0 : (xs.take k).any q = false) (h1 : q xs[k] = true) : idxOf q xs = k := by
  have hany : xs.any q = true := List.any_eq_true.2 ⟨xs[k], List.getElem_mem hk, h1⟩
  unfold idxOf
  rw [if_pos hany]
  congr 1
  rw [List.findIdx_eq hk]
  refine ⟨h1, fun j hj => ?_⟩
  rw [List.any_eq_false] at h0
  have hm : xs[j] ∈ xs.take k := by
    rw [List.mem_take_iff_getElem]
    exact ⟨j, by omega, rfl⟩
  simpa using h0 _ hm
theorem idxOf_miss {α : Type} {q : α → Bool} {xs : List α} (h0 : xs.any q = false) : idxOf q xs = -1 := by
  unfold idxOf; rw [if_neg (by simp [h0])]
theorem any_take {α : Type} (q : α → Bool) (xs : List α) (k : Nat) (hk : k < xs.length) : (xs.take (k + 1)).any q = ((xs.take k).any q || q xs[k]) := by
  rw [List.take_succ_eq_append_getElem hk, List.any_append]; simp
theorem idxOf_nonneg {α : Type} (q : α → Bool) (xs : List α) : decide (0 ≤ idxOf q xs) = xs.any q := by
  unfold idxOf
  cases h : xs.any q <;> simp

/-- a test of numbers: what it says, in each world that has only grown -/
def PredI (g : Nat) (bnd cap : Array Value) (p : Int → Bool) (xs : List Int) (w : World) : Prop :=
  ∀ W x, Below w.heap.size w W → x ∈ xs → Calls Try.prog g (bnd.push (.int .i64 x) ++ cap) W fun e W' => e = .returned (.bool (p x)) ∧ Below W.heap.size W W'

set_option maxRecDepth 10000 in
set_option maxHeartbeats 400000 in
theorem all_int1 (g : Nat) (bnd cap : Array Value) (B : Nat) (t : Bool) (x : Int) (W : World) (eg : ∀ args w, (callFunc g args).run Try.prog w = .ok (.enter g args) w) (hB : Blk W B 94 #[.func (.func g) bnd cap])
    (hp : Calls Try.prog g (bnd.push (.int .i64 x) ++ cap) W fun e W' => e = .returned (.bool t) ∧ Below W.heap.size W W') :
    Calls Try.prog 100 #[.int .i64 x, .pointer (some ⟨B, 0, none⟩)] W fun e W' => e = .returned (.bool (!t)) ∧ Below W.heap.size W W' := by
  have c0 := hB.c1
  have HP := hid hp
  clear hp hB
  go_enter Try.func100, Try.ntmps100
  go_wp2_with fail
  refine HP.out.mono ?_
  rintro e w2 ⟨rfl, hb2⟩
  go_wp2
  go_ret
  exact ⟨rfl, hb2⟩

set_option maxRecDepth 10000 in
set_option maxHeartbeats 400000 in
theorem idx_int (f : Value) (q : Int → Bool) (A : Option Addr) (c : Nat) (xs : List Int) (w : World) (h : IsInts w w.heap.size A xs) (hl : xs.length ≤ c) (hm : c ≤ maxLen)
    (g : Nat) (bnd cap : Array Value) (hf : f = .func (.func g) bnd cap) (eg : ∀ args w, (callFunc g args).run Try.prog w = .ok (.enter g args) w) (hp : PredI g bnd cap q xs w) :
    Calls Try.prog 105 #[.slice A xs.length c, f] w fun e w' => e = .returned (.int .i64 (idxOf q xs)) ∧ Below w.heap.size w w' := by
  subst hf
  unfold maxLen at hm
  have HP := hid hp
  clear hp
  go_enter Try.func105, Try.ntmps105
  go_wp2
  go_loopw [8] (fun i wr => ∃ k : Nat, k ≤ xs.length ∧ i = .int .i64 k ∧ Below w.heap.size w wr ∧ (xs.take k).any q = false) (fun i _ => xs.length - (intOf i).toNat)
  case atStart => exact ⟨0, Nat.zero_le _, rfl, Below.refl _ _, rfl⟩
  case round =>
    obtain ⟨k, hk, rfl, hbr, hno⟩ := hrel
    have HN := hid hno; clear hno
    by_cases hlt : k < xs.length
    · obtain ⟨a, rfl, hb, hc⟩ := h.below hbr k xs[k] (List.getElem?_eq_getElem hlt)
      have HC := hid (HP.out wr xs[k] hbr (List.getElem_mem hlt))
      have HH := hid (@idxOf_hit Int q xs k hlt)
      have HT := hid (any_take q xs k hlt)
      generalize xs[k] = x at *
      cases hq : q x
      all_goals
        have HQ := hid hq
        clear hq
        go_wp2_with fail
        refine HC.out.mono ?_
        rintro e w2 ⟨rfl, hb2⟩
        rw [HQ.out]
        go_wp2
      · go_roundw
        case rel => exact ⟨k + 1, by omega, by go_num, hbr.trans (hb2.mono hbr.size), by rw [HT.out, HN.out, HQ.out]; rfl⟩
        case measure => simp [intOf]; omega
      · go_ret
        exact ⟨by rw [HH.out HN.out HQ.out]; rfl, hbr.trans (hb2.mono hbr.size)⟩
    · obtain rfl : k = xs.length := by omega
      rw [List.take_length] at HN
      have HM := hid (idxOf_miss HN.out)
      go_wp2
      go_ret
      exact ⟨by rw [HM.out]; rfl, hbr⟩

set_option maxHeartbeats 400000 in
theorem has_int (q : Int → Bool) (A : Option Addr) (c : Nat) (xs : List Int) (w : World) (h : IsInts w w.heap.size A xs) (hl : xs.length ≤ c) (hm : c ≤ maxLen)
    (g : Nat) (bnd cap : Array Value) (eg : ∀ args w, (callFunc g args).run Try.prog w = .ok (.enter g args) w) (hp : PredI g bnd cap q xs w) :
    Calls Try.prog 92 #[.slice A xs.length c, .func (.func g) bnd cap] w fun e w' => e = .returned (.bool (xs.any q)) ∧ Below w.heap.size w w' := by
  have HI := hid (idx_int _ q A c xs w h hl hm g bnd cap rfl eg hp)
  have HN := hid (idxOf_nonneg q xs)
  clear hp h eg
  go_enter Try.func92, Try.ntmps92
  go_wp2_with fail
  refine HI.out.mono ?_
  rintro e w2 ⟨rfl, hb2⟩
  go_wp2
  go_ret
  exact ⟨by rw [← HN.out]; rfl, hb2⟩

set_option maxHeartbeats 400000 in
theorem all_int (p : Int → Bool) (A : Option Addr) (c : Nat) (xs : List Int) (w : World) (h : IsInts w w.heap.size A xs) (hl : xs.length ≤ c) (hm : c ≤ maxLen)
    (g : Nat) (bnd cap : Array Value) (eg : ∀ args w, (callFunc g args).run Try.prog w = .ok (.enter g args) w) (hp : PredI g bnd cap p xs w) :
    Calls Try.prog 74 #[.slice A xs.length c, .func (.func g) bnd cap] w fun e w' => e = .returned (.bool (xs.all p)) ∧ Below w.heap.size w w' := by
  have hB : Below w.heap.size w (w.alloc (.cells #[.func (.func g) bnd cap] 94)) := (Below.refl _ _).alloc (Nat.le_refl _) _
  have HI := hid (has_int (fun x => !p x) A c xs _ (h.at_ hB) hl hm 100 #[] #[.pointer (some ⟨w.heap.size, 0, none⟩)] (enters_of Try.func100 (by kernel_rfl) rfl)
    (fun W x hW hx => all_int1 g bnd cap w.heap.size (p x) x W eg ((Blk.new _ _ _).keep hW) (hp W x (hB.trans (hW.mono hB.size)) hx)))
  have HN : Hid ((!xs.any fun x => !p x) = xs.all p) := hid (by simp [List.all_eq_not_any_not])
  clear hp h eg
  go_enter Try.func74, Try.ntmps74
  go_wp2_with fail
  refine HI.out.mono ?_
  rintro e w2 ⟨rfl, hb2⟩
  go_wp2
  go_ret
  exact ⟨by rw [← HN.out]; rfl, hB.trans (hb2.mono hB.size)⟩
end Go.Proofs.Ytoeabajigfdkaaa
/- Sums over indices, in plain words. No condition. -/
namespace Go.Proofs.Ytoeabajigfdkaaa

/-- the sum of f 0 .. f (k - 1) -/
def sumN (f : Nat → Int) : Nat → Int
  | 0 => 0
  | k + 1 => sumN f k + f k
theorem sumN_zero (f : Nat → Int) : sumN f 0 = 0 := rfl
theorem sumN_succ (f : Nat → Int) (k : Nat) : sumN f (k + 1) = sumN f k + f k := rfl
theorem sumN_congr {f g : Nat → Int} : ∀ {k : Nat}, (∀ i, i < k → f i = g i) → sumN f k = sumN g k
  | 0, _ => rfl
  | k + 1, h => by rw [sumN_succ, sumN_succ, sumN_congr (k := k) fun i hi => h i (by omega), h k (by omega)]
theorem sumN_le {f g : Nat → Int} : ∀ {k : Nat}, (∀ i, i < k → f i ≤ g i) → sumN f k ≤ sumN g k
  | 0, _ => Int.le_refl _
  | k + 1, h => by
    have h1 := sumN_le (k := k) fun i hi => h i (by omega)
    have h2 := h k (by omega)
    rw [sumN_succ, sumN_succ]; omega
theorem sumN_add (f g : Nat → Int) : ∀ k, sumN (fun i => f i + g i) k = sumN f k + sumN g k
  | 0 => rfl
  | k + 1 => by rw [sumN_succ, sumN_succ, sumN_succ, sumN_add f g k]; omega
theorem sumN_sub (f g : Nat → Int) : ∀ k, sumN (fun i => f i - g i) k = sumN f k - sumN g k
  | 0 => rfl
  | k + 1 => by rw [sumN_succ, sumN_succ, sumN_succ, sumN_sub f g k]; omega
theorem sumN_const (c : Int) : ∀ k : Nat, sumN (fun _ => c) k = k * c
  | 0 => by simp [sumN]
  | k + 1 => by rw [sumN_succ, sumN_const c k, Int.natCast_add, Int.add_mul]; simp
theorem sumN_mul (f : Nat → Int) (c : Int) : ∀ k, sumN (fun i => f i * c) k = sumN f k * c
  | 0 => by simp [sumN]
  | k + 1 => by rw [sumN_succ, sumN_succ, sumN_mul f c k, Int.add_mul]
theorem sumN_null {f : Nat → Int} {k : Nat} (h : ∀ i, i < k → f i = 0) : sumN f k = 0 := by
  rw [sumN_congr h, sumN_const]; simp
theorem sumN_nonneg {f : Nat → Int} {k : Nat} (h : ∀ i, i < k → 0 ≤ f i) : 0 ≤ sumN f k := by
  have := sumN_le (f := fun _ => 0) (g := f) (k := k) h
  rw [sumN_const] at this; simpa using this
theorem sumN_bound {f : Nat → Int} {k : Nat} {M : Int} (h : ∀ i, i < k → f i ≤ M) : sumN f k ≤ k * M := by
  have := sumN_le (f := f) (g := fun _ => M) (k := k) h
  rwa [sumN_const] at this
theorem sumN_mono {f : Nat → Int} {j k : Nat} (hjk : j ≤ k) (h : ∀ i, i < k → 0 ≤ f i) : sumN f j ≤ sumN f k := by
  induction k with
  | zero => have : j = 0 := by omega
            subst this; exact Int.le_refl _
  | succ k ih =>
    by_cases e : j = k + 1
    · subst e; exact Int.le_refl _
    · have := ih (by omega) fun i hi => h i (by omega)
      have := h k (by omega)
      rw [sumN_succ]; omega
/-- one index alone counts -/
theorem sumN_one {f : Nat → Int} {j k : Nat} (hj : j < k) (h : ∀ i, i < k → i ≠ j → f i = 0) : sumN f k = f j := by
  induction k with
  | zero => omega
  | succ k ih =>
    rw [sumN_succ]
    by_cases e : j = k
    · subst e
      rw [sumN_null fun i hi => h i (by omega) (by omega)]; simp
    · rw [ih (by omega) (fun i hi hne => h i (by omega) hne), h k (by omega) (fun e' => e e'.symm)]; simp
/-- two orders of summing -/
theorem sumN_swap (f : Nat → Nat → Int) (a : Nat) : ∀ b, sumN (fun i => sumN (f i) b) a = sumN (fun j => sumN (fun i => f i j) a) b
  | 0 => by
    rw [sumN_zero]
    exact sumN_null fun _ _ => rfl
  | b + 1 => by
    rw [sumN_succ, ← sumN_swap f a b, ← sumN_add]
    exact sumN_congr fun i _ => rfl
/-- one value is changed -/
theorem sumN_set {f g : Nat → Int} {j k : Nat} (hj : j < k) (h : ∀ i, i < k → i ≠ j → f i = g i) : sumN f k = sumN g k + (f j - g j) := by
  have e : sumN (fun i => f i - g i) k = f j - g j := sumN_one hj fun i hi hne => by rw [h i hi hne]; omega
  rw [sumN_sub] at e
  omega
theorem sum_eq_sumN (xs : List Int) : xs.sum = sumN (fun i => xs.getD i 0) xs.length := by
  have key : ∀ k, k ≤ xs.length → (xs.take k).sum = sumN (fun i => xs.getD i 0) k := by
    intro k
    induction k with
    | zero => intro _; rfl
    | succ k ih =>
      intro hk
      have e : xs.getD k 0 = xs[k] := by rw [List.getD, List.getElem?_eq_getElem (by omega)]; rfl
      rw [List.take_succ_eq_append_getElem (by omega), List.sum_append, ih (by omega), sumN_succ, e]
      simp
  have := key xs.length (Nat.le_refl _)
  rwa [List.take_length] at this
/-- a sum by classes -/
theorem sumN_class (f : Nat → Int) (c : Nat → Nat) (k D : Nat) (h : ∀ i, i < k → c i < D) : sumN (fun d => sumN (fun i => if c i = d then f i else 0) k) D = sumN f k := by
  rw [← sumN_swap (fun i d => if c i = d then f i else 0) k D]
  refine sumN_congr fun i hi => ?_
  rw [sumN_one (h i hi) fun d _ hne => if_neg fun e => hne e.symm]
  exact if_pos rfl
/-- split by a test -/
theorem sumN_split (p : Nat → Bool) (f : Nat → Int) (k : Nat) : sumN f k = sumN (fun i => if p i then f i else 0) k + sumN (fun i => if p i then 0 else f i) k := by
  rw [← sumN_add]
  refine sumN_congr fun i _ => ?_
  cases p i <;> simp
end Go.Proofs.Ytoeabajigfdkaaa
/- Maps of streets in plain words: their error, bounds, carried counts. No condition. -/
namespace Go.Proofs.Ytoeabajigfdkaaa

structure Stt where
  o : Int
  n : Int
  wt : Int
  lo : Int
  hi : Int
structure Jn where
  a : Int
  b : Int
structure MapD where
  old : List Int
  nw : Int
  ss : List Stt
  js : List Jn
def MapD.S (m : MapD) (i : Nat) : Stt := m.ss.getD i ⟨0, 0, 0, 0, 0⟩
def MapD.at_ (m : MapD) (d : Nat) : Int := m.old.getD d 0
theorem MapD.S_eq {m : MapD} {i : Nat} {s : Stt} (h : m.ss[i]? = some s) : m.S i = s := by simp [MapD.S, List.getD, h]
theorem MapD.at_eq {m : MapD} {d : Nat} {x : Int} (h : m.old[d]? = some x) : m.at_ d = x := by simp [MapD.at_, List.getD, h]

/-- the sum over those of the first k streets of old district d that pass a test -/
def sumO (m : MapD) (d : Nat) (p : Nat → Bool) (g : Stt → Int) (k : Nat) : Int := sumN (fun i => if (m.S i).o = (d : Int) ∧ p i = true then g (m.S i) else 0) k
def tt : Nat → Bool := fun _ => true
def nt (p : Nat → Bool) : Nat → Bool := fun i => !p i
theorem sumO_skip {m : MapD} {d : Nat} {p : Nat → Bool} {g : Stt → Int} {k : Nat} {s : Stt} (h : m.ss[k]? = some s) (hd : s.o ≠ (d : Int)) : sumO m d p g (k + 1) = sumO m d p g k := by
  unfold sumO
  rw [sumN_succ, MapD.S_eq h, if_neg (fun e => hd e.1)]; simp
theorem sumO_take {m : MapD} {d : Nat} {p : Nat → Bool} {g : Stt → Int} {k : Nat} {s : Stt} (h : m.ss[k]? = some s) (hd : s.o = (d : Int)) (hp : p k = true) : sumO m d p g (k + 1) = sumO m d p g k + g s := by
  unfold sumO
  rw [sumN_succ, MapD.S_eq h, if_pos ⟨hd, hp⟩]
theorem sumO_drop {m : MapD} {d : Nat} {p : Nat → Bool} {g : Stt → Int} {k : Nat} (hp : p k = false) : sumO m d p g (k + 1) = sumO m d p g k := by
  unfold sumO
  rw [sumN_succ, if_neg (fun e => by rw [hp] at e; exact absurd e.2 (by decide))]; simp

def inB (n lo hi : Int) : Bool := decide (lo ≤ n ∧ n ≤ hi)
def rngOk (lo hi top : Int) : Bool := decide (0 ≤ lo ∧ lo ≤ hi ∧ hi ≤ top)
def sttOk (m : MapD) (s : Stt) : Bool := inB s.o 0 ((m.old.length : Int) - 1) && (inB s.n 0 (m.nw - 1) && (inB s.wt 0 1000 && rngOk s.lo s.hi 10000))
def jnOk (m : MapD) (j : Jn) : Bool := inB j.a 0 ((m.ss.length : Int) - 1) && (inB j.b 0 ((m.ss.length : Int) - 1) && !(j.a == j.b))
def cntOk (x : Int) : Bool := inB x 0 10000
def wghOk (m : MapD) (d : Nat) : Bool := !(sumO m d tt Stt.wt m.ss.length == 0)
/-- the number of a map's error -/
def chkM (m : MapD) : Int :=
  if decide (4 < (m.old.length : Int)) || (decide (8 < (m.ss.length : Int)) || decide (20 < (m.js.length : Int))) then 3 else
  if ((m.old.length : Int) == 0) || (((m.ss.length : Int) == 0) || (!m.old.all cntOk || (!inB m.nw 1 4 || (!m.ss.all (sttOk m) || (!(List.range m.old.length).all (wghOk m) || !m.js.all (jnOk m)))))) then 1 else 0
structure OkM (m : MapD) : Prop where
  d1 : 1 ≤ m.old.length
  d4 : m.old.length ≤ 4
  s1 : 1 ≤ m.ss.length
  s8 : m.ss.length ≤ 8
  j20 : m.js.length ≤ 20
  cnt : ∀ x ∈ m.old, 0 ≤ x ∧ x ≤ 10000
  n1 : 1 ≤ m.nw
  n4 : m.nw ≤ 4
  stt : ∀ s ∈ m.ss, 0 ≤ s.o ∧ s.o < m.old.length ∧ 0 ≤ s.n ∧ s.n < m.nw ∧ 0 ≤ s.wt ∧ s.wt ≤ 1000 ∧ 0 ≤ s.lo ∧ s.lo ≤ s.hi ∧ s.hi ≤ 10000
  wgh : ∀ d, d < m.old.length → sumO m d tt Stt.wt m.ss.length ≠ 0
  jn : ∀ j ∈ m.js, 0 ≤ j.a ∧ j.a < m.ss.length ∧ 0 ≤ j.b ∧ j.b < m.ss.length ∧ j.a ≠ j.b
theorem inB_iff {n lo hi : Int} : inB n lo hi = true ↔ lo ≤ n ∧ n ≤ hi := by simp [inB]
theorem sttOk_iff {m : MapD} {s : Stt} : sttOk m s = true ↔ 0 ≤ s.o ∧ s.o < m.old.length ∧ 0 ≤ s.n ∧ s.n < m.nw ∧ 0 ≤ s.wt ∧ s.wt ≤ 1000 ∧ 0 ≤ s.lo ∧ s.lo ≤ s.hi ∧ s.hi ≤ 10000 := by
  unfold sttOk rngOk
  simp only [Bool.and_eq_true, inB_iff, decide_eq_true_eq]
  omega
theorem jnOk_iff {m : MapD} {j : Jn} : jnOk m j = true ↔ 0 ≤ j.a ∧ j.a < m.ss.length ∧ 0 ≤ j.b ∧ j.b < m.ss.length ∧ j.a ≠ j.b := by
  unfold jnOk
  simp only [Bool.and_eq_true, inB_iff, Bool.not_eq_true', beq_eq_false_iff_ne]
  omega
theorem chk_okm {m : MapD} (h : chkM m = 0) : OkM m := by
  unfold chkM at h
  split at h
  · cases h
  · rename_i h1
    split at h
    · cases h
    · rename_i h2
      simp only [Bool.or_eq_true, decide_eq_true_eq, not_or] at h1
      simp only [Bool.or_eq_true, beq_iff_eq, not_or, Bool.not_eq_true', Bool.not_eq_false, List.all_eq_true] at h2
      obtain ⟨a1, a2, a3⟩ := h1
      obtain ⟨b1, b2, b3, b4, b5, b6, b7⟩ := h2
      refine ⟨by omega, by omega, by omega, by omega, by omega, fun x hx => ?_, (inB_iff.1 b4).1, (inB_iff.1 b4).2, fun s hs => sttOk_iff.1 (b5 s hs), fun d hd => ?_, fun j hj => jnOk_iff.1 (b7 j hj)⟩
      · exact inB_iff.1 (b3 x hx)
      · have := b6 d (List.mem_range.2 hd)
        unfold wghOk at this
        simpa using this
theorem okm_chk {m : MapD} (h : OkM m) : chkM m = 0 := by
  unfold chkM
  rw [if_neg, if_neg]
  · simp only [Bool.or_eq_true, beq_iff_eq, not_or, Bool.not_eq_true', Bool.not_eq_false, List.all_eq_true]
    refine ⟨by have := h.d1; omega, by have := h.s1; omega, fun x hx => inB_iff.2 (h.cnt x hx), inB_iff.2 ⟨h.n1, h.n4⟩, fun s hs => sttOk_iff.2 (h.stt s hs), fun d hd => ?_, fun j hj => jnOk_iff.2 (h.jn j hj)⟩
    have := h.wgh d (List.mem_range.1 hd)
    unfold wghOk
    simpa using this
  · simp only [Bool.or_eq_true, decide_eq_true_eq, not_or]
    have := h.d4; have := h.s8; have := h.j20
    omega
theorem chkM_cases (m : MapD) : chkM m = 0 ∨ chkM m = 1 ∨ chkM m = 3 := by
  unfold chkM
  split
  · exact .inr (.inr rfl)
  · split
    · exact .inr (.inl rfl)
    · exact .inl rfl
theorem OkM.sAt {m : MapD} (h : OkM m) {i : Nat} (hi : i < m.ss.length) : 0 ≤ (m.S i).o ∧ (m.S i).o < m.old.length ∧ 0 ≤ (m.S i).n ∧ (m.S i).n < m.nw ∧ 0 ≤ (m.S i).wt ∧ (m.S i).wt ≤ 1000 ∧ 0 ≤ (m.S i).lo ∧ (m.S i).lo ≤ (m.S i).hi ∧ (m.S i).hi ≤ 10000 := by
  have e : m.ss[i]? = some m.ss[i] := List.getElem?_eq_getElem hi
  rw [MapD.S_eq e]
  exact h.stt _ (List.getElem_mem hi)
theorem OkM.atB {m : MapD} (h : OkM m) {d : Nat} (hd : d < m.old.length) : 0 ≤ m.at_ d ∧ m.at_ d ≤ 10000 := by
  have e : m.old[d]? = some m.old[d] := List.getElem?_eq_getElem hd
  rw [MapD.at_eq e]
  exact h.cnt _ (List.getElem_mem hd)

/-- the bounds of the people of an old district in the streets that pass a test -/
def partLo (m : MapD) (p : Nat → Bool) (d : Nat) : Int := max (sumO m d p Stt.lo m.ss.length) (m.at_ d - sumO m d (nt p) Stt.hi m.ss.length)
def partHi (m : MapD) (p : Nat → Bool) (d : Nat) : Int := min (sumO m d p Stt.hi m.ss.length) (m.at_ d - sumO m d (nt p) Stt.lo m.ss.length)
def sizeLo (m : MapD) (p : Nat → Bool) (k : Nat) : Int := sumN (partLo m p) k
def sizeHi (m : MapD) (p : Nat → Bool) (k : Nat) : Int := sumN (partHi m p) k
/-- the streets that lie in a district of borders -/
def inD (l : Nat → Int) (d : Int) : Nat → Bool := fun i => l i == d
def ownL (m : MapD) : Nat → Int := fun i => (m.S i).n
def conD (m : MapD) (d : Nat) : Bool := inB (m.at_ d) (sumO m d tt Stt.lo m.ss.length) (sumO m d tt Stt.hi m.ss.length)
def conM (m : MapD) : Bool := (List.range m.old.length).all (conD m)
/-- the number of a map's error, also if it is not consistent -/
def cstM (m : MapD) : Int := if chkM m = 0 then (if conM m then 0 else 9) else chkM m
theorem sumO_bounds {m : MapD} {g : Stt → Int} {M : Int} (hM : 0 ≤ M) (d : Nat) (p : Nat → Bool) (k : Nat) (h : ∀ i, i < k → 0 ≤ g (m.S i) ∧ g (m.S i) ≤ M) : 0 ≤ sumO m d p g k ∧ sumO m d p g k ≤ k * M := by
  unfold sumO
  refine ⟨sumN_nonneg fun i hi => ?_, sumN_bound fun i hi => ?_⟩
  · split
    · exact (h i hi).1
    · exact Int.le_refl _
  · split
    · exact (h i hi).2
    · exact hM
theorem sumO_le {m : MapD} {g g' : Stt → Int} (d : Nat) (p : Nat → Bool) (k : Nat) (h : ∀ i, i < k → g (m.S i) ≤ g' (m.S i)) : sumO m d p g k ≤ sumO m d p g' k := by
  unfold sumO
  refine sumN_le fun i hi => ?_
  split
  · exact h i hi
  · exact Int.le_refl _
theorem sumO_split (m : MapD) (d : Nat) (p : Nat → Bool) (g : Stt → Int) (k : Nat) : sumO m d tt g k = sumO m d p g k + sumO m d (nt p) g k := by
  unfold sumO
  rw [← sumN_add]
  refine sumN_congr fun i _ => ?_
  by_cases e : (m.S i).o = (d : Int)
  · cases hp : p i <;> simp [e, tt, nt, hp]
  · simp [e]
end Go.Proofs.Ytoeabajigfdkaaa
/- all, for rows: as for numbers. -/
namespace Go.Proofs.Ytoeabajigfdkaaa
open Go.RowKit Go.Shelf

/-- a test of rows: what it says, in each world that has only grown -/
def PredR (g : Nat) (bnd cap : Array Value) (p : List Int → Bool) (xs : List (List Int)) (w : World) : Prop :=
  ∀ W x A' c', Below w.heap.size w W → x ∈ xs → x.length ≤ c' → c' ≤ maxLen → IsInts W W.heap.size A' x → Calls Try.prog g (bnd.push (.slice A' x.length c') ++ cap) W fun e W' => e = .returned (.bool (p x)) ∧ Below W.heap.size W W'

end Go.Proofs.Ytoeabajigfdkaaa
/- all, for fixes: as for numbers. -/
namespace Go.Proofs.Ytoeabajigfdkaaa
open Go.RowKit Go.Shelf

/-- a test of fixes: what it says, in each world that has only grown -/
def PredF (g : Nat) (bnd cap : Array Value) (p : Fx → Bool) (xs : List Fx) (w : World) : Prop :=
  ∀ W x, Below w.heap.size w W → x ∈ xs → Calls Try.prog g (bnd.push (.agg #[.int .i64 x.row, .int .i64 x.col, .int .i64 x.val]) ++ cap) W fun e W' => e = .returned (.bool (p x)) ∧ Below W.heap.size W W'

end Go.Proofs.Ytoeabajigfdkaaa
/- row, fix, alike: whether a row, a fix, a list of numbers fit a table. -/
namespace Go.Proofs.Ytoeabajigfdkaaa
open Go.RowKit Go.Shelf

theorem below_box {w : World} (cs : Array Value) (t : TypeId) : Below w.heap.size w (w.alloc (.cells cs t)) := (Below.refl _ _).alloc (Nat.le_refl _) _
theorem then_below {w w1 w2 : World} (h : Below w.heap.size w w1) (h2 : Below w1.heap.size w1 w2) : Below w.heap.size w w2 := h.trans (h2.mono h.size)

def rowB (n : Nat) (hi : Int) (xs : List Int) : Bool := ((xs.length : Int) == (n : Int)) && xs.all fun x => withinB x 0 hi

def fixOkB (n m : Nat) (f : Fx) : Bool := withinB f.row 0 (n - 1) && withinB f.col 0 (m - 1) && withinB f.val 0 10100

end Go.Proofs.Ytoeabajigfdkaaa
/- Words for maps in memory: lists of streets and of joins. No condition. -/
namespace Go.Proofs.Ytoeabajigfdkaaa
open Go.RowKit

/-- the slice at A reads as these streets, below block n -/
def IsStts (w : World) (n : Nat) (A : Option Addr) (ss : List Stt) : Prop :=
  ∀ k s, ss[k]? = some s → ∃ a, A = some a ∧ a.block < n ∧ w.cell? (a.add (k * 5)) = some (.int .i64 s.o) ∧ w.cell? ⟨(a.add (k * 5)).block, (a.add (k * 5)).off + 1, none⟩ = some (.int .i64 s.n) ∧ w.cell? ⟨(a.add (k * 5)).block, (a.add (k * 5)).off + 2, none⟩ = some (.int .i64 s.wt) ∧ w.cell? ⟨(a.add (k * 5)).block, (a.add (k * 5)).off + 3, none⟩ = some (.int .i64 s.lo) ∧ w.cell? ⟨(a.add (k * 5)).block, (a.add (k * 5)).off + 4, none⟩ = some (.int .i64 s.hi)
def IsJns (w : World) (n : Nat) (A : Option Addr) (js : List Jn) : Prop :=
  ∀ k j, js[k]? = some j → ∃ a, A = some a ∧ a.block < n ∧ w.cell? (a.add (k * 2)) = some (.int .i64 j.a) ∧ w.cell? ⟨(a.add (k * 2)).block, (a.add (k * 2)).off + 1, none⟩ = some (.int .i64 j.b)
section
variable {w w' : World} {n m : Nat} {A : Option Addr}
theorem IsStts.below {ss : List Stt} (h : IsStts w n A ss) (hb : Below n w w') : IsStts w' n A ss := fun k s hk => by
  obtain ⟨a, e, hl, h0, h1, h2, h3, h4⟩ := h k s hk
  have g : ∀ o, w'.cell? ⟨(a.add (k * 5)).block, o, none⟩ = w.cell? ⟨(a.add (k * 5)).block, o, none⟩ := fun o => hb.cell (by show (a.add _).block < n; rw [block_of_add]; exact hl)
  exact ⟨a, e, hl, (hb.cell (by rw [block_of_add]; exact hl)).trans h0, (g _).trans h1, (g _).trans h2, (g _).trans h3, (g _).trans h4⟩
theorem IsStts.more {ss : List Stt} (h : IsStts w n A ss) (hm : n ≤ m) : IsStts w m A ss := fun k s hk => by
  obtain ⟨a, e, hl, h0⟩ := h k s hk
  exact ⟨a, e, by omega, h0⟩
theorem IsJns.below {js : List Jn} (h : IsJns w n A js) (hb : Below n w w') : IsJns w' n A js := fun k s hk => by
  obtain ⟨a, e, hl, h0, h1⟩ := h k s hk
  exact ⟨a, e, hl, (hb.cell (by rw [block_of_add]; exact hl)).trans h0, (hb.cell (by show (a.add _).block < n; rw [block_of_add]; exact hl)).trans h1⟩
theorem IsJns.more {js : List Jn} (h : IsJns w n A js) (hm : n ≤ m) : IsJns w m A js := fun k s hk => by
  obtain ⟨a, e, hl, h0⟩ := h k s hk
  exact ⟨a, e, by omega, h0⟩
end
theorem IsStts.at_ {w w' : World} {A : Option Addr} {ss : List Stt} (h : IsStts w w.heap.size A ss) (hb : Below w.heap.size w w') : IsStts w' w'.heap.size A ss := (h.below hb).more hb.size
theorem IsJns.at_ {w w' : World} {A : Option Addr} {js : List Jn} (h : IsJns w w.heap.size A js) (hb : Below w.heap.size w w') : IsJns w' w'.heap.size A js := (h.below hb).more hb.size
/-- a map's lists lie in memory -/
structure MIn (m : MapD) (A : Option Addr) (c : Nat) (A2 : Option Addr) (c2 : Nat) (A3 : Option Addr) (c3 : Nat) (w : World) : Prop where
  io : IsInts w w.heap.size A m.old
  is : IsStts w w.heap.size A2 m.ss
  ij : IsJns w w.heap.size A3 m.js
  l1 : m.old.length ≤ c
  m1 : c ≤ maxLen
  l2 : m.ss.length ≤ c2
  m2 : c2 ≤ maxLen
  l3 : m.js.length ≤ c3
  m3 : c3 ≤ maxLen
theorem MIn.at_ {m : MapD} {A : Option Addr} {c : Nat} {A2 : Option Addr} {c2 : Nat} {A3 : Option Addr} {c3 : Nat} {w w' : World} (h : MIn m A c A2 c2 A3 c3 w) (hb : Below w.heap.size w w') : MIn m A c A2 c2 A3 c3 w' :=
  ⟨h.io.at_ hb, h.is.at_ hb, h.ij.at_ hb, h.l1, h.m1, h.l2, h.m2, h.l3, h.m3⟩
theorem xt_c2 {w : World} {g : Nat} {t : TypeId} {x y : Value} (h : Blk w g t #[x, y]) : (∀ q, (xt w q).cell? ⟨g, 0, none⟩ = some x) ∧ (∀ q, (xt w q).cell? ⟨g, 1, none⟩ = some y) :=
  ⟨fun q => (h.keep (below_xt w q)).c2.1, fun q => (h.keep (below_xt w q)).c2.2⟩
end Go.Proofs.Ytoeabajigfdkaaa
/- border's all: whether each element of a list passes a test. -/
namespace Go.Proofs.Ytoeabajigfdkaaa
open Go.RowKit Go.Shelf

set_option maxRecDepth 10000 in
set_option maxHeartbeats 400000 in
theorem ball_int1 (g : Nat) (bnd cap : Array Value) (B : Nat) (t : Bool) (x : Int) (W : World) (eg : ∀ args w, (callFunc g args).run Try.prog w = .ok (.enter g args) w) (hB : Blk W B 94 #[.func (.func g) bnd cap])
    (hp : Calls Try.prog g (bnd.push (.int .i64 x) ++ cap) W fun e W' => e = .returned (.bool t) ∧ Below W.heap.size W W') :
    Calls Try.prog 93 #[.int .i64 x, .pointer (some ⟨B, 0, none⟩)] W fun e W' => e = .returned (.bool (!t)) ∧ Below W.heap.size W W' := by
  have c0 := hB.c1
  have HP := hid hp
  clear hp hB
  go_enter Try.func93, Try.ntmps93
  go_wp2_with fail
  refine HP.out.mono ?_
  rintro e w2 ⟨rfl, hb2⟩
  go_wp2
  go_ret
  exact ⟨rfl, hb2⟩

set_option maxHeartbeats 400000 in
theorem ball_int (p : Int → Bool) (A : Option Addr) (c : Nat) (xs : List Int) (w : World) (h : IsInts w w.heap.size A xs) (hl : xs.length ≤ c) (hm : c ≤ maxLen)
    (g : Nat) (bnd cap : Array Value) (eg : ∀ args w, (callFunc g args).run Try.prog w = .ok (.enter g args) w) (hp : PredI g bnd cap p xs w) :
    Calls Try.prog 57 #[.slice A xs.length c, .func (.func g) bnd cap] w fun e w' => e = .returned (.bool (xs.all p)) ∧ Below w.heap.size w w' := by
  have hB : Below w.heap.size w (w.alloc (.cells #[.func (.func g) bnd cap] 94)) := (Below.refl _ _).alloc (Nat.le_refl _) _
  have HI := hid (has_int (fun x => !p x) A c xs _ (h.at_ hB) hl hm 93 #[] #[.pointer (some ⟨w.heap.size, 0, none⟩)] (enters_of Try.func93 (by kernel_rfl) rfl)
    (fun W x hW hx => ball_int1 g bnd cap w.heap.size (p x) x W eg ((Blk.new _ _ _).keep hW) (hp W x (hB.trans (hW.mono hB.size)) hx)))
  have HN : Hid ((!xs.any fun x => !p x) = xs.all p) := hid (by simp [List.all_eq_not_any_not])
  clear hp h eg
  go_enter Try.func57, Try.ntmps57
  go_wp2_with fail
  refine HI.out.mono ?_
  rintro e w2 ⟨rfl, hb2⟩
  go_wp2
  go_ret
  exact ⟨by rw [← HN.out]; rfl, hB.trans (hb2.mono hB.size)⟩

/-- a test of elements: what it says, in each world that has only grown -/
def PredS (g : Nat) (bnd cap : Array Value) (p : Stt → Bool) (xs : List Stt) (w : World) : Prop :=
  ∀ W x, Below w.heap.size w W → x ∈ xs → Calls Try.prog g (bnd.push (.agg #[.int .i64 x.o, .int .i64 x.n, .int .i64 x.wt, .int .i64 x.lo, .int .i64 x.hi]) ++ cap) W fun e W' => e = .returned (.bool (p x)) ∧ Below W.heap.size W W'

set_option maxRecDepth 10000 in
set_option maxHeartbeats 400000 in
theorem ball_stt1 (g : Nat) (bnd cap : Array Value) (B : Nat) (t : Bool) (x : Stt) (W : World) (eg : ∀ args w, (callFunc g args).run Try.prog w = .ok (.enter g args) w) (hB : Blk W B 91 #[.func (.func g) bnd cap])
    (hp : ∀ W1, Below W.heap.size W W1 → Calls Try.prog g (bnd.push (.agg #[.int .i64 x.o, .int .i64 x.n, .int .i64 x.wt, .int .i64 x.lo, .int .i64 x.hi]) ++ cap) W1 fun e W' => e = .returned (.bool t) ∧ Below W1.heap.size W1 W') :
    Calls Try.prog 95 #[.agg #[.int .i64 x.o, .int .i64 x.n, .int .i64 x.wt, .int .i64 x.lo, .int .i64 x.hi], .pointer (some ⟨B, 0, none⟩)] W fun e W' => e = .returned (.bool (!t)) ∧ Below W.heap.size W W' := by
  have c0 := hB.c1
  have hlt := hB.lt
  have hbW : Below W.heap.size W (W.alloc (.cells #[.int .i64 x.o, .int .i64 x.n, .int .i64 x.wt, .int .i64 x.lo, .int .i64 x.hi] 89)) := (Below.refl _ _).alloc (Nat.le_refl _) _
  have HP := hid (hp _ hbW)
  clear hp hB
  go_enter Try.func95, Try.ntmps95
  go_wp2_with fail
  refine HP.out.mono ?_
  rintro e w2 ⟨rfl, hb2⟩
  go_wp2
  go_ret
  exact ⟨rfl, hbW.trans (hb2.mono hbW.size)⟩

set_option maxRecDepth 10000 in
set_option maxHeartbeats 400000 in
theorem bidx_stt (f : Value) (q : Stt → Bool) (A : Option Addr) (c : Nat) (xs : List Stt) (w : World) (h : IsStts w w.heap.size A xs) (hl : xs.length ≤ c) (hm : c ≤ maxLen)
    (g : Nat) (bnd cap : Array Value) (hf : f = .func (.func g) bnd cap) (eg : ∀ args w, (callFunc g args).run Try.prog w = .ok (.enter g args) w) (hp : PredS g bnd cap q xs w) :
    Calls Try.prog 106 #[.slice A xs.length c, f] w fun e w' => e = .returned (.int .i64 (idxOf q xs)) ∧ Below w.heap.size w w' := by
  subst hf
  unfold maxLen at hm
  have HP := hid hp
  clear hp
  go_enter Try.func106, Try.ntmps106
  go_wp2
  go_loopw [8] (fun i wr => ∃ k : Nat, k ≤ xs.length ∧ i = .int .i64 k ∧ Below w.heap.size w wr ∧ (xs.take k).any q = false) (fun i _ => xs.length - (intOf i).toNat)
  case atStart => exact ⟨0, Nat.zero_le _, rfl, Below.refl _ _, rfl⟩
  case round =>
    obtain ⟨k, hk, rfl, hbr, hno⟩ := hrel
    have HN := hid hno; clear hno
    by_cases hlt : k < xs.length
    · obtain ⟨a, rfl, hb, f0, f1, f2, f3, f4⟩ := h.below hbr k xs[k] (List.getElem?_eq_getElem hlt)
      have HC := hid (HP.out wr xs[k] hbr (List.getElem_mem hlt))
      have HH := hid (@idxOf_hit Stt q xs k hlt)
      have HT := hid (any_take q xs k hlt)
      generalize xs[k] = x at *
      cases hq : q x
      all_goals
        have HQ := hid hq
        clear hq
        go_wp2_with fail
        refine HC.out.mono ?_
        rintro e w2 ⟨rfl, hb2⟩
        rw [HQ.out]
        go_wp2
      · go_roundw
        case rel => exact ⟨k + 1, by omega, by go_num, hbr.trans (hb2.mono hbr.size), by rw [HT.out, HN.out, HQ.out]; rfl⟩
        case measure => simp [intOf]; omega
      · go_ret
        exact ⟨by rw [HH.out HN.out HQ.out]; rfl, hbr.trans (hb2.mono hbr.size)⟩
    · obtain rfl : k = xs.length := by omega
      rw [List.take_length] at HN
      have HM := hid (idxOf_miss HN.out)
      go_wp2
      go_ret
      exact ⟨by rw [HM.out]; rfl, hbr⟩

set_option maxHeartbeats 400000 in
theorem bhas_stt (q : Stt → Bool) (A : Option Addr) (c : Nat) (xs : List Stt) (w : World) (h : IsStts w w.heap.size A xs) (hl : xs.length ≤ c) (hm : c ≤ maxLen)
    (g : Nat) (bnd cap : Array Value) (eg : ∀ args w, (callFunc g args).run Try.prog w = .ok (.enter g args) w) (hp : PredS g bnd cap q xs w) :
    Calls Try.prog 94 #[.slice A xs.length c, .func (.func g) bnd cap] w fun e w' => e = .returned (.bool (xs.any q)) ∧ Below w.heap.size w w' := by
  have HI := hid (bidx_stt _ q A c xs w h hl hm g bnd cap rfl eg hp)
  have HN := hid (idxOf_nonneg q xs)
  clear hp h eg
  go_enter Try.func94, Try.ntmps94
  go_wp2_with fail
  refine HI.out.mono ?_
  rintro e w2 ⟨rfl, hb2⟩
  go_wp2
  go_ret
  exact ⟨by rw [← HN.out]; rfl, hb2⟩

set_option maxHeartbeats 400000 in
theorem ball_stt (p : Stt → Bool) (A : Option Addr) (c : Nat) (xs : List Stt) (w : World) (h : IsStts w w.heap.size A xs) (hl : xs.length ≤ c) (hm : c ≤ maxLen)
    (g : Nat) (bnd cap : Array Value) (eg : ∀ args w, (callFunc g args).run Try.prog w = .ok (.enter g args) w) (hp : PredS g bnd cap p xs w) :
    Calls Try.prog 60 #[.slice A xs.length c, .func (.func g) bnd cap] w fun e w' => e = .returned (.bool (xs.all p)) ∧ Below w.heap.size w w' := by
  have hB : Below w.heap.size w (w.alloc (.cells #[.func (.func g) bnd cap] 91)) := (Below.refl _ _).alloc (Nat.le_refl _) _
  have HI := hid (bhas_stt (fun x => !p x) A c xs _ (h.at_ hB) hl hm 95 #[] #[.pointer (some ⟨w.heap.size, 0, none⟩)] (enters_of Try.func95 (by kernel_rfl) rfl)
    (fun W x hW hx => ball_stt1 g bnd cap w.heap.size (p x) x W eg ((Blk.new _ _ _).keep hW) (fun W1 h1 => hp W1 x (hB.trans ((hW.trans (h1.mono hW.size)).mono hB.size)) hx)))
  have HN : Hid ((!xs.any fun x => !p x) = xs.all p) := hid (by simp [List.all_eq_not_any_not])
  clear hp h eg
  go_enter Try.func60, Try.ntmps60
  go_wp2_with fail
  refine HI.out.mono ?_
  rintro e w2 ⟨rfl, hb2⟩
  go_wp2
  go_ret
  exact ⟨by rw [← HN.out]; rfl, hB.trans (hb2.mono hB.size)⟩

/-- a test of elements: what it says, in each world that has only grown -/
def PredJ (g : Nat) (bnd cap : Array Value) (p : Jn → Bool) (xs : List Jn) (w : World) : Prop :=
  ∀ W x, Below w.heap.size w W → x ∈ xs → Calls Try.prog g (bnd.push (.agg #[.int .i64 x.a, .int .i64 x.b]) ++ cap) W fun e W' => e = .returned (.bool (p x)) ∧ Below W.heap.size W W'

set_option maxRecDepth 10000 in
set_option maxHeartbeats 400000 in
theorem ball_jn1 (g : Nat) (bnd cap : Array Value) (B : Nat) (t : Bool) (x : Jn) (W : World) (eg : ∀ args w, (callFunc g args).run Try.prog w = .ok (.enter g args) w) (hB : Blk W B 92 #[.func (.func g) bnd cap])
    (hp : ∀ W1, Below W.heap.size W W1 → Calls Try.prog g (bnd.push (.agg #[.int .i64 x.a, .int .i64 x.b]) ++ cap) W1 fun e W' => e = .returned (.bool t) ∧ Below W1.heap.size W1 W') :
    Calls Try.prog 97 #[.agg #[.int .i64 x.a, .int .i64 x.b], .pointer (some ⟨B, 0, none⟩)] W fun e W' => e = .returned (.bool (!t)) ∧ Below W.heap.size W W' := by
  have c0 := hB.c1
  have hlt := hB.lt
  have hbW : Below W.heap.size W (W.alloc (.cells #[.int .i64 x.a, .int .i64 x.b] 90)) := (Below.refl _ _).alloc (Nat.le_refl _) _
  have HP := hid (hp _ hbW)
  clear hp hB
  go_enter Try.func97, Try.ntmps97
  go_wp2_with fail
  refine HP.out.mono ?_
  rintro e w2 ⟨rfl, hb2⟩
  go_wp2
  go_ret
  exact ⟨rfl, hbW.trans (hb2.mono hbW.size)⟩

set_option maxRecDepth 10000 in
set_option maxHeartbeats 400000 in
theorem bidx_jn (f : Value) (q : Jn → Bool) (A : Option Addr) (c : Nat) (xs : List Jn) (w : World) (h : IsJns w w.heap.size A xs) (hl : xs.length ≤ c) (hm : c ≤ maxLen)
    (g : Nat) (bnd cap : Array Value) (hf : f = .func (.func g) bnd cap) (eg : ∀ args w, (callFunc g args).run Try.prog w = .ok (.enter g args) w) (hp : PredJ g bnd cap q xs w) :
    Calls Try.prog 107 #[.slice A xs.length c, f] w fun e w' => e = .returned (.int .i64 (idxOf q xs)) ∧ Below w.heap.size w w' := by
  subst hf
  unfold maxLen at hm
  have HP := hid hp
  clear hp
  go_enter Try.func107, Try.ntmps107
  go_wp2
  go_loopw [8] (fun i wr => ∃ k : Nat, k ≤ xs.length ∧ i = .int .i64 k ∧ Below w.heap.size w wr ∧ (xs.take k).any q = false) (fun i _ => xs.length - (intOf i).toNat)
  case atStart => exact ⟨0, Nat.zero_le _, rfl, Below.refl _ _, rfl⟩
  case round =>
    obtain ⟨k, hk, rfl, hbr, hno⟩ := hrel
    have HN := hid hno; clear hno
    by_cases hlt : k < xs.length
    · obtain ⟨a, rfl, hb, f0, f1⟩ := h.below hbr k xs[k] (List.getElem?_eq_getElem hlt)
      have HC := hid (HP.out wr xs[k] hbr (List.getElem_mem hlt))
      have HH := hid (@idxOf_hit Jn q xs k hlt)
      have HT := hid (any_take q xs k hlt)
      generalize xs[k] = x at *
      cases hq : q x
      all_goals
        have HQ := hid hq
        clear hq
        go_wp2_with fail
        refine HC.out.mono ?_
        rintro e w2 ⟨rfl, hb2⟩
        rw [HQ.out]
        go_wp2
      · go_roundw
        case rel => exact ⟨k + 1, by omega, by go_num, hbr.trans (hb2.mono hbr.size), by rw [HT.out, HN.out, HQ.out]; rfl⟩
        case measure => simp [intOf]; omega
      · go_ret
        exact ⟨by rw [HH.out HN.out HQ.out]; rfl, hbr.trans (hb2.mono hbr.size)⟩
    · obtain rfl : k = xs.length := by omega
      rw [List.take_length] at HN
      have HM := hid (idxOf_miss HN.out)
      go_wp2
      go_ret
      exact ⟨by rw [HM.out]; rfl, hbr⟩

set_option maxHeartbeats 400000 in
theorem bhas_jn (q : Jn → Bool) (A : Option Addr) (c : Nat) (xs : List Jn) (w : World) (h : IsJns w w.heap.size A xs) (hl : xs.length ≤ c) (hm : c ≤ maxLen)
    (g : Nat) (bnd cap : Array Value) (eg : ∀ args w, (callFunc g args).run Try.prog w = .ok (.enter g args) w) (hp : PredJ g bnd cap q xs w) :
    Calls Try.prog 96 #[.slice A xs.length c, .func (.func g) bnd cap] w fun e w' => e = .returned (.bool (xs.any q)) ∧ Below w.heap.size w w' := by
  have HI := hid (bidx_jn _ q A c xs w h hl hm g bnd cap rfl eg hp)
  have HN := hid (idxOf_nonneg q xs)
  clear hp h eg
  go_enter Try.func96, Try.ntmps96
  go_wp2_with fail
  refine HI.out.mono ?_
  rintro e w2 ⟨rfl, hb2⟩
  go_wp2
  go_ret
  exact ⟨by rw [← HN.out]; rfl, hb2⟩

set_option maxHeartbeats 400000 in
theorem ball_jn (p : Jn → Bool) (A : Option Addr) (c : Nat) (xs : List Jn) (w : World) (h : IsJns w w.heap.size A xs) (hl : xs.length ≤ c) (hm : c ≤ maxLen)
    (g : Nat) (bnd cap : Array Value) (eg : ∀ args w, (callFunc g args).run Try.prog w = .ok (.enter g args) w) (hp : PredJ g bnd cap p xs w) :
    Calls Try.prog 62 #[.slice A xs.length c, .func (.func g) bnd cap] w fun e w' => e = .returned (.bool (xs.all p)) ∧ Below w.heap.size w w' := by
  have hB : Below w.heap.size w (w.alloc (.cells #[.func (.func g) bnd cap] 92)) := (Below.refl _ _).alloc (Nat.le_refl _) _
  have HI := hid (bhas_jn (fun x => !p x) A c xs _ (h.at_ hB) hl hm 97 #[] #[.pointer (some ⟨w.heap.size, 0, none⟩)] (enters_of Try.func97 (by kernel_rfl) rfl)
    (fun W x hW hx => ball_jn1 g bnd cap w.heap.size (p x) x W eg ((Blk.new _ _ _).keep hW) (fun W1 h1 => hp W1 x (hB.trans ((hW.trans (h1.mono hW.size)).mono hB.size)) hx)))
  have HN : Hid ((!xs.any fun x => !p x) = xs.all p) := hid (by simp [List.all_eq_not_any_not])
  clear hp h eg
  go_enter Try.func62, Try.ntmps62
  go_wp2_with fail
  refine HI.out.mono ?_
  rintro e w2 ⟨rfl, hb2⟩
  go_wp2
  go_ret
  exact ⟨by rw [← HN.out]; rfl, hB.trans (hb2.mono hB.size)⟩
end Go.Proofs.Ytoeabajigfdkaaa
/- change, cost: by how much numbers differ from the cells of a table. -/
namespace Go.Proofs.Ytoeabajigfdkaaa
open Go.RowKit Go.Shelf

def awayOf (a b : Int) : Int := max (a - b) (b - a)
def costTo (xs ys : List Int) (k : Nat) : Int := ((List.range k).map fun i => awayOf (xs.getD i 0) (ys.getD i 0)).sum
def rowCost (xs ys : List Int) : Int := costTo xs ys xs.length
def chgTo (l cs : List (List Int)) (k : Nat) : Int := ((List.range k).map fun r => rowCost (l.getD r []) (cs.getD r [])).sum
def changeOf (l cs : List (List Int)) : Int := chgTo l cs l.length
theorem awayOf_bounds {M a b : Int} (h1 : 0 ≤ a ∧ a ≤ M) (h2 : 0 ≤ b ∧ b ≤ M) : 0 ≤ awayOf a b ∧ awayOf a b ≤ M := by unfold awayOf; omega
theorem costTo_succ (xs ys : List Int) (k : Nat) : costTo xs ys (k + 1) = costTo xs ys k + awayOf (xs.getD k 0) (ys.getD k 0) := by
  unfold costTo; rw [List.range_succ, List.map_append, List.sum_append]; simp
theorem chgTo_succ (l cs : List (List Int)) (k : Nat) : chgTo l cs (k + 1) = chgTo l cs k + rowCost (l.getD k []) (cs.getD k []) := by
  unfold chgTo; rw [List.range_succ, List.map_append, List.sum_append]; simp
theorem costTo_bounds {M : Int} (hM : 0 ≤ M) {xs ys : List Int} (hx : ∀ x ∈ xs, 0 ≤ x ∧ x ≤ M) (hy : ∀ x ∈ ys, 0 ≤ x ∧ x ≤ M) (k : Nat) : 0 ≤ costTo xs ys k ∧ costTo xs ys k ≤ k * M := by
  induction k with
  | zero => simp [costTo]
  | succ k ih =>
    rw [costTo_succ, Int.natCast_add, Int.add_mul]
    have := awayOf_bounds (getD_small hM hx k) (getD_small hM hy k)
    omega
theorem getD_row {M : Int} {l : List (List Int)} (h : ∀ r ∈ l, ∀ x ∈ r, 0 ≤ x ∧ x ≤ M) (k : Nat) : ∀ x ∈ l.getD k [], 0 ≤ x ∧ x ≤ M := by
  intro x hx
  by_cases hk : k < l.length
  · have e : l.getD k [] = l[k] := by simp [List.getD, List.getElem?_eq_getElem hk]
    rw [e] at hx
    exact h _ (List.getElem_mem hk) x hx
  · have e : l.getD k [] = [] := by simp [List.getD, List.getElem?_eq_none (show l.length ≤ k by omega)]
    rw [e] at hx; cases hx
theorem getD_len {l : List (List Int)} {m : Nat} (h : ∀ r ∈ l, r.length ≤ m) (k : Nat) : (l.getD k []).length ≤ m := by
  by_cases hk : k < l.length
  · have e : l.getD k [] = l[k] := by simp [List.getD, List.getElem?_eq_getElem hk]
    rw [e]; exact h _ (List.getElem_mem hk)
  · have e : l.getD k [] = [] := by simp [List.getD, List.getElem?_eq_none (show l.length ≤ k by omega)]
    rw [e]; simp
theorem chgTo_bounds {l cs : List (List Int)} (hl : ∀ r ∈ l, r.length ≤ 4) (hx : ∀ r ∈ l, ∀ x ∈ r, 0 ≤ x ∧ x ≤ 10100) (hy : ∀ r ∈ cs, ∀ x ∈ r, 0 ≤ x ∧ x ≤ 10100) (k : Nat) : 0 ≤ chgTo l cs k ∧ chgTo l cs k ≤ k * 40400 := by
  induction k with
  | zero => simp [chgTo]
  | succ k ih =>
    rw [chgTo_succ, Int.natCast_add, Int.add_mul]
    have h1 := costTo_bounds (by omega) (getD_row hx k) (getD_row hy k) (l.getD k []).length
    have h2 := getD_len hl k
    unfold rowCost
    omega

end Go.Proofs.Ytoeabajigfdkaaa
/- change: the change of numbers that have the rows and columns of a table. -/
namespace Go.Proofs.Ytoeabajigfdkaaa
open Go.RowKit Go.Shelf

theorem getD_get {l : List (List Int)} {k : Nat} (h : k < l.length) : l.getD k [] = l[k] := by simp [List.getD, List.getElem?_eq_getElem h]
theorem getD_geti {l : List Int} {k : Nat} (h : k < l.length) : l.getD k 0 = l[k] := by simp [List.getD, List.getElem?_eq_getElem h]

end Go.Proofs.Ytoeabajigfdkaaa
/- The statements' helpers: whether lists of numbers are equal. -/
namespace Go.Proofs.Ytoeabajigfdkaaa
open Go.RowKit

theorem ret_bool {a b : Bool} (h : a = b) : Ending.returned (.bool a) = .returned (.bool b) := by rw [h]
/-- two lists that begin alike -/
theorem take_step {α : Type} {a b : List α} {k : Nat} {x y : α} (h : a.take k = b.take k) (hx : a[k]? = some x) (hy : b[k]? = some y) (e : x = y) : a.take (k + 1) = b.take (k + 1) := by
  obtain ⟨h1, rfl⟩ := List.getElem?_eq_some_iff.1 hx
  obtain ⟨h2, rfl⟩ := List.getElem?_eq_some_iff.1 hy
  rw [List.take_succ_eq_append_getElem h1, List.take_succ_eq_append_getElem h2, h, e]
theorem ne_of_at {α : Type} {a b : List α} {k : Nat} {x y : α} (hx : a[k]? = some x) (hy : b[k]? = some y) (e : x ≠ y) : a ≠ b := fun h => by
  rw [h] at hx
  rw [hx] at hy
  exact e (Option.some.inj hy)
theorem eq_of_take {α : Type} {a b : List α} (h : a.take a.length = b.take a.length) (hl : a.length = b.length) : a = b := by
  rw [List.take_length, hl, List.take_length] at h
  exact h
def sameB (a b : List (List Int)) : Bool := decide (a = b)

theorem between_any (x y : Int) (w : World) : Calls Try.prog 28 #[.int .i64 x, .int .i64 y] w fun e w' => e = .returned (.agg #[.int .i64 x, .int .i64 y]) ∧ Below w.heap.size w w' := by
  go_enter Try.func28, Try.ntmps28
  go_wp2
  exact bodyPost_ret (v := .agg #[.int .i64 x, .int .i64 y]) (by simp [results, Try.results28, go_sem]) rfl ⟨rfl, (Below.refl _ _).alloc (Nat.le_refl _) _⟩
end Go.Proofs.Ytoeabajigfdkaaa
/- The border package's small tests: within, inside, isCount, street, join. Conditions stand at each theorem. -/
namespace Go.Proofs.Ytoeabajigfdkaaa
open Go.RowKit Go.Shelf

set_option maxHeartbeats 400000 in
theorem bwithin_any (n lo hi : Int) (w : World) : Calls Try.prog 59 #[.int .i64 n, .int .i64 lo, .int .i64 hi] w fun e w' => e = .returned (.bool (inB n lo hi)) ∧ w = w' := by
  by_cases h1 : lo ≤ n
  · have hd : inB n lo hi = decide (n ≤ hi) := by simp [inB, h1]
    rw [hd]; clear hd
    go_enter Try.func59, Try.ntmps59
    go_wp2
    go_ret
    exact ⟨rfl, rfl⟩
  · have hd : inB n lo hi = false := by simp [inB, h1]
    rw [hd]; clear hd
    go_enter Try.func59, Try.ntmps59
    go_wp2
    go_ret
    exact ⟨rfl, rfl⟩
theorem bcount_any (n : Int) (w : World) : Calls Try.prog 58 #[.int .i64 n] w fun e w' => e = .returned (.bool (cntOk n)) ∧ w = w' := by
  go_enter Try.func58, Try.ntmps58
  go_wp2_with (go_at_call 59; refine (bwithin_any _ _ _ _).mono ?_; rintro e w' ⟨rfl, rfl⟩)
  go_ret
  exact ⟨rfl, rfl⟩
set_option maxHeartbeats 400000 in
theorem binside_any (lo hi top : Int) (w : World) : Calls Try.prog 91 #[.agg #[.int .i64 lo, .int .i64 hi], .int .i64 top] w fun e w' => e = .returned (.bool (rngOk lo hi top)) ∧ Below w.heap.size w w' := by
  by_cases h1 : 0 ≤ lo
  · by_cases h2 : lo ≤ hi
    · have hd : rngOk lo hi top = decide (hi ≤ top) := by simp [rngOk, h1, h2]
      rw [hd]; clear hd
      go_enter Try.func91, Try.ntmps91
      go_wp2
      go_ret
      exact ⟨rfl, below_box _ _⟩
    · have hd : rngOk lo hi top = false := by simp [rngOk, h2]
      rw [hd]; clear hd
      have h2 : decide (lo ≤ hi) = false := by simp; omega
      go_enter Try.func91, Try.ntmps91
      go_wp2
      go_ret
      exact ⟨rfl, below_box _ _⟩
  · have hd : rngOk lo hi top = false := by simp [rngOk, h1]
    rw [hd]; clear hd
    have h1 : decide (0 ≤ lo) = false := by simp; omega
    go_enter Try.func91, Try.ntmps91
    go_wp2
    go_ret
    exact ⟨rfl, below_box _ _⟩
set_option maxRecDepth 10000 in
set_option maxHeartbeats 1000000 in
theorem bstreet_any (m : MapD) (s : Stt) (A : Option Addr) (c : Nat) (A2 : Option Addr) (c2 : Nat) (v3 : Value) (w : World) (hl : m.old.length ≤ maxLen) (h1 : 1 ≤ m.nw) (h4 : m.nw ≤ 4) :
    Calls Try.prog 55 #[.agg #[.slice A m.old.length c, .int .i64 m.nw, .slice A2 m.ss.length c2, v3], .agg #[.int .i64 s.o, .int .i64 s.n, .int .i64 s.wt, .int .i64 s.lo, .int .i64 s.hi]] w fun e w' => e = .returned (.bool (sttOk m s)) ∧ Below w.heap.size w w' := by
  unfold maxLen at hl
  have hB := then_below (below_box (w := w) #[.slice A m.old.length c, .int .i64 m.nw, .slice A2 m.ss.length c2, v3] 34) (below_box #[.int .i64 s.o, .int .i64 s.n, .int .i64 s.wt, .int .i64 s.lo, .int .i64 s.hi] 89)
  have HB := hid hB
  clear hB
  cases k1 : inB s.o 0 ((m.old.length : Int) - 1)
  · have HR := hid (show sttOk m s = false by unfold sttOk; rw [k1]; rfl)
    have K1 := hid k1
    clear k1
    go_enter Try.func55, Try.ntmps55
    go_wp2_with fail
    refine (bwithin_any _ _ _ _).mono ?_
    rintro e w' ⟨rfl, rfl⟩
    rw [K1.out]
    go_wp2
    go_ret
    exact ⟨ret_bool HR.out.symm, HB.out⟩
  · cases k2 : inB s.n 0 (m.nw - 1)
    · have HR := hid (show sttOk m s = false by unfold sttOk; rw [k1, k2]; rfl)
      have K1 := hid (And.intro k1 k2)
      clear k1 k2
      go_enter Try.func55, Try.ntmps55
      go_wp2_with fail
      refine (bwithin_any _ _ _ _).mono ?_
      rintro e w' ⟨rfl, rfl⟩
      rw [K1.out.1]
      go_wp2_with fail
      refine (bwithin_any _ _ _ _).mono ?_
      rintro e w' ⟨rfl, rfl⟩
      rw [K1.out.2]
      go_wp2
      go_ret
      exact ⟨ret_bool HR.out.symm, HB.out⟩
    · cases k3 : inB s.wt 0 1000
      · have HR := hid (show sttOk m s = false by unfold sttOk; rw [k1, k2, k3]; rfl)
        have K1 := hid (And.intro k1 (And.intro k2 k3))
        clear k1 k2 k3
        go_enter Try.func55, Try.ntmps55
        go_wp2_with fail
        refine (bwithin_any _ _ _ _).mono ?_
        rintro e w' ⟨rfl, rfl⟩
        rw [K1.out.1]
        go_wp2_with fail
        refine (bwithin_any _ _ _ _).mono ?_
        rintro e w' ⟨rfl, rfl⟩
        rw [K1.out.2.1]
        go_wp2_with fail
        refine (bwithin_any _ _ _ _).mono ?_
        rintro e w' ⟨rfl, rfl⟩
        rw [K1.out.2.2]
        go_wp2
        go_ret
        exact ⟨ret_bool HR.out.symm, HB.out⟩
      · have HR := hid (show sttOk m s = rngOk s.lo s.hi 10000 by unfold sttOk; rw [k1, k2, k3]; rfl)
        have K1 := hid (And.intro k1 (And.intro k2 k3))
        clear k1 k2 k3
        go_enter Try.func55, Try.ntmps55
        go_wp2_with fail
        refine (bwithin_any _ _ _ _).mono ?_
        rintro e w' ⟨rfl, rfl⟩
        rw [K1.out.1]
        go_wp2_with fail
        refine (bwithin_any _ _ _ _).mono ?_
        rintro e w' ⟨rfl, rfl⟩
        rw [K1.out.2.1]
        go_wp2_with fail
        refine (bwithin_any _ _ _ _).mono ?_
        rintro e w' ⟨rfl, rfl⟩
        rw [K1.out.2.2]
        go_wp2_with fail
        refine (binside_any _ _ _ _).mono ?_
        rintro e w' ⟨rfl, hb⟩
        go_wp2
        go_ret
        exact ⟨ret_bool HR.out.symm, HB.out.trans (hb.mono HB.out.size)⟩
set_option maxRecDepth 10000 in
set_option maxHeartbeats 1000000 in
theorem bjoin_any (m : MapD) (j : Jn) (v0 v1 : Value) (A2 : Option Addr) (c2 : Nat) (v3 : Value) (w : World) (hl : m.ss.length ≤ maxLen) :
    Calls Try.prog 56 #[.agg #[v0, v1, .slice A2 m.ss.length c2, v3], .agg #[.int .i64 j.a, .int .i64 j.b]] w fun e w' => e = .returned (.bool (jnOk m j)) ∧ Below w.heap.size w w' := by
  unfold maxLen at hl
  have hB := then_below (below_box (w := w) #[v0, v1, .slice A2 m.ss.length c2, v3] 34) (below_box #[.int .i64 j.a, .int .i64 j.b] 90)
  have HB := hid hB
  clear hB
  cases k1 : inB j.a 0 ((m.ss.length : Int) - 1)
  · have HR := hid (show jnOk m j = false by unfold jnOk; rw [k1]; rfl)
    have K1 := hid k1
    clear k1
    go_enter Try.func56, Try.ntmps56
    go_wp2_with fail
    refine (bwithin_any _ _ _ _).mono ?_
    rintro e w' ⟨rfl, rfl⟩
    rw [K1.out]
    go_wp2
    go_ret
    exact ⟨ret_bool HR.out.symm, HB.out⟩
  · cases k2 : inB j.b 0 ((m.ss.length : Int) - 1)
    · have HR := hid (show jnOk m j = false by unfold jnOk; rw [k1, k2]; rfl)
      have K1 := hid (And.intro k1 k2)
      clear k1 k2
      go_enter Try.func56, Try.ntmps56
      go_wp2_with fail
      refine (bwithin_any _ _ _ _).mono ?_
      rintro e w' ⟨rfl, rfl⟩
      rw [K1.out.1]
      go_wp2_with fail
      refine (bwithin_any _ _ _ _).mono ?_
      rintro e w' ⟨rfl, rfl⟩
      rw [K1.out.2]
      go_wp2
      go_ret
      exact ⟨ret_bool HR.out.symm, HB.out⟩
    · have HR := hid (show jnOk m j = (j.a != j.b) by unfold jnOk; rw [k1, k2]; rfl)
      have K1 := hid (And.intro k1 k2)
      clear k1 k2
      go_enter Try.func56, Try.ntmps56
      go_wp2_with fail
      refine (bwithin_any _ _ _ _).mono ?_
      rintro e w' ⟨rfl, rfl⟩
      rw [K1.out.1]
      go_wp2_with fail
      refine (bwithin_any _ _ _ _).mono ?_
      rintro e w' ⟨rfl, rfl⟩
      rw [K1.out.2]
      go_wp2
      go_ret
      exact ⟨ret_bool HR.out.symm, HB.out⟩
end Go.Proofs.Ytoeabajigfdkaaa
/- The reference of layer 11: whether a number lies in a range. No condition. -/
namespace Go.Proofs.Ytoeabajigfdkaaa
open Go.RowKit Go.Shelf

theorem qin_any (n lo hi : Int) (w : World) : Calls Try.prog 39 #[.int .i64 n, .int .i64 lo, .int .i64 hi] w fun e w' => e = .returned (.bool (inB n lo hi)) ∧ w = w' := by
  by_cases h1 : lo ≤ n
  · have hd : inB n lo hi = decide (n ≤ hi) := by simp [inB, h1]
    go_enter Try.func39, Try.ntmps39
    go_wp2
    go_ret
    exact ⟨ret_bool hd.symm, rfl⟩
  · have hd : inB n lo hi = false := by simp [inB, h1]
    have hd1 : decide (lo ≤ n) = false := by simp; omega
    have HD := hid hd
    clear hd
    go_enter Try.func39, Try.ntmps39
    go_wp2
    go_ret
    exact ⟨ret_bool HD.out.symm, rfl⟩
end Go.Proofs.Ytoeabajigfdkaaa
