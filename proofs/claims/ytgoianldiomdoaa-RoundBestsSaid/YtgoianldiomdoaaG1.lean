/- The round package's small functions: what each computes, at every input that its callers give. Conditions stand at each theorem. -/
import Derived.Test.YtgoianldiomdoaaRows
import Derived.WalkKit
import Derived.WalkSpells
import Derived.WalkLawsBesides
import Derived.Deep.Quiet
import Derived.Deep.QuietTactic
import Derived.BigQuiet
import Derived.Laws.EntriesVeiled
import Derived.Shelf.Abstract
import Derived.StillTail
import Derived.OrdersIn
import Derived.TacticsIn
import Derived.RangeFuncNested
import Derived.RangeFuncCalls
import Derived.Maps.AppendAt
import Derived.Deep.AppendLies
/- Words for memory that these proofs use: slices that read as lists, worlds that have only grown, and a law for statements whose order is open. No condition. -/
namespace Go.Proofs.Ytgoianldiomdoaa
open Go.RowKit

theorem block_of_add (a : Addr) (n : Nat) : (a.add n).block = a.block := by unfold Addr.add; split <;> rfl
theorem add_zero_ (a : Addr) : a.add 0 = a := rfl
theorem add_next (a : Addr) (n m : Nat) (hm : m ≠ 0) : a.add (n + m) = ⟨(a.add n).block, (a.add n).off + m, none⟩ := by
  unfold Addr.add
  by_cases hn : n = 0
  · subst hn; simp [hm]
  · simp [hn, Nat.add_assoc]
theorem add_of_add (a : Addr) (i j : Nat) : (a.add i).add j = a.add (i + j) := by
  unfold Addr.add
  by_cases hi : i = 0 <;> by_cases hj : j = 0 <;> simp [hi, hj, Nat.add_assoc]

/-- the slice at A reads as the numbers xs, below block n -/
def IsInts (w : World) (n : Nat) (A : Option Addr) (xs : List Int) : Prop :=
  ∀ k x, xs[k]? = some x → ∃ a, A = some a ∧ a.block < n ∧ w.cell? (a.add k) = some (.int .i64 x)

def IsRows (w : World) (n : Nat) (A : Option Addr) (xss : List (List Int)) : Prop :=
  ∀ r xs, xss[r]? = some xs → ∃ a A' c, A = some a ∧ a.block < n ∧ w.cell? (a.add r) = some (.slice A' xs.length c) ∧ xs.length ≤ c ∧ c ≤ maxLen ∧ IsInts w n A' xs

structure Fx where
  row : Int
  col : Int
  val : Int

def IsFixes (w : World) (n : Nat) (A : Option Addr) (fs : List Fx) : Prop :=
  ∀ k f, fs[k]? = some f → ∃ a, A = some a ∧ a.block < n ∧ w.cell? (a.add (k * 3)) = some (.int .i64 f.row) ∧ w.cell? ⟨(a.add (k * 3)).block, (a.add (k * 3)).off + 1, none⟩ = some (.int .i64 f.col) ∧ w.cell? ⟨(a.add (k * 3)).block, (a.add (k * 3)).off + 2, none⟩ = some (.int .i64 f.val)

section
variable {w w' : World} {n m : Nat} {A : Option Addr}
theorem IsInts.below {xs : List Int} (h : IsInts w n A xs) (hb : Below n w w') : IsInts w' n A xs := fun k x hk => by
  obtain ⟨a, e, hl, hc⟩ := h k x hk
  exact ⟨a, e, hl, (hb.cell (by rw [block_of_add]; exact hl)).trans hc⟩
theorem IsInts.more {xs : List Int} (h : IsInts w n A xs) (hm : n ≤ m) : IsInts w m A xs := fun k x hk => by
  obtain ⟨a, e, hl, hc⟩ := h k x hk
  exact ⟨a, e, by omega, hc⟩
theorem IsRows.below {xss : List (List Int)} (h : IsRows w n A xss) (hb : Below n w w') : IsRows w' n A xss := fun k x hk => by
  obtain ⟨a, A', c, e, hl, hc, h1, h2, h3⟩ := h k x hk
  exact ⟨a, A', c, e, hl, (hb.cell (by rw [block_of_add]; exact hl)).trans hc, h1, h2, h3.below hb⟩
theorem IsRows.more {xss : List (List Int)} (h : IsRows w n A xss) (hm : n ≤ m) : IsRows w m A xss := fun k x hk => by
  obtain ⟨a, A', c, e, hl, hc, h1, h2, h3⟩ := h k x hk
  exact ⟨a, A', c, e, by omega, hc, h1, h2, h3.more hm⟩
theorem IsFixes.below {fs : List Fx} (h : IsFixes w n A fs) (hb : Below n w w') : IsFixes w' n A fs := fun k x hk => by
  obtain ⟨a, e, hl, h0, h1, h2⟩ := h k x hk
  exact ⟨a, e, hl, (hb.cell (by rw [block_of_add]; exact hl)).trans h0, (hb.cell (by show (a.add _).block < n; rw [block_of_add]; exact hl)).trans h1, (hb.cell (by show (a.add _).block < n; rw [block_of_add]; exact hl)).trans h2⟩
theorem IsFixes.more {fs : List Fx} (h : IsFixes w n A fs) (hm : n ≤ m) : IsFixes w m A fs := fun k x hk => by
  obtain ⟨a, e, hl, h0⟩ := h k x hk
  exact ⟨a, e, by omega, h0⟩
end

theorem IsInts.at_ {w w' : World} {A : Option Addr} {xs : List Int} (h : IsInts w w.heap.size A xs) (hb : Below w.heap.size w w') : IsInts w' w'.heap.size A xs := (h.below hb).more hb.size
theorem IsRows.at_ {w w' : World} {A : Option Addr} {xss : List (List Int)} (h : IsRows w w.heap.size A xss) (hb : Below w.heap.size w w') : IsRows w' w'.heap.size A xss := (h.below hb).more hb.size
theorem IsFixes.at_ {w w' : World} {A : Option Addr} {fs : List Fx} (h : IsFixes w w.heap.size A fs) (hb : Below w.heap.size w w') : IsFixes w' w'.heap.size A fs := (h.below hb).more hb.size

/-- old cells and marks read as before: two rules for the walk -/
theorem bcell {W w1 : World} (hb : Below W.heap.size W w1) : (∀ b o, b < W.heap.size → w1.cell? ⟨b, o, none⟩ = W.cell? ⟨b, o, none⟩) ∧ (∀ b o, b < W.heap.size → w1.frozen? ⟨b, o, none⟩ = W.frozen? ⟨b, o, none⟩) :=
  ⟨fun b o h => hb.cell (p := ⟨b, o, none⟩) h, fun b o h => hb.frozen (p := ⟨b, o, none⟩) h⟩

theorem ex_of {α : Type} {p q : α → Prop} (h : ∃ x, p x) (f : ∀ x, p x → q x) : ∃ x, q x := by
  obtain ⟨x, hx⟩ := h
  exact ⟨x, f x hx⟩
theorem or_of {p q r s : Prop} (h : p ∨ q) (f : p → r) (g : q → s) : r ∨ s := by
  rcases h with h | h
  · exact .inl (f h)
  · exact .inr (g h)
theorem ret_int {k : IntKind} {a b : Int} (h : a = b) : Ending.returned (.int k a) = .returned (.int k b) := by rw [h]

/-- w after some draws, with some blocks laid behind it -/
structure Xt where
  os : Array Obj
  d : Nat
theorem Calls.same_below {P : Program} {f : FuncId} {args : Array Value} {w : World} {v : Value}
    (h : Calls P f args w fun e w' => e = .returned v ∧ w = w') : Calls P f args w fun e w' => e = .returned v ∧ Below w.heap.size w w' :=
  h.mono fun _ _ ⟨he, hw⟩ => ⟨he, by rw [← hw]; exact Below.refl _ _⟩
instance : Inhabited Xt := ⟨⟨#[], 0⟩⟩
def xt (w : World) (x : Xt) : World := { w with heap := w.heap ++ x.os, drawn := x.d }
theorem below_xt (w : World) (x : Xt) : Below w.heap.size w (xt w x) :=
  ⟨rfl, rfl, rfl, by simp [xt], fun k hk => by simp [xt, Array.getElem?_append, hk]⟩
theorem xt_of_below {w w' : World} (h : Below w.heap.size w w') : ∃ x : Xt, w' = xt w x := by
  obtain ⟨heap', tape', drawn', os', out'⟩ := w'
  obtain ⟨h1, h2, h3, h4, h5⟩ := h
  simp only at h1 h2 h3 h4 h5
  refine ⟨⟨heap'.extract w.heap.size heap'.size, drawn'⟩, ?_⟩
  unfold xt
  subst h1 h2 h3
  congr 1
  apply Array.ext_getElem?
  intro i
  by_cases hi : i < w.heap.size
  · rw [Array.getElem?_append_left hi, h5 i hi]
  · rw [Array.getElem?_append_right (by omega), Array.getElem?_extract]
    by_cases hj : i < heap'.size
    · rw [if_pos (by omega)]; congr 1; omega
    · rw [if_neg (by omega), Array.getElem?_eq_none (by omega)]
theorem xt_of_xt {w w' : World} {x : Xt} (h : Below (xt w x).heap.size (xt w x) w') : ∃ y : Xt, w' = xt w y :=
  xt_of_below ((below_xt w x).trans (h.mono (below_xt w x).size))
theorem cell_xt {w : World} {b o : Nat} {v : Value} (h : w.cell? ⟨b, o, none⟩ = some v) (x : Xt) : (xt w x).cell? ⟨b, o, none⟩ = some v :=
  ((below_xt w x).cell (World.block_lt_of_cell? w ⟨b, o, none⟩ h)).trans h
theorem cell_xt_at {w : World} {a : Addr} {v : Value} (h : w.cell? a = some v) (x : Xt) : (xt w x).cell? a = some v :=
  ((below_xt w x).cell (World.block_lt_of_cell? w a h)).trans h

/-- a statement whose order is open, all of whose operations read, and whose calls only lay new blocks -/
theorem wp_region_quiet_xt {P : Program} {id : Nat} {Q : Exit → Act → World → Prop} {a : Act} {w : World} {l : List Oper} (hm : P.follows .mixedOrders = true) (hB : Region.lexB .any l.toArray = true)
    (h : wpQuiet P l.toArray (fun w' => ∃ x : Xt, w' = xt w x) (fun a' => ∀ w', (∃ x : Xt, w' = xt w x) → Q .normal a' w') l a) : (Code.region id l.toArray true).wp P Q a w :=
  wp_region_quiet (C := fun w' => ∃ x : Xt, w' = xt w x) hm hB ⟨⟨#[], w.drawn + 1⟩, by simp [xt]⟩ (by simpa using h)
theorem of_xt {w w' : World} (h : ∃ x : Xt, w' = xt w x) : Below w.heap.size w w' := by
  obtain ⟨x, rfl⟩ := h
  exact below_xt w x
theorem Calls.xt {P : Program} {f : FuncId} {args : Array Value} {w : World} {x : Xt} {v : Value}
    (h : Calls P f args (xt w x) fun e w' => e = .returned v ∧ Below (xt w x).heap.size (xt w x) w') : Calls P f args (xt w x) fun e w'' => e = .returned v ∧ ∃ y : Xt, w'' = xt w y :=
  h.mono fun _ _ ⟨he, hb⟩ => ⟨he, xt_of_xt hb⟩

/-- block g is just the cells cs of element type t -/
def Blk (w : World) (g : Nat) (t : TypeId) (cs : Array Value) : Prop := w.heap[g]? = some (.cells cs t (0, 0))
section
variable {w w' : World} {g : Nat} {t : TypeId} {cs : Array Value}
theorem Blk.lt (h : Blk w g t cs) : g < w.heap.size := by
  rcases Nat.lt_or_ge g w.heap.size with hlt | hge
  · exact hlt
  · unfold Blk at h; rw [Array.getElem?_eq_none hge] at h; cases h
theorem Blk.cell (h : Blk w g t cs) (i : Nat) : w.cell? ⟨g, i, none⟩ = cs[i]? := cell_of_row w g i cs t (0, 0) h
theorem Blk.frozen (h : Blk w g t cs) (i : Nat) : w.frozen? ⟨g, i, none⟩ = false := by
  unfold Blk at h
  simp [World.frozen?, h]
theorem Blk.new (w : World) (t : TypeId) (cs : Array Value) : Blk (w.alloc (.cells cs t)) w.heap.size t cs := heap_alloc_new w _
theorem Blk.drew (h : Blk w g t cs) : Blk w.drew g t cs := h
theorem Blk.alloc (h : Blk w g t cs) (o : Obj) : Blk (w.alloc o) g t cs := (Below.heap_alloc w o g h.lt).trans h
theorem Blk.set_ (h : Blk w g t cs) (i : Nat) (u : Value) : Blk (w.setCell ⟨g, i, none⟩ u) g t (cs.setIfInBounds i u) := by
  unfold Blk at h ⊢
  simp [World.setCell, Array.getElem?_modify, h]
theorem Blk.far (h : Blk w g t cs) {p : Addr} (hp : g ≠ p.block) (u : Value) : Blk (w.setCell p u) g t cs := (Below.heap_setCell w p u g hp).trans h
theorem Blk.below {B : Nat} (h : Blk w g t cs) (hb : Below B w w') (hg : g < B) : Blk w' g t cs := (hb.block g hg).trans h
theorem Blk.keep (h : Blk w g t cs) (hb : Below w.heap.size w w') : Blk w' g t cs := (hb.block g h.lt).trans h
theorem Blk.ne_ {g' : Nat} {t' : TypeId} {cs' : Array Value} (h : Blk w g t cs) (h' : Blk w g' t' cs') (hne : t ≠ t') : g ≠ g' := by
  rintro rfl
  unfold Blk at h h'
  rw [h] at h'
  injection h' with h'
  injection h' with _ ht
  exact hne ht
theorem Blk.c1 {x : Value} (h : Blk w g t #[x]) : w.cell? ⟨g, 0, none⟩ = some x := by rw [h.cell]; rfl
theorem Blk.c2 {x y : Value} (h : Blk w g t #[x, y]) : w.cell? ⟨g, 0, none⟩ = some x ∧ w.cell? ⟨g, 1, none⟩ = some y := ⟨by rw [h.cell]; rfl, by rw [h.cell]; rfl⟩
theorem Blk.c3 {x y z : Value} (h : Blk w g t #[x, y, z]) : w.cell? ⟨g, 0, none⟩ = some x ∧ w.cell? ⟨g, 1, none⟩ = some y ∧ w.cell? ⟨g, 2, none⟩ = some z := ⟨by rw [h.cell]; rfl, by rw [h.cell]; rfl, by rw [h.cell]; rfl⟩
theorem Blk.c4 {x y z u : Value} (h : Blk w g t #[x, y, z, u]) : w.cell? ⟨g, 0, none⟩ = some x ∧ w.cell? ⟨g, 1, none⟩ = some y ∧ w.cell? ⟨g, 2, none⟩ = some z ∧ w.cell? ⟨g, 3, none⟩ = some u := ⟨by rw [h.cell]; rfl, by rw [h.cell]; rfl, by rw [h.cell]; rfl, by rw [h.cell]; rfl⟩
theorem Blk.c5 {x y z u v : Value} (h : Blk w g t #[x, y, z, u, v]) : w.cell? ⟨g, 0, none⟩ = some x ∧ w.cell? ⟨g, 1, none⟩ = some y ∧ w.cell? ⟨g, 2, none⟩ = some z ∧ w.cell? ⟨g, 3, none⟩ = some u ∧ w.cell? ⟨g, 4, none⟩ = some v := ⟨by rw [h.cell]; rfl, by rw [h.cell]; rfl, by rw [h.cell]; rfl, by rw [h.cell]; rfl, by rw [h.cell]; rfl⟩
end
theorem xt_c1 {w : World} {g : Nat} {t : TypeId} {x : Value} (h : Blk w g t #[x]) : ∀ q, (xt w q).cell? ⟨g, 0, none⟩ = some x := fun q => (h.keep (below_xt w q)).c1
theorem xt_c3 {w : World} {g : Nat} {t : TypeId} {x y z : Value} (h : Blk w g t #[x, y, z]) : (∀ q, (xt w q).cell? ⟨g, 0, none⟩ = some x) ∧ (∀ q, (xt w q).cell? ⟨g, 1, none⟩ = some y) ∧ (∀ q, (xt w q).cell? ⟨g, 2, none⟩ = some z) :=
  ⟨fun q => (h.keep (below_xt w q)).c3.1, fun q => (h.keep (below_xt w q)).c3.2.1, fun q => (h.keep (below_xt w q)).c3.2.2⟩
theorem xt_c4 {w : World} {g : Nat} {t : TypeId} {x y z u : Value} (h : Blk w g t #[x, y, z, u]) : (∀ q, (xt w q).cell? ⟨g, 0, none⟩ = some x) ∧ (∀ q, (xt w q).cell? ⟨g, 1, none⟩ = some y) ∧ (∀ q, (xt w q).cell? ⟨g, 2, none⟩ = some z) ∧ (∀ q, (xt w q).cell? ⟨g, 3, none⟩ = some u) :=
  ⟨fun q => (h.keep (below_xt w q)).c4.1, fun q => (h.keep (below_xt w q)).c4.2.1, fun q => (h.keep (below_xt w q)).c4.2.2.1, fun q => (h.keep (below_xt w q)).c4.2.2.2⟩
theorem xt_c5 {w : World} {g : Nat} {t : TypeId} {x y z u v : Value} (h : Blk w g t #[x, y, z, u, v]) : (∀ q, (xt w q).cell? ⟨g, 0, none⟩ = some x) ∧ (∀ q, (xt w q).cell? ⟨g, 1, none⟩ = some y) ∧ (∀ q, (xt w q).cell? ⟨g, 2, none⟩ = some z) ∧ (∀ q, (xt w q).cell? ⟨g, 3, none⟩ = some u) ∧ (∀ q, (xt w q).cell? ⟨g, 4, none⟩ = some v) :=
  ⟨fun q => (h.keep (below_xt w q)).c5.1, fun q => (h.keep (below_xt w q)).c5.2.1, fun q => (h.keep (below_xt w q)).c5.2.2.1, fun q => (h.keep (below_xt w q)).c5.2.2.2.1, fun q => (h.keep (below_xt w q)).c5.2.2.2.2⟩
theorem xt_cell {w : World} {a : Addr} {v : Value} (h : w.cell? a = some v) : ∀ q, (xt w q).cell? a = some v := cell_xt_at h
theorem xt_size {w : World} : ∀ q, w.heap.size ≤ (xt w q).heap.size := fun q => (below_xt w q).size
/-- a world under a name of its own, with what is known of it -/
theorem gen {p : World → Prop} {w : World} (F : World → Prop) (hF : F w) (h : ∀ W, F W → p W) : p w := h w hF
theorem hid {p : Prop} (h : p) : Hid p := h
def colsOf (cs : List (List Int)) : Nat := match cs with | [] => 0 | x :: _ => x.length
end Go.Proofs.Ytgoianldiomdoaa
/- A law for a statement whose order is open, where calls hand back values that are known only by what they are good for: one walk of each operation, in whatever order. -/
namespace Go.Proofs.Ytgoianldiomdoaa
open Go.RowKit

def depsB (ops : Array Oper) : Bool := (List.range ops.size).all fun i => ((ops[i]?).map fun o => o.after.all fun e => !Region.binds .any e || decide (e.on < i)).getD true
def dstsB (ops : Array Oper) (n : Nat) : Bool := (List.range n).all fun i => (List.range n).all fun j => decide (i = j) || ((ops[i]?).bind (·.dst)).all fun d => ((ops[j]?).bind (·.dst)) != some d
/-- the order of the head is open, the tail's is not -/
def relB (ops : Array Oper) (n : Nat) : Bool :=
  depsB ops && dstsB ops n && decide (n < ops.size) && Region.sinkB .any ops n && Region.chainB .any ops n &&
  Region.seqB .any ops (ops.size - n) n (Array.replicate n true ++ Array.replicate (ops.size - n) false)

theorem put_getD_same {a : Act} {d : Tmp} {v : Value} (h : d < a.tmps.size) : (a.put (some d) v).tmps.getD d undef = v := by
  simp [Act.put, Array.getD, h]
theorem put_getD_other {a : Act} {d d' : Tmp} {v : Value} (h : d ≠ d') : (a.put (some d) v).tmps.getD d' undef = a.tmps.getD d' undef := by
  simp [Act.put, Array.getD_eq_getD_getElem?, Array.getElem?_setIfInBounds_ne h]
theorem put_size {a : Act} {d : Option Tmp} {v : Value} : (a.put d v).tmps.size = a.tmps.size := by
  cases d <;> simp [Act.put]
theorem put_defers {a : Act} {d : Option Tmp} {v : Value} : (a.put d v).defers = a.defers := by
  cases d <;> simp [Act.put]

/-- what is known when some operations of the head are over -/
structure Known (ops : Array Oper) (n : Nat) (R : Nat → Value → World → Prop) (St : World → World → Prop) (G : Array Bool → World → Prop) (a : Act) (w : World) (listed : Array Bool) (a' : Act) (W : World) : Prop where
  inv : HeadInv .any ops n listed
  st : St w W
  ph : G listed W
  defers : a'.defers = a.defers
  size : a'.tmps.size = a.tmps.size
  rest : ∀ d, (∀ i, i < n → (ops[i]?).bind (·.dst) ≠ some d) → a'.tmps.getD d undef = a.tmps.getD d undef
  rel : ∀ i, i < n → listed.getD i false = true → ∀ d, (ops[i]?).bind (·.dst) = some d → R i (a'.tmps.getD d undef) W

def unlistedOf (n : Nat) (listed : Array Bool) : List Nat := (List.range n).filter fun i => !listed.getD i false
theorem depsB_spec {ops : Array Oper} (h : depsB ops = true) {i : Nat} {o : Oper} (ho : ops[i]? = some o) {e : Edge} (he : e ∈ o.after) (hb : Region.binds .any e = true) : e.on < i := by
  have hi : i < ops.size := (Array.getElem?_eq_some_iff.1 ho).1
  have h1 := List.all_eq_true.1 h i (List.mem_range.2 hi)
  rw [ho] at h1
  simp only [Option.map_some, Option.getD_some] at h1
  have h2 := Array.all_eq_true'.1 h1 e he
  simpa [hb] using h2
theorem dstsB_spec {ops : Array Oper} {n : Nat} (h : dstsB ops n = true) {i j : Nat} (hi : i < n) (hj : j < n) (hij : i ≠ j) {d : Tmp} (hd : (ops[i]?).bind (·.dst) = some d) : (ops[j]?).bind (·.dst) ≠ some d := by
  have h1 := List.all_eq_true.1 (List.all_eq_true.1 h i (List.mem_range.2 hi)) j (List.mem_range.2 hj)
  rw [hd] at h1
  simpa [hij] using h1

theorem getD_set_eq {l : Array Bool} {i : Nat} (h : i < l.size) : (l.setIfInBounds i true).getD i false = true := by
  simp [Array.getD_eq_getD_getElem?, h]
theorem getD_set_oth {l : Array Bool} {i j : Nat} (h : i ≠ j) : (l.setIfInBounds i true).getD j false = l.getD j false := by
  simp [Array.getD_eq_getD_getElem?, Array.getElem?_setIfInBounds_ne h]

theorem wpAnyIn_of_seq {F : Fence} {m : Nat} {P : Program} {ops : Array Oper} {md : Region.Mode} {Q' : Exit → Act → World → Prop} : ∀ (l : List Oper) (k : Nat) (listed : Array Bool) (a : Act) (w : World), (∀ j, l[j]? = ops[k + j]?) →
    Region.seqB md ops l.length k listed = true → wpListIn F m P ops Q' l a w → wpAnyIn F m P md ops Q' l.length listed a w
  | [], _, _, _, _, _, hB, h => ⟨by simpa [Region.seqB] using hB, h⟩
  | o :: l, k, listed, a, w, hl, hB, h => by
    have h0 : ops[k]? = some o := by simpa using (hl 0).symm
    simp only [List.length_cons, Region.seqB, Bool.and_eq_true, decide_eq_true_eq] at hB
    refine ⟨fun h1 => (by rw [hB.1] at h1; cases h1), fun i hi => ?_⟩
    rw [hB.1] at hi
    have hik : i = k := by simpa using hi
    subst hik
    have hw : wpOpIn F m P ops Q' i (wpListIn F m P ops Q' l) a w := by unfold wpOpIn; simp only [h0]; exact h
    exact wpOpIn_mono (fun a' w' h' => wpAnyIn_of_seq l (i + 1) _ a' w' (fun j => by have := hl (j + 1); simpa [Nat.add_assoc, Nat.add_comm 1 j] using this) hB.2 h') hw

theorem wpAnyIn_rel {F : Fence} {m : Nat} {P : Program} {ops : Array Oper} {n : Nat} {Q : Exit → Act → World → Prop} {a : Act} {w : World} {R : Nat → Value → World → Prop} {St : World → World → Prop} {G : Array Bool → World → Prop}
    (hB : relB ops n = true) (hR : ∀ i v W W', St W W' → R i v W → R i v W') (hT : ∀ {A B C : World}, St A B → St B C → St A C)
    (hds : ∀ i, i < n → ∀ d, (ops[i]?).bind (·.dst) = some d → d < a.tmps.size)
    (hstep : ∀ i o (listed : Array Bool) (a' : Act) (W : World), i < n → ops[i]? = some o → listed.size = ops.size → listed.getD i false = false →
      (∀ j oj, ops[j]? = some oj → listed.getD j false = true → ∀ e ∈ oj.after, Region.binds .any e = true → listed.getD e.on false = true) →
      G listed W → St w W → a'.defers = a.defers → a'.tmps.size = a.tmps.size →
      (∀ d, (∀ i, i < n → (ops[i]?).bind (·.dst) ≠ some d) → a'.tmps.getD d undef = a.tmps.getD d undef) →
      (∀ j, (∃ e, e ∈ o.after ∧ Region.binds .any e = true ∧ e.on = j) → listed.getD j false = true ∧ ∀ d, (ops[j]?).bind (·.dst) = some d → R j (a'.tmps.getD d undef) W) →
      ∀ K : Act → World → Prop, (∀ v W', R i v W' → St W W' → G (listed.setIfInBounds i true) W' → K (a'.put o.dst v) W') → wpOpIn F m P ops Q i K a' W)
    (hend : ∀ (listed : Array Bool) (a' : Act) (W : World), (∀ i, i < n → listed.getD i false = true) → G listed W → St w W → a'.defers = a.defers → a'.tmps.size = a.tmps.size →
      (∀ d, (∀ i, i < n → (ops[i]?).bind (·.dst) ≠ some d) → a'.tmps.getD d undef = a.tmps.getD d undef) →
      (∀ i, i < n → ∀ d, (ops[i]?).bind (·.dst) = some d → R i (a'.tmps.getD d undef) W) → wpListIn F m P ops Q (ops.toList.drop n) a' W) :
    ∀ (f : Nat) (listed : Array Bool) (a' : Act) (W : World), (unlistedOf n listed).length = f → Known ops n R St G a w listed a' W → wpAnyIn F m P .any ops Q (f + (ops.size - n)) listed a' W := by
  simp only [relB, Bool.and_eq_true, decide_eq_true_eq] at hB
  obtain ⟨⟨⟨⟨⟨hdeps, hdst⟩, hn⟩, hs⟩, hc⟩, hseq⟩ := hB
  intro f
  induction f with
  | zero =>
    intro listed a' W hf hk
    have hnone : ∀ i, i < n → listed.getD i false = true := by
      intro i hi
      cases hl : listed.getD i false with
      | true => rfl
      | false =>
        have : i ∈ unlistedOf n listed := List.mem_filter.2 ⟨List.mem_range.2 hi, by simp [hl]⟩
        rw [List.eq_nil_of_length_eq_zero hf] at this
        cases this
    have hcan : listed = Array.replicate n true ++ Array.replicate (ops.size - n) false := by
      apply Array.ext
      · simp [hk.inv.size]; omega
      · intro i h1 h2
        by_cases hi : i < n
        · have := hnone i hi
          rw [Array.getElem_append_left (by simpa using hi)]
          simpa [Array.getD_eq_getD_getElem?, h1] using this
        · have := hk.inv.tail i (by omega) (by rw [← hk.inv.size]; exact h1)
          rw [Array.getElem_append_right (by simpa using hi)]
          simpa [Array.getD_eq_getD_getElem?, h1] using this
    have hl : (ops.toList.drop n).length = ops.size - n := by simp
    rw [Nat.zero_add, ← hl]
    refine wpAnyIn_of_seq (ops.toList.drop n) n listed a' W (fun j => by simp [List.getElem?_drop]) (by rw [hl, hcan]; exact hseq) ?_
    exact hend listed a' W hnone hk.ph hk.st hk.defers hk.size hk.rest (fun i hi d hd => hk.rel i hi (hnone i hi) d hd)
  | succ f ih =>
    intro listed a' W hf hk
    have hne : unlistedOf n listed ≠ [] := fun h => by rw [h] at hf; cases hf
    obtain ⟨i0, hi0⟩ := List.exists_mem_of_ne_nil _ hne
    have hi0n : i0 < n := List.mem_range.1 (List.mem_filter.1 hi0).1
    have hi0f : listed.getD i0 false = false := by simpa using (List.mem_filter.1 hi0).2
    have hhead : ∀ i ∈ Region.ready .any ops listed, i < n := by
      intro i hi
      rcases Nat.lt_or_ge i n with h | h
      · exact h
      · exact absurd hi (tail_waits hs hc hn hk.inv (n - i0) i0 rfl hi0n (getD_in (by rw [hk.inv.size]; omega) hi0f) i h)
    have hready : Region.ready .any ops listed ≠ [] := by
      have key : ∀ m i, i ≤ m → i < n → listed.getD i false = false → ∃ j, j ∈ Region.ready .any ops listed := by
        intro m
        induction m with
        | zero =>
          intro i hi hin hl
          obtain rfl : i = 0 := by omega
          have ho : ops[0]? = some (ops[0]'(by omega)) := Array.getElem?_eq_getElem _
          exact ⟨0, mem_ready.2 ⟨getD_in (by rw [hk.inv.size]; omega) hl, _, ho, fun e he hb => absurd (depsB_spec hdeps ho he hb) (Nat.not_lt_zero _)⟩⟩
        | succ m ihm =>
          intro i hi hin hl
          have ho : ops[i]? = some (ops[i]'(by omega)) := Array.getElem?_eq_getElem _
          by_cases hall : ∀ e ∈ (ops[i]'(by omega)).after, Region.binds .any e = true → listed.getD e.on false = true
          · exact ⟨i, mem_ready.2 ⟨getD_in (by rw [hk.inv.size]; omega) hl, _, ho, hall⟩⟩
          · simp only [Classical.not_forall] at hall
            obtain ⟨e, he, hb, hnl⟩ := hall
            have hlt := depsB_spec hdeps ho he hb
            exact ihm e.on (by omega) (by omega) (by simpa using hnl)
      obtain ⟨j, hj⟩ := key i0 i0 (Nat.le_refl _) hi0n hi0f
      exact List.ne_nil_of_mem hj
    rw [show f + 1 + (ops.size - n) = (f + (ops.size - n)) + 1 by omega]
    refine ⟨fun h => absurd h hready, fun i hi => ?_⟩
    have hin := hhead i hi
    obtain ⟨hlt, o, ho, hall⟩ := mem_ready.1 hi
    have hif : listed.getD i false = false := getD_both hlt
    refine hstep i o listed a' W hin ho hk.inv.size hif hk.inv.closed hk.ph hk.st hk.defers hk.size hk.rest (fun j ⟨e, he, hb, hj⟩ => by
      subst hj
      exact ⟨hall e he hb, fun d hd => hk.rel e.on (by have := depsB_spec hdeps ho he hb; omega) (hall e he hb) d hd⟩) _ ?_
    intro v W' hv hst hg
    refine ih _ _ _ ?_ ⟨hk.inv.set hi hin, hT hk.st hst, hg, by rw [put_defers]; exact hk.defers, by rw [put_size]; exact hk.size, fun d hd => ?_, fun j hj hl d hd => ?_⟩
    · have hsz : i < listed.size := by rw [hk.inv.size]; omega
      have : (unlistedOf n (listed.setIfInBounds i true)) = (unlistedOf n listed).filter (fun j => !(j == i)) := by
        unfold unlistedOf
        rw [List.filter_filter]
        apply List.filter_congr
        intro j _
        by_cases hji : j = i
        · subst hji; rw [getD_set_eq hsz]; simp
        · rw [getD_set_oth (fun h => hji h.symm)]; simp [hji]
      rw [this]
      have hnd : (unlistedOf n listed).Nodup := List.Nodup.sublist List.filter_sublist List.nodup_range
      have hmem : i ∈ unlistedOf n listed := List.mem_filter.2 ⟨List.mem_range.2 hin, by simp [hif]⟩
      have he : (unlistedOf n listed).filter (fun j => !(j == i)) = (unlistedOf n listed).erase i := by
        rw [hnd.erase_eq_filter]; rfl
      rw [he, List.length_erase_of_mem hmem, hf]; rfl
    · have hne' : o.dst ≠ some d := by
        have := hd i hin
        rw [ho] at this
        exact this
      cases hod : o.dst with
      | none => simpa [Act.put, hod] using hk.rest d hd
      | some d' =>
        rw [put_getD_other (by rintro rfl; exact hne' hod)]
        exact hk.rest d hd
    · by_cases hji : j = i
      · subst hji
        rw [ho] at hd
        have hod : o.dst = some d := hd
        rw [hod, put_getD_same (by rw [hk.size]; exact hds j hj d (by rw [ho]; exact hod))]
        exact hv
      · rw [getD_set_oth (fun h => hji h.symm)] at hl
        have hR' := hR j _ _ _ hst (hk.rel j hj hl d hd)
        cases hod : o.dst with
        | none => simpa [Act.put, hod] using hR'
        | some d' =>
          rw [put_getD_other (by
            rintro rfl
            exact dstsB_spec hdst hin hj (fun h => hji h.symm) (by rw [ho]; exact hod) hd)]
          exact hR'

/-- the law, at a statement: the head in whatever order, the tail in its order -/
theorem wpIn_region_rel {F : Fence} {m : Nat} {P : Program} {id : Nat} {Q : Exit → Act → World → Prop} {a : Act} {w : World} {l : List Oper} (n : Nat) (R : Nat → Value → World → Prop) (St : World → World → Prop) (G : Array Bool → World → Prop) (hm : P.follows .mixedOrders = true)
    (hB : relB l.toArray n = true) (hR : ∀ i v W W', St W W' → R i v W → R i v W') (hT : ∀ {A B C : World}, St A B → St B C → St A C) (h0 : St w { w with drawn := w.drawn + 1 }) (hG : G (Array.replicate l.length false) { w with drawn := w.drawn + 1 })
    (hds : (List.range n).all (fun i => (((l.toArray[i]?).bind (·.dst)).all fun d => decide (d < a.tmps.size))) = true)
    (hstep : ∀ i o (listed : Array Bool) (a' : Act) (W : World), i < n → l[i]? = some o → listed.size = l.length → listed.getD i false = false →
      (∀ j oj, l[j]? = some oj → listed.getD j false = true → ∀ e ∈ oj.after, Region.binds .any e = true → listed.getD e.on false = true) →
      G listed W → St w W → a'.defers = a.defers → a'.tmps.size = a.tmps.size →
      (∀ d, (∀ i, i < n → (l.toArray[i]?).bind (·.dst) ≠ some d) → a'.tmps.getD d undef = a.tmps.getD d undef) →
      (∀ j, (∃ e, e ∈ o.after ∧ Region.binds .any e = true ∧ e.on = j) → listed.getD j false = true ∧ ∀ d, (l.toArray[j]?).bind (·.dst) = some d → R j (a'.tmps.getD d undef) W) →
      ∀ K : Act → World → Prop, (∀ v W', R i v W' → St W W' → G (listed.setIfInBounds i true) W' → K (a'.put o.dst v) W') → wpOpIn F m P l.toArray Q i K a' W)
    (hend : ∀ (listed : Array Bool) (a' : Act) (W : World), (∀ i, i < n → listed.getD i false = true) → G listed W → St w W → a'.defers = a.defers → a'.tmps.size = a.tmps.size →
      (∀ d, (∀ i, i < n → (l.toArray[i]?).bind (·.dst) ≠ some d) → a'.tmps.getD d undef = a.tmps.getD d undef) →
      (∀ i, i < n → ∀ d, (l.toArray[i]?).bind (·.dst) = some d → R i (a'.tmps.getD d undef) W) → wpListIn F m P l.toArray Q (l.drop n) a' W) :
    (Code.region id l.toArray true).wpIn F m P Q a w := by
  refine wpIn_region_any hm ?_
  have hn : n < l.toArray.size := by
    simp only [relB, Bool.and_eq_true, decide_eq_true_eq] at hB
    exact hB.1.1.1.2
  have hu : (unlistedOf n (Array.replicate l.toArray.size false)).length = n := by
    have : unlistedOf n (Array.replicate l.toArray.size false) = List.range n := by
      unfold unlistedOf
      rw [List.filter_eq_self]
      intro i _
      rw [getD_replicate_false]; rfl
    rw [this, List.length_range]
  have hds' : ∀ i, i < n → ∀ d, (l.toArray[i]?).bind (·.dst) = some d → d < a.tmps.size := by
    intro i hi d hd
    have := List.all_eq_true.1 hds i (List.mem_range.2 hi)
    rw [hd] at this
    simpa using this
  have H := wpAnyIn_rel (F := F) (m := m) (P := P) (ops := l.toArray) (n := n) (Q := Q) (a := a) (w := w) (R := R) (St := St) (G := G) hB hR hT hds' (fun i o listed a' W hi ho hs h1 h2 => hstep i o listed a' W hi (by simpa using ho) (by simpa using hs) h1 (fun j oj hj => h2 j oj (by simpa using hj)))
    (fun listed a' W h0 h1 h2 h3 h4 h5 h6 => by simpa using hend listed a' W h0 h1 h2 h3 h4 h5 h6) n (Array.replicate l.toArray.size false) a { w with drawn := w.drawn + 1 } hu
    ⟨⟨by simp, fun j oj _ hl => (by rw [getD_replicate_false] at hl; cases hl), fun t _ ht => getD_in (by simpa using ht) (getD_replicate_false _ _)⟩, h0, by simpa using hG, rfl, rfl, fun _ _ => rfl, fun i _ hl => by rw [getD_replicate_false] at hl; cases hl⟩
  rwa [show n + (l.toArray.size - n) = l.toArray.size by omega] at H

/-- the fence that shuts nothing out, in a round or not -/
def FW (ro : Option Nat) : Fence := { Fence.wide with round := ro }
theorem FW_none : FW none = Fence.wide := rfl
theorem callsFW {P : Program} {f : FuncId} {args : Array Value} {w : World} {R : Ending → World → Prop} (ro : Option Nat) (n : Nat) (h : Calls P f args w R) : CallsIn (FW ro) n P f args w R :=
  (callsIn_wide (n := n)).2 h
theorem callsOf {P : Program} {f : FuncId} {args : Array Value} {w : World} {R : Ending → World → Prop} {ro : Option Nat} {n : Nat} (h : CallsIn (FW ro) n P f args w R) : Calls P f args w R :=
  (callsIn_wide (n := n)).1 h
theorem rowsFW {P : Program} {row : String} {args : Array Value} {w : World} {R : Value → World → Prop} (ro : Option Nat) (n : Nat) (h : Rows P row args w R) : RowsIn (FW ro) n P row args w R :=
  fun c cs _ => let ⟨v, w', r, s⟩ := h c cs; ⟨v, w', r, stepsIn_wide.2 s⟩

theorem opIn_of_op {P : Program} {o : Oper} {a : Act} {w : World} {K : Act → World → Prop} {Q : Exit → Act → World → Prop} (ro : Option Nat) (n : Nat) (hnd : ∀ c, o.op ≠ .defer c) (h : o.wp P a w K Q) : o.wpIn (FW ro) n P a w K Q := by
  refine ⟨fun _ _ => trivial, ?_⟩
  rw [Oper.semAt_eq _ _ _ hnd]
  unfold Oper.wp at h
  generalize (execOp a.eval o).run P w = r at *
  cases r with
  | ok x w' =>
    cases x <;> simp only [Oper.upon] at h <;> simp only [Oper.uponIn]
    case value => exact h
    case skip => exact h
    case defer => exact h
    case enter => exact ⟨fun hd => (by simp [FW, Fence.wide] at hd), callsFW ro _ h⟩
    case row => exact ⟨fun hd => (by simp [FW, Fence.wide] at hd), rowsFW ro _ h⟩
  | halt x w' => cases x <;> simp only [Oper.upon] at h <;> simp only [Oper.uponIn] <;> exact h

theorem wpOpIn_of_wpOp {P : Program} {ops : Array Oper} {i : Nat} {a : Act} {w : World} {K : Act → World → Prop} {Q Q' : Exit → Act → World → Prop} (ro : Option Nat) (n : Nat) (hnd : ∀ (j : Nat) (o : Oper) c, ops[j]? = some o → o.op ≠ .defer c)
    (hq : ∀ e a w, Q e a w → Q' e a w) (hno : ∀ a w, ¬ Q .outgrown a w) (h : wpOp P ops Q i K a w) : wpOpIn (FW ro) n P ops Q' i K a w := by
  unfold wpOp at h
  unfold wpOpIn
  cases ho : ops[i]? with
  | none => simp only [ho] at h; exact h
  | some o =>
    simp only [ho] at h
    dsimp only
    split
    · rename_i hw
      simp only [hw, if_true] at h
      rcases h with h | ⟨_, a', w', hq'⟩
      · have := opIn_of_op ro n (hnd i o · ho) h
        unfold Oper.wpIn at *
        refine ⟨this.1, ?_⟩
        have h2 := this.2
        generalize (o.semAt (FW ro).round a.eval).run P w = r at *
        cases r with
        | ok x w' =>
          cases x <;> simp only [Oper.uponIn] at h2 ⊢ <;>
            first
              | exact h2
              | exact ⟨h2.1, CallsIn.mono h2.2 (fun e w'' he => by cases e <;> first | exact he | exact hq _ _ _ he | exact absurd he (fun ⟨a, w, h⟩ => hno a w h))⟩
              | exact ⟨h2.1, RowsIn.mono h2.2 (fun _ _ he => he)⟩
              | exact ⟨h2.1, RoundIn.mono h2.2 (fun e w'' he => by cases e <;> first | exact he | exact hq _ _ _ he | exact absurd he (fun ⟨a, w, h⟩ => hno a w h))⟩
        | halt x w' => cases x <;> simp only [Oper.uponIn] at h2 ⊢ <;> first | exact h2 | exact hq _ _ _ h2
      · exact absurd hq' (hno a' w')
    · rename_i hw
      simp only [hw] at h
      exact ⟨fun _ _ => trivial, h⟩

theorem wpAnyIn_of_wpAny {P : Program} {ops : Array Oper} {md : Region.Mode} {Q Q' : Exit → Act → World → Prop} (ro : Option Nat) (n : Nat) (hnd : ∀ (j : Nat) (o : Oper) c, ops[j]? = some o → o.op ≠ .defer c)
    (hq : ∀ e a w, Q e a w → Q' e a w) (hno : ∀ a w, ¬ Q .outgrown a w) : ∀ (f : Nat) (listed : Array Bool) (a : Act) (w : World), wpAny P md ops Q f listed a w → wpAnyIn (FW ro) n P md ops Q' f listed a w
  | 0, _, _, _, h => ⟨h.1, hq _ _ _ h.2⟩
  | f + 1, _, _, _, h => ⟨fun h0 => hq _ _ _ (h.1 h0), fun i hi => wpOpIn_mono (fun a' w' h' => wpAnyIn_of_wpAny ro n hnd hq hno f _ a' w' h') (wpOpIn_of_wpOp ro n hnd hq hno (h.2 i hi))⟩

def noDefer (ops : List Oper) : Bool := ops.all fun o => match o.op with | .defer _ => false | _ => true
theorem noDefer_spec {l : List Oper} (h : noDefer l = true) : ∀ (j : Nat) (o : Oper) c, l.toArray[j]? = some o → o.op ≠ .defer c := by
  intro j o c hj hop
  have hm : o ∈ l := List.mem_of_getElem? (by simpa using hj)
  have := List.all_eq_true.1 h o hm
  rw [hop] at this
  cases this

/-- 'Q', at the normal end alone -/
def onlyNormal (Q : Exit → Act → World → Prop) : Exit → Act → World → Prop
  | .normal, a, w => Q .normal a w
  | _, _, _ => False

/-- a statement whose order is open, all of whose operations read, and whose calls only lay new blocks: in a round too -/
theorem wpIn_region_quiet_xt {P : Program} {id : Nat} {Q : Exit → Act → World → Prop} {a : Act} {w : World} {l : List Oper} (ro : Option Nat) (n : Nat) (hm : P.follows .mixedOrders = true) (hB : Region.lexB .any l.toArray = true) (hnd : noDefer l = true)
    (h : wpQuiet P l.toArray (fun w' => ∃ x : Xt, w' = xt w x) (fun a' => ∀ w', (∃ x : Xt, w' = xt w x) → Q .normal a' w') l a) : (Code.region id l.toArray true).wpIn (FW ro) n P Q a w := by
  have hB' := hB
  simp only [Region.lexB, Bool.and_eq_true] at hB
  refine wpIn_region_any hm (wpAnyIn_of_wpAny (Q := onlyNormal Q) ro n (noDefer_spec hnd) (fun e a w h => by cases e <;> first | exact h | exact h.elim) (fun _ _ h => h) _ _ _ _ ?_)
  refine wpAny_of_quiet (Q' := onlyNormal Q) (C := fun w' => ∃ x : Xt, w' = xt w x) (Q := fun a' => ∀ w', (∃ x : Xt, w' = xt w x) → Q .normal a' w') (fun _ w' hw' h => h w' hw') _ _ _ _ (show ∃ x : Xt, ({ w with drawn := w.drawn + 1 } : World) = xt w x from ⟨⟨#[], w.drawn + 1⟩, by simp [xt]⟩) ?_
  have := wpAnyQ_lex (C := fun w' => ∃ x : Xt, w' = xt w x) (md := .any) hB.1 l 0 (Array.replicate l.toArray.size false) a (by simp) (by simpa using hB.2) h
  simpa using this

/-- the operations of a statement one by one: in a round as anywhere -/
theorem wpListIn_of_wpList {P : Program} {ops : List Oper} {Q : Exit → Act → World → Prop} (ro : Option Nat) (n : Nat) : ∀ (l : List Oper) (a : Act) (w : World), noDefer l = true → wpList P ops.toArray (onlyNormal Q) l a w → wpListIn (FW ro) n P ops.toArray Q l a w
  | [], _, _, _, h => h
  | o :: l, a, w, hnd, h => by
    have hnd' : (∀ c, o.op ≠ .defer c) ∧ noDefer l = true := by
      simp only [noDefer, List.all_cons, Bool.and_eq_true] at hnd
      exact ⟨fun c hc => by rw [hc] at hnd; exact absurd hnd.1 (by simp), hnd.2⟩
    simp only [wpList] at h
    simp only [wpListIn]
    split
    · rename_i hw
      simp only [hw, if_true] at h
      rcases h with h | ⟨_, a', w', hq'⟩
      · have h1 := Oper.wp_mono (fun a' w' h' => wpListIn_of_wpList ro n l a' w' hnd'.2 h') h
        have := opIn_of_op ro n hnd'.1 h1
        unfold Oper.wpIn at *
        refine ⟨this.1, ?_⟩
        have h2 := this.2
        generalize (o.semAt (FW ro).round a.eval).run P w = r at *
        cases r with
        | ok x w' =>
          cases x <;> simp only [Oper.uponIn] at h2 ⊢ <;>
            first
              | exact h2
              | exact ⟨h2.1, CallsIn.mono h2.2 (fun e w'' he => by cases e <;> first | exact he | exact he.elim | exact absurd he (fun ⟨a, w, h⟩ => h))⟩
              | exact ⟨h2.1, RowsIn.mono h2.2 (fun _ _ he => he)⟩
              | exact ⟨h2.1, RoundIn.mono h2.2 (fun e w'' he => by cases e <;> first | exact he | exact he.elim | exact absurd he (fun ⟨a, w, h⟩ => h))⟩
        | halt x w' => cases x <;> simp only [Oper.uponIn] at h2 ⊢ <;> first | exact h2 | exact h2.elim
      · exact hq'.elim
    · rename_i hw
      simp only [hw] at h
      exact ⟨fun _ _ => trivial, wpListIn_of_wpList ro n l _ w hnd'.2 h⟩
theorem opStep {P : Program} {l : List Oper} {i : Nat} {o : Oper} {a : Act} {w : World} {K : Act → World → Prop} {Q : Exit → Act → World → Prop} (ro : Option Nat) (n : Nat) (ho : l[i]? = some o) (hw : Region.wanted o (yielded l.toArray a.tmps) = true) (hnd : ∀ c, o.op ≠ .defer c) (h : o.wp P a w K Q) :
    wpOpIn (FW ro) n P l.toArray Q i K a w := by
  have ho' : l.toArray[i]? = some o := by simpa using ho
  unfold wpOpIn
  rw [ho']
  dsimp only
  rw [if_pos hw]
  exact opIn_of_op ro n hnd h
theorem opSkip {P : Program} {l : List Oper} {i : Nat} {o : Oper} {a : Act} {w : World} {K : Act → World → Prop} {Q : Exit → Act → World → Prop} (ro : Option Nat) (n : Nat) (ho : l[i]? = some o) (hw : Region.wanted o (yielded l.toArray a.tmps) = false) (h : K (a.put o.dst undef) w) :
    wpOpIn (FW ro) n P l.toArray Q i K a w := by
  have ho' : l.toArray[i]? = some o := by simpa using ho
  unfold wpOpIn
  rw [ho']
  dsimp only
  rw [if_neg (by rw [hw]; exact Bool.false_ne_true)]
  exact ⟨fun _ _ => trivial, h⟩

/-- what is known where an operation of the head is about to run -/
structure At (l : List Oper) (n : Nat) (R : Nat → Value → World → Prop) (St : World → World → Prop) (G : Array Bool → World → Prop) (a : Act) (w : World) (i : Nat) (o : Oper) (listed : Array Bool) (a' : Act) (W : World) : Prop where
  lsize : listed.size = l.length
  new : listed.getD i false = false
  closed : ∀ j oj, l[j]? = some oj → listed.getD j false = true → ∀ e ∈ oj.after, Region.binds .any e = true → listed.getD e.on false = true
  ph : G listed W
  st : St w W
  defers : a'.defers = a.defers
  size : a'.tmps.size = a.tmps.size
  rest : ∀ d, (∀ i, i < n → (l.toArray[i]?).bind (·.dst) ≠ some d) → a'.tmps.getD d undef = a.tmps.getD d undef
  dep : ∀ j, (∃ e, e ∈ o.after ∧ Region.binds .any e = true ∧ e.on = j) → listed.getD j false = true ∧ ∀ d, (l.toArray[j]?).bind (·.dst) = some d → R j (a'.tmps.getD d undef) W

/-- what is known behind the head -/
structure Done (l : List Oper) (n : Nat) (R : Nat → Value → World → Prop) (St : World → World → Prop) (G : Array Bool → World → Prop) (a : Act) (w : World) (listed : Array Bool) (a' : Act) (W : World) : Prop where
  all : ∀ i, i < n → listed.getD i false = true
  ph : G listed W
  st : St w W
  defers : a'.defers = a.defers
  size : a'.tmps.size = a.tmps.size
  rest : ∀ d, (∀ i, i < n → (l.toArray[i]?).bind (·.dst) ≠ some d) → a'.tmps.getD d undef = a.tmps.getD d undef
  dep : ∀ i, i < n → ∀ d, (l.toArray[i]?).bind (·.dst) = some d → R i (a'.tmps.getD d undef) W

def edgeB (o : Oper) (j : Nat) : Bool := o.after.any fun e => Region.binds .any e && e.on == j
def dstB (l : List Oper) (j d : Nat) : Bool := (l.toArray[j]?).bind (·.dst) == some d
def parB (l : List Oper) (n d : Nat) : Bool := (List.range n).all fun i => (l.toArray[i]?).bind (·.dst) != some d
theorem parB_spec {l : List Oper} {n d : Nat} (h : parB l n d = true) : ∀ i, i < n → (l.toArray[i]?).bind (·.dst) ≠ some d := fun i hi => by
  have := List.all_eq_true.1 h i (List.mem_range.2 hi)
  simpa using this
theorem edgeB_spec {o : Oper} {j : Nat} (h : edgeB o j = true) : ∃ e, e ∈ o.after ∧ Region.binds .any e = true ∧ e.on = j := by
  unfold edgeB at h
  rw [Array.any_eq_true'] at h
  obtain ⟨e, he, h⟩ := h
  simp only [Bool.and_eq_true, beq_iff_eq] at h
  exact ⟨e, he, h.1, h.2⟩
section
variable {l : List Oper} {n : Nat} {R : Nat → Value → World → Prop} {St : World → World → Prop} {G : Array Bool → World → Prop} {a : Act} {w : World} {i : Nat} {o : Oper} {listed : Array Bool} {a' : Act} {W : World}
theorem At.val (h : At l n R St G a w i o listed a' W) (j d : Nat) (hj : edgeB o j = true) (hd : dstB l j d = true) : R j (a'.tmps.getD d undef) W := by
  refine (h.dep j (edgeB_spec hj)).2 d ?_
  simpa [dstB] using hd
theorem At.has (h : At l n R St G a w i o listed a' W) (j : Nat) (hj : edgeB o j = true) : listed.getD j false = true := (h.dep j (edgeB_spec hj)).1
theorem At.past (h : At l n R St G a w i o listed a' W) {j : Nat} (hl : listed.getD j false = true) (k : Nat) (hj : ((l[j]?).map fun o => edgeB o k).getD false = true) : listed.getD k false = true := by
  cases ho : l[j]? with
  | none => rw [ho] at hj; cases hj
  | some oj =>
    rw [ho] at hj
    obtain ⟨e, he, hb, hk⟩ := edgeB_spec (show edgeB oj k = true from hj)
    rw [← hk]
    exact h.closed j oj ho hl e he hb
theorem At.par (h : At l n R St G a w i o listed a' W) (d : Nat) (hd : parB l n d = true) : a'.tmps.getD d undef = a.tmps.getD d undef := h.rest d (parB_spec hd)
theorem Done.val (h : Done l n R St G a w listed a' W) (j d : Nat) (hj : decide (j < n) = true) (hd : dstB l j d = true) : R j (a'.tmps.getD d undef) W := by
  refine h.dep j (of_decide_eq_true hj) d ?_
  simpa [dstB] using hd
theorem Done.par (h : Done l n R St G a w listed a' W) (d : Nat) (hd : parB l n d = true) : a'.tmps.getD d undef = a.tmps.getD d undef := h.rest d (parB_spec hd)
end
def AllI (p : Nat → Oper → Prop) : Nat → List Oper → Prop
  | _, [] => True
  | k, o :: l => p k o ∧ AllI p (k + 1) l
theorem AllI.get {p : Nat → Oper → Prop} : ∀ {l : List Oper} {k i : Nat} {o : Oper}, AllI p k l → l[i]? = some o → p (k + i) o
  | [], _, _, _, _, h => by simp at h
  | o :: l, k, 0, _, h, he => by simp at he; subst he; exact h.1
  | o :: l, k, i + 1, _, h, he => by
    have := AllI.get h.2 (i := i) (by simpa using he)
    rwa [show k + 1 + i = k + (i + 1) by omega] at this

/-- the same law, spelt operation by operation -/
theorem wpIn_region_each {F : Fence} {m : Nat} {P : Program} {id : Nat} {Q : Exit → Act → World → Prop} {a : Act} {w : World} {l : List Oper} (n : Nat) (R : Nat → Value → World → Prop) (St : World → World → Prop) (G : Array Bool → World → Prop) (hm : P.follows .mixedOrders = true)
    (hB : relB l.toArray n = true) (hR : ∀ i v W W', St W W' → R i v W → R i v W') (hT : ∀ {A B C : World}, St A B → St B C → St A C) (h0 : St w { w with drawn := w.drawn + 1 }) (hG : G (Array.replicate l.length false) { w with drawn := w.drawn + 1 })
    (hds : (List.range n).all (fun i => (((l.toArray[i]?).bind (·.dst)).all fun d => decide (d < a.tmps.size))) = true)
    (hstep : AllI (fun i o => ∀ (listed : Array Bool) (a' : Act) (W : World), At l n R St G a w i o listed a' W →
      ∀ K : Act → World → Prop, (∀ v W', R i v W' → St W W' → G (listed.setIfInBounds i true) W' → K (a'.put o.dst v) W') → wpOpIn F m P l.toArray Q i K a' W) 0 (l.take n))
    (hend : ∀ (listed : Array Bool) (a' : Act) (W : World), Done l n R St G a w listed a' W → wpListIn F m P l.toArray Q (l.drop n) a' W) :
    (Code.region id l.toArray true).wpIn F m P Q a w := by
  refine wpIn_region_rel n R St G hm hB hR hT h0 hG hds ?_ ?_
  · intro i o listed a' W hi ho h1 h2 h3 h4 h5 h6 h7 h8 h9 K hK
    have := hstep.get (i := i) (o := o) (by rw [List.getElem?_take_of_lt hi]; exact ho)
    rw [Nat.zero_add] at this
    exact this listed a' W ⟨h1, h2, h3, h4, h5, h6, h7, h8, h9⟩ K hK
  · intro listed a' W h1 h2 h3 h4 h5 h6 h7
    exact hend listed a' W ⟨h1, h2, h3, h4, h5, h6, h7⟩
theorem yielded_val {l : List Oper} {a : Act} {j d : Nat} {b : Bool} (hd : dstB l j d = true) (hv : a.tmps.getD d undef = .bool b) : yielded l.toArray a.tmps j = some b := by
  have h1 : (l.toArray[j]?).bind (·.dst) = some d := by simpa [dstB] using hd
  unfold yielded
  rw [h1]
  simp only [Option.bind_some]
  rw [Array.getD_eq_getD_getElem?] at hv
  cases ht : a.tmps[d]? with
  | none => rw [ht] at hv; cases hv
  | some v => rw [ht] at hv; simp at hv; subst hv; rfl
theorem wanted_yes {l : List Oper} {o : Oper} {a : Act} {j d : Nat} {b : Bool} (hg : o.guard = some (j, b)) (hd : dstB l j d = true) (hv : a.tmps.getD d undef = .bool b) : Region.wanted o (yielded l.toArray a.tmps) = true := by
  unfold Region.wanted
  rw [hg]
  simp only [yielded_val hd hv]
  simp
theorem wanted_no {l : List Oper} {o : Oper} {a : Act} {j d : Nat} {b b' : Bool} (hg : o.guard = some (j, b)) (hd : dstB l j d = true) (hv : a.tmps.getD d undef = .bool b') (hb : (b' == b) = false) : Region.wanted o (yielded l.toArray a.tmps) = false := by
  unfold Region.wanted
  rw [hg]
  simp only [yielded_val hd hv]
  simpa using hb
/-- a call of the loop's body -/
theorem opYield {P : Program} {l : List Oper} {i : Nat} {o : Oper} {a : Act} {W : World} {K : Act → World → Prop} {Q : Exit → Act → World → Prop} {lp : Nat} {args : Array Value} {R : Ending → World → Prop} (ho : l[i]? = some o) (hw : Region.wanted o (yielded l.toArray a.tmps) = true) (hnd : ∀ c, o.op ≠ .defer c)
    (hrun : (execOp a.eval o).run P W = (Instr.yield lp args).run P W) (hy : YieldAt (FW none) 0 P lp args W R) (hR : ∀ e W', R e W' → ∃ v, e = .returned v ∧ K (a.put o.dst v) W') : wpOpIn (FW none) 0 P l.toArray Q i K a W := by
  have ho' : l.toArray[i]? = some o := by simpa using ho
  unfold wpOpIn
  rw [ho']
  dsimp only
  rw [if_pos hw]
  refine ⟨fun _ _ => trivial, ?_⟩
  rw [Oper.semAt_eq _ _ _ hnd, hrun]
  obtain ⟨fn, tmps, assign, body, hy, hr⟩ := hy
  rw [hy]
  refine ⟨fun hd => (by simp [FW, Fence.wide] at hd), hr.mono ?_⟩
  intro e W' he
  obtain ⟨v, rfl, hk⟩ := hR e W' he
  exact hk
/-- the operations behind the head, one by one -/
theorem tail_step {F : Fence} {m : Nat} {P : Program} {l : List Oper} {o : Oper} {rest : List Oper} {a : Act} {W : World} {Q : Exit → Act → World → Prop} {i : Nat} (hi : l[i]? = some o) (h : wpOpIn F m P l.toArray Q i (wpListIn F m P l.toArray Q rest) a W) : wpListIn F m P l.toArray Q (o :: rest) a W := by
  have ho' : l.toArray[i]? = some o := by simpa using hi
  unfold wpOpIn at h
  rw [ho'] at h
  exact h
theorem opValue {P : Program} {l : List Oper} {i : Nat} {o : Oper} {a : Act} {W W' : World} {K : Act → World → Prop} {Q : Exit → Act → World → Prop} {v : Value} (ro : Option Nat) (n : Nat) (ho : l[i]? = some o) (hw : Region.wanted o (yielded l.toArray a.tmps) = true) (hnd : ∀ c, o.op ≠ .defer c)
    (hrun : (execOp a.eval o).run P W = .ok (.value v) W') (hk : K (a.put o.dst v) W') : wpOpIn (FW ro) n P l.toArray Q i K a W := by
  refine opStep ro n ho hw hnd ?_
  unfold Oper.wp
  rw [hrun]
  exact hk
/-- one operation behind the head that hands back v -/
theorem tail_val {P : Program} {l : List Oper} {o : Oper} {rest : List Oper} {a : Act} {W W' : World} {Q : Exit → Act → World → Prop} {i d : Nat} {v : Value} (ro : Option Nat) (n : Nat) (hi : l[i]? = some o) (hd : o.dst = some d) (hw : Region.wanted o (yielded l.toArray a.tmps) = true) (hnd : ∀ c, o.op ≠ .defer c)
    (hrun : (execOp a.eval o).run P W = .ok (.value v) W') (hs : d < a.tmps.size)
    (h : ∀ a' : Act, a'.tmps.size = a.tmps.size → a'.defers = a.defers → a'.tmps.getD d undef = v → (∀ d', d' ≠ d → a'.tmps.getD d' undef = a.tmps.getD d' undef) → wpListIn (FW ro) n P l.toArray Q rest a' W') : wpListIn (FW ro) n P l.toArray Q (o :: rest) a W := by
  refine tail_step hi (opValue ro n hi hw hnd hrun ?_)
  rw [hd]
  exact h _ put_size put_defers (put_getD_same hs) (fun d' hd' => put_getD_other (fun e => hd' e.symm))
/-- an activation, slot by slot -/
theorem act_eq {a : Act} {n : Nat} (hs : a.tmps.size = n) (hd : a.defers = []) : a = { tmps := ((List.range n).map fun i => a.tmps.getD i undef).toArray, defers := [] } := by
  obtain ⟨t, d⟩ := a
  simp only at hs hd
  subst hd
  congr 1
  apply Array.ext
  · simp [hs]
  · intro i h1 h2
    simp [Array.getD, h1]
/-- one operation behind the head that hands back nothing -/
theorem tail_store {P : Program} {l : List Oper} {o : Oper} {rest : List Oper} {a : Act} {W W' : World} {Q : Exit → Act → World → Prop} {i : Nat} (ro : Option Nat) (n : Nat) (hi : l[i]? = some o) (hd : o.dst = none) (hw : Region.wanted o (yielded l.toArray a.tmps) = true) (hnd : ∀ c, o.op ≠ .defer c)
    (hrun : (execOp a.eval o).run P W = .ok .skip W') (h : wpListIn (FW ro) n P l.toArray Q rest a W') : wpListIn (FW ro) n P l.toArray Q (o :: rest) a W := by
  refine tail_step hi (opStep ro n hi hw hnd ?_)
  unfold Oper.wp
  rw [hrun]
  show wpListIn (FW ro) n P l.toArray Q rest (a.put o.dst undef) W'
  rw [hd]
  exact h
end Go.Proofs.Ytgoianldiomdoaa
/- The small functions of the package: what each returns, for every argument; none changes memory that was there. -/
namespace Go.Proofs.Ytgoianldiomdoaa
open Go.RowKit

def withinB (n lo hi : Int) : Bool := decide (lo ≤ n ∧ n ≤ hi)

set_option maxHeartbeats 400000 in
theorem within_any (n lo hi : Int) (w : World) : Calls Try.prog 62 #[.int .i64 n, .int .i64 lo, .int .i64 hi] w fun e w' => e = .returned (.bool (withinB n lo hi)) ∧ w = w' := by
  by_cases h1 : lo ≤ n
  · have hd : withinB n lo hi = decide (n ≤ hi) := by simp [withinB, h1]
    rw [hd]; clear hd
    go_enter Try.func62, Try.ntmps62
    go_wp2
    go_ret
    exact ⟨rfl, rfl⟩
  · have hd : withinB n lo hi = false := by simp [withinB, h1]
    rw [hd]; clear hd
    go_enter Try.func62, Try.ntmps62
    go_wp2
    go_ret
    exact ⟨rfl, rfl⟩

theorem isCell_any (n : Int) (w : World) : Calls Try.prog 61 #[.int .i64 n] w fun e w' => e = .returned (.bool (withinB n 0 10000)) ∧ w = w' := by
  go_enter Try.func61, Try.ntmps61
  go_wp2_with (go_at_call 62; refine (within_any _ _ _ _).mono ?_; rintro e w' ⟨rfl, rfl⟩)
  go_ret
  exact ⟨rfl, rfl⟩
theorem isNumber_any (n : Int) (w : World) : Calls Try.prog 59 #[.int .i64 n] w fun e w' => e = .returned (.bool (withinB n 0 10100)) ∧ w = w' := by
  go_enter Try.func59, Try.ntmps59
  go_wp2_with (go_at_call 62; refine (within_any _ _ _ _).mono ?_; rintro e w' ⟨rfl, rfl⟩)
  go_ret
  exact ⟨rfl, rfl⟩
theorem isBase_any (n : Int) (w : World) : Calls Try.prog 58 #[.int .i64 n] w fun e w' => e = .returned (.bool (withinB n 2 100)) ∧ w = w' := by
  go_enter Try.func58, Try.ntmps58
  go_wp2_with (go_at_call 62; refine (within_any _ _ _ _).mono ?_; rintro e w' ⟨rfl, rfl⟩)
  go_ret
  exact ⟨rfl, rfl⟩
theorem narrow_any (A : Option Addr) (n c : Nat) (w : World) : Calls Try.prog 78 #[.slice A n c] w fun e w' => e = .returned (.bool (decide (n ≤ 4))) ∧ w = w' := by
  go_enter Try.func78, Try.ntmps78
  go_wp2
  go_ret
  exact ⟨by congr 2; simp; omega, rfl⟩
theorem away_any (a b : Int) (w : World) (h1 : -1000000 ≤ a) (h2 : a ≤ 1000000) (h3 : -1000000 ≤ b) (h4 : b ≤ 1000000) : Calls Try.prog 92 #[.int .i64 a, .int .i64 b] w fun e w' => e = .returned (.int .i64 (max (a - b) (b - a))) ∧ w = w' := by
  go_enter Try.func92, Try.ntmps92
  go_wp2
  all_goals
    go_ret
    exact ⟨ret_int (by omega), rfl⟩

set_option maxHeartbeats 400000 in
theorem columns_any (b f : Value) (A : Option Addr) (c : Nat) (cs : List (List Int)) (w : World) (hc : IsRows w w.heap.size A cs) :
    Calls Try.prog 52 #[.agg #[b, .slice A cs.length c, f]] w fun e w' => e = .returned (.int .i64 (colsOf cs)) ∧ Below w.heap.size w w' := by
  match cs, hc with
  | [], hc =>
    go_enter Try.func52, Try.ntmps52
    go_wp2
    go_ret
    exact ⟨rfl, (Below.refl _ _).alloc (Nat.le_refl _) _⟩
  | x :: l, hc =>
    obtain ⟨a, A', c', rfl, hl, h0, h1, h2, h3⟩ := hc 0 x rfl
    rw [add_zero_] at h0
    go_enter Try.func52, Try.ntmps52
    go_wp2
    go_ret
    exact ⟨rfl, (Below.refl _ _).alloc (Nat.le_refl _) _⟩

def lowOf (b n : Int) : Int := n - n % b
def highOf (b n : Int) : Int := lowOf b (n + b - 1)

set_option maxHeartbeats 400000 in
theorem below_any (b n : Int) (c f : Value) (w : World) (hb : 2 ≤ b) (hb2 : b ≤ 100) (hn : 0 ≤ n) (hn2 : n ≤ 10000000) :
    Calls Try.prog 84 #[.agg #[.int .i64 b, c, f], .int .i64 n] w fun e w' => e = .returned (.int .i64 (lowOf b n)) ∧ Below w.heap.size w w' := by
  have h1 := Int.emod_nonneg n (show b ≠ 0 by omega)
  have h2 := Int.emod_lt_of_pos n (show 0 < b by omega)
  go_enter Try.func84, Try.ntmps84
  go_wp2
  go_ret
  exact ⟨rfl, (Below.refl _ _).alloc (Nat.le_refl _) _⟩

set_option maxHeartbeats 400000 in
theorem above_any (b n : Int) (c f : Value) (w : World) (hb : 2 ≤ b) (hb2 : b ≤ 100) (hn : 0 ≤ n) (hn2 : n ≤ 1000000) :
    Calls Try.prog 85 #[.agg #[.int .i64 b, c, f], .int .i64 n] w fun e w' => e = .returned (.int .i64 (highOf b n)) ∧ Below w.heap.size w w' := by
  go_enter Try.func85, Try.ntmps85
  go_wp2_with (go_at_call 84; refine (below_any b _ _ _ _ hb hb2 (by omega) (by omega)).mono ?_; rintro e w' ⟨rfl, hb1⟩)
  go_ret
  exact ⟨rfl, ((Below.refl _ _).alloc (Nat.le_refl _) _).trans (hb1.mono (by simp))⟩
end Go.Proofs.Ytgoianldiomdoaa
/- Sums and neighbours: what the package's helpers return. -/
namespace Go.Proofs.Ytgoianldiomdoaa
open Go.RowKit

set_option maxHeartbeats 400000 in
theorem sides_any (w : World) : Calls Try.prog 91 #[] w fun e w' => e = .returned (.agg #[.func (.func 84) #[] #[], .func (.func 85) #[] #[]]) ∧ Below w.heap.size w w' := by
  go_enter Try.func91, Try.ntmps91
  go_wp2
  exact bodyPost_ret (v := .agg #[.func (.func 84) #[] #[], .func (.func 85) #[] #[]]) (by simp [results, Try.results91, go_sem]) rfl ⟨rfl, (Below.refl _ _).alloc (Nat.le_refl _) _⟩

theorem take_succ_sum (xs : List Int) (k : Nat) (h : k < xs.length) : (xs.take (k + 1)).sum = (xs.take k).sum + xs[k] := by
  rw [List.take_succ_eq_append_getElem h, List.sum_append]; simp
theorem sum_take_bounds (M : Int) (hM : 0 ≤ M) (xs : List Int) (hx : ∀ x ∈ xs, 0 ≤ x ∧ x ≤ M) (k : Nat) : 0 ≤ (xs.take k).sum ∧ (xs.take k).sum ≤ k * M := by
  induction k with
  | zero => simp
  | succ k ih =>
    by_cases h : k < xs.length
    · rw [take_succ_sum xs k h]
      have := hx xs[k] (List.getElem_mem h)
      rw [Int.natCast_add, Int.add_mul]
      omega
    · have e1 : xs.take (k + 1) = xs := List.take_of_length_le (by omega)
      have e2 : xs.take k = xs := List.take_of_length_le (by omega)
      rw [e1, Int.natCast_add, Int.add_mul]
      rw [e2] at ih
      omega

set_option maxHeartbeats 400000 in
theorem total_any (A : Option Addr) (c : Nat) (xs : List Int) (w : World) (h : IsInts w w.heap.size A xs) (hl : xs.length ≤ 1000) (hx : ∀ x ∈ xs, 0 ≤ x ∧ x ≤ 1000000) :
    Calls Try.prog 63 #[.slice A xs.length c] w fun e w' => e = .returned (.int .i64 xs.sum) ∧ w = w' := by
  go_enter Try.func63, Try.ntmps63
  go_wp2
  go_loop [2, 7] (fun t i => ∃ k : Nat, k ≤ xs.length ∧ i = .int .i64 k ∧ t = .int .i64 (xs.take k).sum) (fun _ i => xs.length - (intOf i).toNat)
  case atStart => exact ⟨0, Nat.zero_le _, rfl, rfl⟩
  case round =>
    obtain ⟨k, hk, rfl, rfl⟩ := hrel
    by_cases hlt : k < xs.length
    · obtain ⟨a, rfl, hb, hc⟩ := h k xs[k] (List.getElem?_eq_getElem hlt)
      have hs := take_succ_sum xs k hlt
      obtain ⟨hb1, hb2⟩ := sum_take_bounds 1000000 (by omega) xs hx k
      obtain ⟨hb3, hb4⟩ := hx xs[k] (List.getElem_mem hlt)
      have HS := hid hs
      clear hs h hx
      go_wp2
      go_round
      case rel => exact ⟨k + 1, by omega, by go_num, by rw [HS.out]⟩
      case measure => simp [intOf]; omega
    · go_wp2
      go_ret
      exact ⟨ret_int (by rw [List.take_of_length_le (by omega)]), rfl⟩

def nearB (b n o : Int) : Bool := lowOf b o == n || highOf b o == n

theorem side0 (W : World) : (Instr.index 133 (.agg #[.func (.func 84) #[] #[], .func (.func 85) #[] #[]]) (.int .i64 0)).run Try.prog W = .ok (.agg #[.func (.func 84) #[] #[]]) W := by kernel_rfl
theorem side1 (W : World) : (Instr.index 133 (.agg #[.func (.func 84) #[] #[], .func (.func 85) #[] #[]]) (.int .i64 1)).run Try.prog W = .ok (.agg #[.func (.func 85) #[] #[]]) W := by kernel_rfl

set_option maxRecDepth 100000 in
set_option maxHeartbeats 1000000 in
theorem near_any (b n o : Int) (c f : Value) (w : World) (hb : 2 ≤ b) (hb2 : b ≤ 100) (hn : 0 ≤ o) (hn2 : o ≤ 1000000) :
    Calls Try.prog 70 #[.agg #[.int .i64 b, c, f], .int .i64 n, .int .i64 o] w fun e w' => e = .returned (.bool (nearB b n o)) ∧ Below w.heap.size w w' := by
  go_enter Try.func70, Try.ntmps70
  go_wp2_with (go_at_call 91; refine (sides_any _).mono ?_; rintro e w1 ⟨rfl, hb1⟩)
  have hz1 : w.heap.size + 1 ≤ w1.heap.size := by have := hb1.size; simp at this; omega
  have B3 : Blk w1 w.heap.size 33 #[.int .i64 b, c, f] := (Blk.new _ _ _).keep hb1
  go_wp2
  go_loopw [10] (fun i wr => Below w1.heap.size w1 wr ∧ (i = .int .i64 0 ∨ ((lowOf b o == n) = false ∧ i = .int .i64 1) ∨ ((lowOf b o == n) = false ∧ (highOf b o == n) = false ∧ i = .int .i64 2))) (fun i _ => (2 - intOf i).toNat)
  case atStart => exact ⟨Below.refl _ _, .inl rfl⟩
  case round =>
    obtain ⟨hbr, hk⟩ := hrel
    obtain ⟨c0, c1, c2⟩ := (B3.keep hbr).c3
    have hz2 : w.heap.size < wr.heap.size := by have := hbr.size; omega
    have hall : Below w.heap.size w wr := (((Below.refl _ _).alloc (Nat.le_refl _) _).trans (hb1.mono (by simp))).trans (hbr.mono (by omega))
    have hs := hbr.size
    rcases hk with rfl | ⟨hlow, rfl⟩ | ⟨hlow, hhigh, rfl⟩
    · have i0 := side0
      cases h : (lowOf b o == n)
      all_goals
        go_wp2_with (go_at_call 84; refine (below_any b o _ _ _ hb hb2 hn (by omega)).mono ?_; rintro e w2 ⟨rfl, hb2'⟩)
      · have hm := hb2'.mono (B' := w1.heap.size) (by simp; omega)
        go_roundw
        case rel => exact ⟨(hbr.alloc hs _).trans hm, .inr (.inl ⟨trivial, rfl⟩)⟩
        case measure => simp [intOf]
      · have hm := hb2'.mono (B' := w.heap.size) (by simp; omega)
        go_ret
        exact ⟨by simp [nearB, h], (hall.alloc (by omega) _).trans hm⟩
    · have i1 := side1
      cases h : (highOf b o == n)
      all_goals
        go_wp2_with (go_at_call 85; refine (above_any b o _ _ _ hb hb2 hn (by omega)).mono ?_; rintro e w2 ⟨rfl, hb2'⟩)
      · have hm := hb2'.mono (B' := w1.heap.size) (by simp; omega)
        go_roundw
        case rel => exact ⟨(hbr.alloc hs _).trans hm, .inr (.inr ⟨hlow, trivial, rfl⟩)⟩
        case measure => simp [intOf]
      · have hm := hb2'.mono (B' := w.heap.size) (by simp; omega)
        go_ret
        exact ⟨by simp [nearB, h], (hall.alloc (by omega) _).trans hm⟩
    · go_wp2
      go_ret
      exact ⟨by simp [nearB, hlow, hhigh], hall⟩
end Go.Proofs.Ytgoianldiomdoaa
/- Sums of columns: adding a row to the sums, for every row of at most four numbers. -/
namespace Go.Proofs.Ytgoianldiomdoaa
open Go.RowKit

/-- the sums of four columns -/
structure S4 where
  a : Int
  b : Int
  c : Int
  d : Int
def plusS (s : S4) (xs : List Int) : S4 := ⟨s.a + xs.getD 0 0, s.b + xs.getD 1 0, s.c + xs.getD 2 0, s.d + xs.getD 3 0⟩
/-- what a column has got when k numbers are added -/
def got (xs : List Int) (k i : Nat) : Int := if i < k then xs.getD i 0 else 0
theorem got_zero (xs : List Int) (i : Nat) : got xs 0 i = 0 := by simp [got]
theorem got_all (xs : List Int) (i : Nat) : got xs xs.length i = xs.getD i 0 := by
  unfold got
  by_cases h : i < xs.length
  · rw [if_pos h]
  · rw [if_neg h]; simp [List.getD, List.getElem?_eq_none (show xs.length ≤ i by omega)]
theorem got_same (xs : List Int) (k i : Nat) (h : i ≠ k) : got xs (k + 1) i = got xs k i := by
  unfold got
  by_cases h1 : i < k
  · rw [if_pos h1, if_pos (by omega)]
  · rw [if_neg h1, if_neg (by omega)]
theorem got_new (xs : List Int) (k : Nat) : got xs (k + 1) k = xs.getD k 0 ∧ got xs k k = 0 := by simp [got]

def Small (M : Int) (s : S4) : Prop := (0 ≤ s.a ∧ s.a ≤ M) ∧ (0 ≤ s.b ∧ s.b ≤ M) ∧ (0 ≤ s.c ∧ s.c ≤ M) ∧ (0 ≤ s.d ∧ s.d ≤ M)
theorem getD_small {M : Int} (hM : 0 ≤ M) {xs : List Int} (hx : ∀ x ∈ xs, 0 ≤ x ∧ x ≤ M) (i : Nat) : 0 ≤ xs.getD i 0 ∧ xs.getD i 0 ≤ M := by
  by_cases h : i < xs.length
  · have := hx xs[i] (List.getElem_mem h)
    simpa [List.getD, List.getElem?_eq_getElem h] using this
  · simp [List.getD, List.getElem?_eq_none (show xs.length ≤ i by omega), hM]
theorem got_small {M : Int} (hM : 0 ≤ M) {xs : List Int} (hx : ∀ x ∈ xs, 0 ≤ x ∧ x ≤ M) (k i : Nat) : 0 ≤ got xs k i ∧ got xs k i ≤ M := by
  unfold got
  split
  · exact getD_small hM hx i
  · omega

def comp (s : S4) : Nat → Int
  | 0 => s.a
  | 1 => s.b
  | 2 => s.c
  | _ => s.d
def cellsK (s : S4) (xs : List Int) (k : Nat) : Array Value := #[.int .i64 (s.a + got xs k 0), .int .i64 (s.b + got xs k 1), .int .i64 (s.c + got xs k 2), .int .i64 (s.d + got xs k 3)]
theorem cellsK_get (s : S4) (xs : List Int) (k : Nat) (h : k < 4) : (cellsK s xs k)[k]? = some (.int .i64 (comp s k)) := by
  have hk4 : k = 0 ∨ k = 1 ∨ k = 2 ∨ k = 3 := by omega
  rcases hk4 with rfl | rfl | rfl | rfl <;> simp [cellsK, comp, got]
theorem cellsK_set (s : S4) (xs : List Int) (k : Nat) (h : k < 4) (hl : k < xs.length) : (cellsK s xs k).setIfInBounds k (.int .i64 (comp s k + xs[k])) = cellsK s xs (k + 1) := by
  have hg : xs[k] = xs.getD k 0 := by simp [List.getD, List.getElem?_eq_getElem hl]
  rw [hg]
  have hk4 : k = 0 ∨ k = 1 ∨ k = 2 ∨ k = 3 := by omega
  rcases hk4 with rfl | rfl | rfl | rfl <;> simp [cellsK, comp, got]
theorem comp_small {M : Int} {s : S4} (hs : Small M s) (k : Nat) : 0 ≤ comp s k ∧ comp s k ≤ M := by
  obtain ⟨h1, h2, h3, h4⟩ := hs
  match k with
  | 0 => exact h1
  | 1 => exact h2
  | 2 => exact h3
  | _ + 3 => exact h4

set_option maxRecDepth 100000 in
set_option maxHeartbeats 1000000 in
theorem plus_any (s : S4) (A : Option Addr) (c : Nat) (xs : List Int) (w : World) (hs : Small 1000000 s) (h : IsInts w w.heap.size A xs) (hl : xs.length ≤ 4) (hx : ∀ x ∈ xs, 0 ≤ x ∧ x ≤ 1000000) :
    Calls Try.prog 50 #[.agg #[.int .i64 s.a, .int .i64 s.b, .int .i64 s.c, .int .i64 s.d], .slice A xs.length c] w fun e w' =>
      e = .returned (.agg #[.int .i64 (plusS s xs).a, .int .i64 (plusS s xs).b, .int .i64 (plusS s xs).c, .int .i64 (plusS s xs).d]) ∧ Below w.heap.size w w' := by
  go_enter Try.func50, Try.ntmps50
  go_wp2
  go_loopw [9] (fun i wr => ∃ k : Nat, k ≤ xs.length ∧ i = .int .i64 k ∧ Below w.heap.size w wr ∧
      Blk wr w.heap.size 87 (cellsK s xs k) ∧
      Blk wr (w.heap.size + 1) 87 #[.int .i64 0, .int .i64 0, .int .i64 0, .int .i64 0]) (fun i _ => xs.length - (intOf i).toNat)
  case atStart =>
    refine ⟨0, Nat.zero_le _, rfl, ((Below.refl _ _).alloc (Nat.le_refl _) _).alloc (by simp) _, ?_, ?_⟩
    · simp only [cellsK, got_zero, Int.add_zero]
      exact (Blk.new _ _ _).alloc _
    · have := Blk.new (w.alloc (.cells #[.int .i64 s.a, .int .i64 s.b, .int .i64 s.c, .int .i64 s.d] 87)) 87 #[.int .i64 0, .int .i64 0, .int .i64 0, .int .i64 0]
      rwa [World.size_alloc] at this
  case round =>
    obtain ⟨k, hk, rfl, hbr, hB1, hB2⟩ := hrel
    by_cases hlt : k < xs.length
    · obtain ⟨a, rfl, hb, hc⟩ := h.below hbr k xs[k] (List.getElem?_eq_getElem hlt)
      have hk4 : k < 4 := by omega
      have hf := hB1.frozen k
      have hcK := (hB1.cell k).trans (cellsK_get s xs k hk4)
      obtain ⟨hx1, hx2⟩ := hx xs[k] (List.getElem_mem hlt)
      obtain ⟨hg1, hg2⟩ := comp_small hs k
      have H1 := hid hB1
      clear hs h hx hB1
      go_wp2
      go_roundw
      case rel =>
        refine ⟨k + 1, by omega, by go_num, hbr.setCell (by simp) _, ?_, hB2.far (by simp) _⟩
        rw [← cellsK_set s xs k hk4 hlt]
        exact H1.out.set_ k _
      case measure => simp [intOf]; omega
    · obtain rfl : k = xs.length := by omega
      have hB1' : Blk wr w.heap.size 87 #[.int .i64 (plusS s xs).a, .int .i64 (plusS s xs).b, .int .i64 (plusS s xs).c, .int .i64 (plusS s xs).d] := by
        have : cellsK s xs xs.length = #[.int .i64 (plusS s xs).a, .int .i64 (plusS s xs).b, .int .i64 (plusS s xs).c, .int .i64 (plusS s xs).d] := by simp only [cellsK, plusS, got_all]
        rwa [this] at hB1
      obtain ⟨c0, c1, c2, c3⟩ := hB1'.c4
      obtain ⟨d0, d1, d2, d3⟩ := hB2.c4
      have hf := hB2.frozen
      clear h hx hB1 hB1' hB2
      go_wp2
      exact bodyPost_ret (v := .agg #[.int .i64 (plusS s xs).a, .int .i64 (plusS s xs).b, .int .i64 (plusS s xs).c, .int .i64 (plusS s xs).d]) (by simp [results, Try.results50, go_sem, d0, d1, d2, d3]) rfl ⟨rfl, (((hbr.setCell (by simp) _).setCell (by simp) _).setCell (by simp) _).setCell (by simp) _⟩

theorem Small.mono {M N : Int} {s : S4} (h : Small M s) (hMN : M ≤ N) : Small N s := by
  obtain ⟨⟨a1, a2⟩, ⟨a3, a4⟩, ⟨a5, a6⟩, ⟨a7, a8⟩⟩ := h
  exact ⟨⟨a1, by omega⟩, ⟨a3, by omega⟩, ⟨a5, by omega⟩, ⟨a7, by omega⟩⟩

/-- the sums of all rows -/
def addedS (rows : List (List Int)) : S4 := rows.foldl plusS ⟨0, 0, 0, 0⟩
theorem added_succ (rows : List (List Int)) (k : Nat) (h : k < rows.length) : addedS (rows.take (k + 1)) = plusS (addedS (rows.take k)) rows[k] := by
  unfold addedS
  rw [List.take_succ_eq_append_getElem h, List.foldl_append]; rfl
theorem added_small (rows : List (List Int)) (hx : ∀ r ∈ rows, ∀ x ∈ r, 0 ≤ x ∧ x ≤ 10100) (k : Nat) (hk : k ≤ rows.length) : Small (k * 10100) (addedS (rows.take k)) := by
  induction k with
  | zero => exact ⟨⟨Int.le_refl _, by simp [addedS]⟩, ⟨Int.le_refl _, by simp [addedS]⟩, ⟨Int.le_refl _, by simp [addedS]⟩, ⟨Int.le_refl _, by simp [addedS]⟩⟩
  | succ k ih =>
    obtain ⟨⟨a1, a2⟩, ⟨a3, a4⟩, ⟨a5, a6⟩, ⟨a7, a8⟩⟩ := ih (by omega)
    rw [added_succ rows k (by omega)]
    have hr := hx rows[k] (List.getElem_mem _)
    obtain ⟨b1, b2⟩ := getD_small (by omega) hr 0
    obtain ⟨b3, b4⟩ := getD_small (by omega) hr 1
    obtain ⟨b5, b6⟩ := getD_small (by omega) hr 2
    obtain ⟨b7, b8⟩ := getD_small (by omega) hr 3
    refine ⟨⟨?_, ?_⟩, ⟨?_, ?_⟩, ⟨?_, ?_⟩, ⟨?_, ?_⟩⟩ <;> simp only [plusS] <;> omega

set_option maxRecDepth 100000 in
set_option maxHeartbeats 1000000 in
theorem added_any (A : Option Addr) (c : Nat) (rows : List (List Int)) (w : World) (h : IsRows w w.heap.size A rows) (hn : rows.length ≤ 8) (hl : ∀ r ∈ rows, r.length ≤ 4) (hx : ∀ r ∈ rows, ∀ x ∈ r, 0 ≤ x ∧ x ≤ 10100) :
    Calls Try.prog 73 #[.slice A rows.length c] w fun e w' =>
      e = .returned (.agg #[.int .i64 (addedS rows).a, .int .i64 (addedS rows).b, .int .i64 (addedS rows).c, .int .i64 (addedS rows).d]) ∧ Below w.heap.size w w' := by
  go_enter Try.func73, Try.ntmps73
  go_wp2
  go_loopw [7] (fun i wr => ∃ k : Nat, k ≤ rows.length ∧ i = .int .i64 k ∧ Below w.heap.size w wr ∧
      ∃ s, s = addedS (rows.take k) ∧ Blk wr w.heap.size 87 #[.int .i64 s.a, .int .i64 s.b, .int .i64 s.c, .int .i64 s.d]) (fun i _ => rows.length - (intOf i).toNat)
  case atStart =>
    exact ⟨0, Nat.zero_le _, rfl, (Below.refl _ _).alloc (Nat.le_refl _) _, ⟨0, 0, 0, 0⟩, rfl, Blk.new _ _ _⟩
  case round =>
    obtain ⟨k, hk, rfl, hbr, s, hs, hB⟩ := hrel
    obtain ⟨c0, c1, c2, c3⟩ := hB.c4
    have hf := hB.frozen
    have HS := hid hs
    have HB := hid hB
    by_cases hlt : k < rows.length
    · have hsm := added_small rows hx k hk
      rw [← hs] at hsm
      obtain ⟨a, A', c', rfl, hb, hc, h1, h2, h3⟩ := h.below hbr k rows[k] (List.getElem?_eq_getElem hlt)
      have h4 := hl rows[k] (List.getElem_mem hlt)
      have h5 := hx rows[k] (List.getElem_mem hlt)
      have HM := hid hsm
      have hsz := hbr.size
      have H3 := hid h3
      have H5 := hid h5
      clear hs hB h hx hl hsm h3 h5
      go_wp2_with fail
      refine (plus_any s A' c' rows[k] wr (HM.out.mono (by omega)) (H3.out.more hsz) h4 (fun x hm => ⟨(H5.out x hm).1, by have := (H5.out x hm).2; omega⟩)).mono ?_
      rintro e w2 ⟨rfl, hb2⟩
      have HB2 := HB.out.keep hb2
      have hf2 := HB2.frozen
      have HB3 := hid HB2
      clear hf HB HB2
      obtain ⟨d0, d1, d2, d3⟩ := HB3.out.c4
      generalize hq : plusS s rows[k] = q
      have HQ := hid hq
      clear hq c0 c1 c2 c3
      go_wp2
      go_roundw
      case rel =>
        refine ⟨k + 1, by omega, by go_num, ?_, q, ?_, ?_⟩
        · exact ((((hbr.trans (hb2.mono hsz)).setCell (by simp) _).setCell (by simp) _).setCell (by simp) _).setCell (by simp) _
        · rw [added_succ rows k hlt, ← HS.out, HQ.out]
        · exact (((HB3.out.set_ 0 _).set_ 1 _).set_ 2 _).set_ 3 _
      case measure => simp [intOf]; omega
    · obtain rfl : k = rows.length := by omega
      rw [List.take_length] at hs
      clear h hl hx HS HB hB
      subst hs
      go_wp2
      exact bodyPost_ret (v := .agg #[.int .i64 (addedS rows).a, .int .i64 (addedS rows).b, .int .i64 (addedS rows).c, .int .i64 (addedS rows).d]) (by simp [results, Try.results73, go_sem, c0, c1, c2, c3]) rfl ⟨rfl, (((hbr.setCell (by simp) _).setCell (by simp) _).setCell (by simp) _).setCell (by simp) _⟩
end Go.Proofs.Ytgoianldiomdoaa
/- closes: whether sums of columns, and their total, are neighbours of those of a table: for every valid table. -/
namespace Go.Proofs.Ytgoianldiomdoaa
open Go.RowKit

/-- what the proofs below ask of a table: it is one that CheckTable lets by, but for its fixes -/
structure Okc (b : Int) (cs : List (List Int)) : Prop where
  b1 : 2 ≤ b
  b2 : b ≤ 100
  n1 : 1 ≤ cs.length
  n2 : cs.length ≤ 5
  c1 : 1 ≤ colsOf cs
  c2 : colsOf cs ≤ 4
  row : ∀ r ∈ cs, r.length = colsOf cs
  cell : ∀ r ∈ cs, ∀ x ∈ r, 0 ≤ x ∧ x ≤ 10000

def sumS (s : S4) : Int := [s.a, s.b, s.c, s.d].sum
theorem sumS_small {M : Int} {s : S4} (h : Small M s) : (0 ≤ sumS s ∧ sumS s ≤ 4 * M) ∧ ∀ x ∈ [s.a, s.b, s.c, s.d], 0 ≤ x ∧ x ≤ M := by
  obtain ⟨⟨a1, a2⟩, ⟨a3, a4⟩, ⟨a5, a6⟩, ⟨a7, a8⟩⟩ := h
  refine ⟨⟨by simp [sumS]; omega, by simp [sumS]; omega⟩, fun x hx => ?_⟩
  simp at hx
  rcases hx with rfl | rfl | rfl | rfl <;> omega
def closesTo (b : Int) (cs : List (List Int)) (s : S4) (k : Nat) : Bool := (List.range k).all fun c => nearB b (comp s c) (comp (addedS cs) c)
def closesB (b : Int) (cs : List (List Int)) (s : S4) : Bool := closesTo b cs s (colsOf cs) && nearB b (sumS s) (sumS (addedS cs))
theorem closesTo_succ (b : Int) (cs : List (List Int)) (s : S4) (k : Nat) : closesTo b cs s (k + 1) = (closesTo b cs s k && nearB b (comp s k) (comp (addedS cs) k)) := by
  simp [closesTo, List.range_succ]
theorem closesTo_false {b : Int} {cs : List (List Int)} {s : S4} {k m : Nat} (h : k < m) (hk : nearB b (comp s k) (comp (addedS cs) k) = false) : closesTo b cs s m = false := by
  unfold closesTo
  rw [List.all_eq_false]
  exact ⟨k, List.mem_range.2 h, by simp [hk]⟩

theorem s4_cell {w : World} {g : Nat} {t : TypeId} {s : S4} (h : Blk w g t #[.int .i64 s.a, .int .i64 s.b, .int .i64 s.c, .int .i64 s.d]) (k : Nat) (hk : k < 4) : w.cell? ⟨g, k, none⟩ = some (.int .i64 (comp s k)) := by
  rw [h.cell]
  have hk4 : k = 0 ∨ k = 1 ∨ k = 2 ∨ k = 3 := by omega
  rcases hk4 with rfl | rfl | rfl | rfl <;> rfl
theorem s4_ints {w : World} {g n : Nat} {t : TypeId} {s : S4} (h : Blk w g t #[.int .i64 s.a, .int .i64 s.b, .int .i64 s.c, .int .i64 s.d]) (hg : g < n) : IsInts w n (some ⟨g, 0, none⟩) [s.a, s.b, s.c, s.d] := by
  intro k x hk
  refine ⟨_, rfl, hg, ?_⟩
  have hk4 : k < 4 := by
    rcases Nat.lt_or_ge k 4 with h | h
    · exact h
    · rw [List.getElem?_eq_none (by simpa using h)] at hk; cases hk
  have hx : x = comp s k := by
    have hk5 : k = 0 ∨ k = 1 ∨ k = 2 ∨ k = 3 := by omega
    rcases hk5 with rfl | rfl | rfl | rfl <;> simp at hk <;> exact hk.symm
  have ha : (⟨g, 0, none⟩ : Addr).add k = ⟨g, k, none⟩ := by unfold Addr.add; split <;> simp_all
  rw [ha, hx]
  exact s4_cell h k hk4

set_option maxRecDepth 100000 in
set_option maxHeartbeats 1000000 in
theorem closes_any (b : Int) (A : Option Addr) (c : Nat) (cs : List (List Int)) (f : Value) (s : S4) (w : World) (ok : Okc b cs) (h : IsRows w w.heap.size A cs) (hs : Small 200000 s) :
    Calls Try.prog 72 #[.agg #[.int .i64 b, .slice A cs.length c, f], .agg #[.int .i64 s.a, .int .i64 s.b, .int .i64 s.c, .int .i64 s.d]] w fun e w' =>
      e = .returned (.bool (closesB b cs s)) ∧ Below w.heap.size w w' := by
  have hcol : ∀ r ∈ cs, r.length ≤ 4 := fun r hr => by have := ok.row r hr; have := ok.c2; omega
  have hcel : ∀ r ∈ cs, ∀ x ∈ r, 0 ≤ x ∧ x ≤ 10100 := fun r hr x hx => by have := ok.cell r hr x hx; omega
  have hn8 : cs.length ≤ 8 := by have := ok.n2; omega
  have hdue : Small 200000 (addedS cs) := by
    have := added_small cs hcel cs.length (Nat.le_refl _)
    rw [List.take_length] at this
    exact this.mono (by have := ok.n2; omega)
  have HO := hid ok; have HC := hid hcol; have HX := hid hcel; have HH := hid h; have HD := hid hdue; have HS := hid hs
  have hb1 := ok.b1; have hb2 := ok.b2; have hk1 := ok.c1; have hk2 := ok.c2
  clear ok hcol hcel h hdue hs
  generalize hdu : addedS cs = u
  rw [hdu] at HD
  have HU := hid hdu
  clear hdu
  go_enter Try.func72, Try.ntmps72
  go_wp2_with fail
  refine (added_any A c cs _ (HH.out.at_ ?_) hn8 HC.out HX.out).mono ?_
  · exact ((Below.refl _ _).alloc (Nat.le_refl _) _).alloc (by simp) _
  rintro e w1 ⟨rfl, hw1⟩
  rw [HU.out]
  have B2 := Blk.keep ((Blk.new w 33 #[.int .i64 b, .slice A cs.length c, f]).alloc (.cells #[.int .i64 s.a, .int .i64 s.b, .int .i64 s.c, .int .i64 s.d] 87)) hw1
  have B3 : Blk w1 (w.heap.size + 1) 87 #[.int .i64 s.a, .int .i64 s.b, .int .i64 s.c, .int .i64 s.d] := by
    have := (Blk.new (w.alloc (.cells #[.int .i64 b, .slice A cs.length c, f] 33)) 87 #[.int .i64 s.a, .int .i64 s.b, .int .i64 s.c, .int .i64 s.d]).keep hw1
    rwa [World.size_alloc] at this
  have hall : Below w.heap.size w w1 := (((Below.refl _ _).alloc (Nat.le_refl _) _).alloc (by simp) _).trans (hw1.mono (by simp; omega))
  have hz : w.heap.size + 1 < w1.heap.size := by have := hw1.size; simp at this; omega
  have hz0 : w.heap.size < w1.heap.size := by omega
  obtain ⟨c0, c1, c2⟩ := B2.c3
  have H1 := hid hw1; clear hw1
  go_wp2_with fail
  refine (columns_any _ _ _ _ cs _ (HH.out.at_ ?_)).mono ?_
  · exact hall.alloc hall.size _
  rintro e w2 ⟨rfl, hw2⟩
  have hall2 : Below w.heap.size w w2 := (hall.alloc hall.size _).trans (hw2.mono (by simp; omega))
  have C2 := (B2.alloc (.cells #[.int .i64 u.a, .int .i64 u.b, .int .i64 u.c, .int .i64 u.d] 87)).keep hw2
  have C3 := (B3.alloc (.cells #[.int .i64 u.a, .int .i64 u.b, .int .i64 u.c, .int .i64 u.d] 87)).keep hw2
  have C5 := (Blk.new w1 87 #[.int .i64 u.a, .int .i64 u.b, .int .i64 u.c, .int .i64 u.d]).keep hw2
  clear B2 B3 c0 c1 c2 hw2 H1 hz hz0 hall
  go_wp2
  go_loopw [12] (fun i wr => ∃ k : Nat, k ≤ colsOf cs ∧ i = .int .i64 k ∧ Below w2.heap.size w2 wr ∧ closesTo b cs s k = true) (fun i _ => colsOf cs - (intOf i).toNat)
  case atStart => exact ⟨0, Nat.zero_le _, rfl, Below.refl _ _, rfl⟩
  case round =>
    obtain ⟨k, hk, rfl, hbr, hcl⟩ := hrel
    have D2 := C2.keep hbr
    have D3 := C3.keep hbr
    have D5 := C5.keep hbr
    have HCL := hid hcl; clear hcl
    obtain ⟨e1, e2, e3⟩ := xt_c3 D2
    by_cases hlt : k < colsOf cs
    · have hk4 : k < 4 := by omega
      have hk5 : (k : Int) < 4 := by omega
      have f3 := xt_cell (s4_cell D3 k hk4)
      have f5 := xt_cell (s4_cell D5 k hk4)
      obtain ⟨g1, g2⟩ := comp_small HD.out k
      clear C2 C3 C5
      cases hnr : nearB b (comp s k) (comp u k)
      all_goals
        have HN := hid hnr
        clear hnr
        go_wp2
        refine wp_region_quiet_xt (by kernel_rfl) (by kernel_rfl) ?_
        repeat (go_big_quiet_step ((go_at_call 70; exact Calls.xt (near_any b (comp s k) (comp u k) _ _ _ hb1 hb2 g1 (by omega)))))
        refine wpQuiet_nil ?_
        intro w3 hw3
        replace hw3 := of_xt hw3
        rw [HN.out]
        go_wp2
      · go_ret
        refine ⟨?_, hall2.trans ((hbr.trans (hw3.mono hbr.size)).mono hall2.size)⟩
        rw [closesB, closesTo_false hlt (by rw [HU.out]; exact HN.out)]; rfl
      · go_roundw
        case rel =>
          refine ⟨k + 1, by omega, by go_num, hbr.trans (hw3.mono hbr.size), ?_⟩
          rw [closesTo_succ, HCL.out, HU.out, HN.out]; rfl
        case measure => simp [intOf]; omega
    · obtain rfl : k = colsOf cs := by omega
      obtain ⟨⟨q1, q2⟩, q3⟩ := sumS_small HS.out
      obtain ⟨⟨q4, q5⟩, q6⟩ := sumS_small HD.out
      have i3 := fun q => s4_ints (D3.keep (below_xt wr q)) (D3.keep (below_xt wr q)).lt
      have i5 := fun q => s4_ints (D5.keep (below_xt wr q)) (D5.keep (below_xt wr q)).lt
      have T1 := hid (show ∀ q, Calls Try.prog 63 #[.slice (some ⟨w.heap.size + 1, 0, none⟩) 4 4] (xt wr q) fun e w' => e = .returned (.int .i64 (sumS s)) ∧ Below (xt wr q).heap.size (xt wr q) w' from
        fun q => Calls.same_below (total_any _ 4 [s.a, s.b, s.c, s.d] _ (i3 q) (by simp) (fun x hx => by have := q3 x hx; omega)))
      have T2 := hid (show ∀ q, Calls Try.prog 63 #[.slice (some ⟨w1.heap.size, 0, none⟩) 4 4] (xt wr q) fun e w' => e = .returned (.int .i64 (sumS u)) ∧ Below (xt wr q).heap.size (xt wr q) w' from
        fun q => Calls.same_below (total_any _ 4 [u.a, u.b, u.c, u.d] _ (i5 q) (by simp) (fun x hx => by have := q6 x hx; omega)))
      clear i3 i5 q3 q6 C2 C3 C5
      go_wp2
      refine wp_region_quiet_xt (by kernel_rfl) (by kernel_rfl) ?_
      repeat (go_big_quiet_step ((first | (go_at_call 70; exact Calls.xt (near_any b _ _ _ _ _ hb1 hb2 q4 (by omega))) | (go_at_call 63; with_reducible exact Calls.xt (T1.out _)) | (go_at_call 63; with_reducible exact Calls.xt (T2.out _)))))
      refine wpQuiet_nil ?_
      intro w3 hw3
      replace hw3 := of_xt hw3
      go_wp2
      go_ret
      refine ⟨?_, hall2.trans ((hbr.trans (hw3.mono hbr.size)).mono hall2.size)⟩
      rw [closesB, HCL.out, HU.out]; rfl
end Go.Proofs.Ytgoianldiomdoaa
/- holds: whether all fixes of a row do. -/
namespace Go.Proofs.Ytgoianldiomdoaa
open Go.RowKit

def fixB (row : Int) (xs : List Int) (f : Fx) : Bool := f.row == row && xs.getD f.col.toNat 0 != f.val
def holdsB (fs : List Fx) (row : Int) (xs : List Int) : Bool := fs.all fun f => !fixB row xs f

theorem holdsB_take (fs : List Fx) (row : Int) (xs : List Int) (k : Nat) (h : k < fs.length) : holdsB (fs.take (k + 1)) row xs = (holdsB (fs.take k) row xs && !fixB row xs fs[k]) := by
  unfold holdsB
  rw [List.take_succ_eq_append_getElem h, List.all_append]; simp
theorem holdsB_false {fs : List Fx} {row : Int} {xs : List Int} {k : Nat} (h : k < fs.length) (hf : fixB row xs fs[k] = true) : holdsB fs row xs = false := by
  unfold holdsB
  rw [List.all_eq_false]
  exact ⟨fs[k], List.getElem_mem h, by simp [hf]⟩

set_option maxRecDepth 100000 in
set_option maxHeartbeats 1000000 in
theorem holds_any (b c : Value) (A : Option Addr) (cf : Nat) (fs : List Fx) (row : Int) (A2 : Option Addr) (c2 : Nat) (xs : List Int) (w : World) (h : IsFixes w w.heap.size A fs) (hx : IsInts w w.heap.size A2 xs)
    (hn : fs.length ≤ 100) (_ : xs.length ≤ 100) (hc : ∀ f ∈ fs, 0 ≤ f.col ∧ f.col < xs.length) :
    Calls Try.prog 71 #[.agg #[b, c, .slice A fs.length cf], .int .i64 row, .slice A2 xs.length c2] w fun e w' =>
      e = .returned (.bool (holdsB fs row xs)) ∧ Below w.heap.size w w' := by
  go_enter Try.func71, Try.ntmps71
  go_wp2
  go_step3
  go_wp2
  go_step3
  go_wp2
  go_loopw [7, 13] (fun is i wr => ∃ k : Nat, k ≤ fs.length ∧ i = .int .i64 k ∧ is = .bool true ∧ Below w.heap.size w wr ∧ holdsB (fs.take k) row xs = true) (fun _ i _ => fs.length - (intOf i).toNat)
  case atStart => exact ⟨0, Nat.zero_le _, rfl, rfl, (Below.refl _ _).alloc (Nat.le_refl _) _, rfl⟩
  case round =>
    obtain ⟨k, hk, rfl, rfl, hbr, hh⟩ := hrel
    have HH := hid hh; clear hh
    by_cases hlt : k < fs.length
    · obtain ⟨a, rfl, hb, f0, f1, f2⟩ := h.below hbr k fs[k] (List.getElem?_eq_getElem hlt)
      obtain ⟨p1, p2⟩ := hc fs[k] (List.getElem_mem hlt)
      have HT := hid (holdsB_take fs row xs k hlt)
      have HF := hid (@holdsB_false fs row xs k hlt)
      generalize fs[k] = g at *
      obtain ⟨m, hm⟩ := Int.eq_ofNat_of_zero_le p1
      obtain ⟨gr, gc, gv⟩ := g
      simp only at hm f0 f1 f2 p1 p2
      subst hm
      have hmx : m < xs.length := by omega
      obtain ⟨a2, rfl, hb2, hx2⟩ := hx.below hbr m xs[m] (List.getElem?_eq_getElem hmx)
      have HX := hid (show xs.getD (m : Int).toNat 0 = xs[m] by simp [List.getD, List.getElem?_eq_getElem hmx])
      clear h hx hc
      go_wp2
      refine gen (p := Code.wp _ _ _ _) (fun W => Below wr.heap.size wr W ∧ Blk W wr.heap.size 94 #[.int .i64 gr, .int .i64 m, .int .i64 gv]) ⟨(Below.refl _ _).alloc (Nat.le_refl _) _, Blk.new _ _ _⟩ ?_
      rintro W ⟨hbW, hBW⟩
      obtain ⟨e1, e2, e3⟩ := xt_c3 hBW
      have e4 := xt_cell ((hbW.cell (p := a2.add m) (by rw [block_of_add]; have := hbr.size; omega)).trans hx2)
      have hall : Below w.heap.size w W := hbr.trans (hbW.mono hbr.size)
      have hmI : (m : Int) < (xs.length : Int) := by omega
      clear hbW hBW hbr hx2 f0 f1 f2
      generalize hxm : xs[m] = xm at *
      have HXM := hid hxm; clear hxm
      cases hgr : (gr == row)
      · refine wp_region_quiet_xt (by kernel_rfl) (by kernel_rfl) ?_
        repeat (go_big_quiet_step (fail))
        refine wpQuiet_nil ?_
        intro w3 hw3
        replace hw3 := of_xt hw3
        have HG := hid hgr; clear hgr
        go_wp2
        go_roundw
        case rel =>
          refine ⟨k + 1, by omega, by go_num, rfl, hall.trans (hw3.mono hall.size), ?_⟩
          rw [HT.out, HH.out]; simp [fixB, HG.out]
        case measure => simp [intOf]; omega
      · cases hne : (xm != gv)
        · refine wp_region_quiet_xt (by kernel_rfl) (by kernel_rfl) ?_
          repeat (go_big_quiet_step (fail))
          refine wpQuiet_nil ?_
          intro w3 hw3
          replace hw3 := of_xt hw3
          have HG := hid hgr; clear hgr
          have HN := hid hne; clear hne
          go_wp2
          go_roundw
          case rel =>
            refine ⟨k + 1, by omega, by go_num, rfl, hall.trans (hw3.mono hall.size), ?_⟩
            rw [HT.out, HH.out]; simp only [fixB, HX.out, HN.out]; simp
          case measure => simp [intOf]; omega
        · refine wp_region_quiet_xt (by kernel_rfl) (by kernel_rfl) ?_
          repeat (go_big_quiet_step (fail))
          refine wpQuiet_nil ?_
          intro w3 hw3
          replace hw3 := of_xt hw3
          have HG := hid hgr; clear hgr
          have HN := hid hne; clear hne
          go_wp2
          rw [Exit.noGoto_ret]
          go_ret
          refine ⟨?_, hall.trans (hw3.mono hall.size)⟩
          rw [HF.out (by simp only [fixB, HX.out, HG.out, HN.out]; rfl)]; rfl
    · obtain rfl : k = fs.length := by omega
      rw [List.take_length] at HH
      clear h hx hc
      go_wp2
      rw [Exit.noGoto_ret]
      go_ret
      exact ⟨by rw [HH.out]; rfl, hbr⟩
end Go.Proofs.Ytgoianldiomdoaa
/- all: whether each element of a list passes a test, for the package's three element types. -/
namespace Go.Proofs.Ytgoianldiomdoaa
open Go.RowKit Go.Shelf

def idxOf {α : Type} (q : α → Bool) (xs : List α) : Int := if xs.any q then (xs.findIdx q : Int) else -1
theorem idxOf_hit {α : Type} {q : α → Bool} {xs : List α} {k : Nat} (hk : k < xs.length) (h0 : (xs.take k).any q = false) (h1 : q xs[k] = true) : idxOf q xs = k := by
  have hany : xs.any q = true := List.any_eq_true.2 ⟨xs[k], List.getElem_mem hk, h1⟩
  unfold idxOf
  rw [if_pos hany]
  congr 1
  rw [List.findIdx_eq hk]
  refine ⟨h1, fun j hj => ?_⟩
  rw [List.any_eq_false] at h0
  have hm : xs[j] ∈ xs.take k := by
    rw [List.mem_take_iff_getElem]
    exact ⟨j, by omega, rfl⟩
  simpa using h0 _ hm
theorem idxOf_miss {α : Type} {q : α → Bool} {xs : List α} (h0 : xs.any q = false) : idxOf q xs = -1 := by
  unfold idxOf; rw [if_neg (by simp [h0])]
theorem any_take {α : Type} (q : α → Bool) (xs : List α) (k : Nat) (hk : k < xs.length) : (xs.take (k + 1)).any q = ((xs.take k).any q || q xs[k]) := by
  rw [List.take_succ_eq_append_getElem hk, List.any_append]; simp
theorem idxOf_nonneg {α : Type} (q : α → Bool) (xs : List α) : decide (0 ≤ idxOf q xs) = xs.any q := by
  unfold idxOf
  cases h : xs.any q <;> simp

/-- a test of numbers: what it says, in each world that has only grown -/
def PredI (g : Nat) (bnd cap : Array Value) (p : Int → Bool) (xs : List Int) (w : World) : Prop :=
  ∀ W x, Below w.heap.size w W → x ∈ xs → Calls Try.prog g (bnd.push (.int .i64 x) ++ cap) W fun e W' => e = .returned (.bool (p x)) ∧ Below W.heap.size W W'

set_option maxRecDepth 10000 in
set_option maxHeartbeats 400000 in
theorem all_int1 (g : Nat) (bnd cap : Array Value) (B : Nat) (t : Bool) (x : Int) (W : World) (eg : ∀ args w, (callFunc g args).run Try.prog w = .ok (.enter g args) w) (hB : Blk W B 106 #[.func (.func g) bnd cap])
    (hp : Calls Try.prog g (bnd.push (.int .i64 x) ++ cap) W fun e W' => e = .returned (.bool t) ∧ Below W.heap.size W W') :
    Calls Try.prog 88 #[.int .i64 x, .pointer (some ⟨B, 0, none⟩)] W fun e W' => e = .returned (.bool (!t)) ∧ Below W.heap.size W W' := by
  have c0 := hB.c1
  have HP := hid hp
  clear hp hB
  go_enter Try.func88, Try.ntmps88
  go_wp2_with fail
  refine HP.out.mono ?_
  rintro e w2 ⟨rfl, hb2⟩
  go_wp2
  go_ret
  exact ⟨rfl, hb2⟩

set_option maxRecDepth 10000 in
set_option maxHeartbeats 400000 in
theorem idx_int (f : Value) (q : Int → Bool) (A : Option Addr) (c : Nat) (xs : List Int) (w : World) (h : IsInts w w.heap.size A xs) (hl : xs.length ≤ c) (hm : c ≤ maxLen)
    (g : Nat) (bnd cap : Array Value) (hf : f = .func (.func g) bnd cap) (eg : ∀ args w, (callFunc g args).run Try.prog w = .ok (.enter g args) w) (hp : PredI g bnd cap q xs w) :
    Calls Try.prog 99 #[.slice A xs.length c, f] w fun e w' => e = .returned (.int .i64 (idxOf q xs)) ∧ Below w.heap.size w w' := by
  subst hf
  unfold maxLen at hm
  have HP := hid hp
  clear hp
  go_enter Try.func99, Try.ntmps99
  go_wp2
  go_loopw [8] (fun i wr => ∃ k : Nat, k ≤ xs.length ∧ i = .int .i64 k ∧ Below w.heap.size w wr ∧ (xs.take k).any q = false) (fun i _ => xs.length - (intOf i).toNat)
  case atStart => exact ⟨0, Nat.zero_le _, rfl, Below.refl _ _, rfl⟩
  case round =>
    obtain ⟨k, hk, rfl, hbr, hno⟩ := hrel
    have HN := hid hno; clear hno
    by_cases hlt : k < xs.length
    · obtain ⟨a, rfl, hb, hc⟩ := h.below hbr k xs[k] (List.getElem?_eq_getElem hlt)
      have HC := hid (HP.out wr xs[k] hbr (List.getElem_mem hlt))
      have HH := hid (@idxOf_hit Int q xs k hlt)
      have HT := hid (any_take q xs k hlt)
      generalize xs[k] = x at *
      cases hq : q x
      all_goals
        have HQ := hid hq
        clear hq
        go_wp2_with fail
        refine HC.out.mono ?_
        rintro e w2 ⟨rfl, hb2⟩
        rw [HQ.out]
        go_wp2
      · go_roundw
        case rel => exact ⟨k + 1, by omega, by go_num, hbr.trans (hb2.mono hbr.size), by rw [HT.out, HN.out, HQ.out]; rfl⟩
        case measure => simp [intOf]; omega
      · go_ret
        exact ⟨by rw [HH.out HN.out HQ.out]; rfl, hbr.trans (hb2.mono hbr.size)⟩
    · obtain rfl : k = xs.length := by omega
      rw [List.take_length] at HN
      have HM := hid (idxOf_miss HN.out)
      go_wp2
      go_ret
      exact ⟨by rw [HM.out]; rfl, hbr⟩

set_option maxHeartbeats 400000 in
theorem has_int (q : Int → Bool) (A : Option Addr) (c : Nat) (xs : List Int) (w : World) (h : IsInts w w.heap.size A xs) (hl : xs.length ≤ c) (hm : c ≤ maxLen)
    (g : Nat) (bnd cap : Array Value) (eg : ∀ args w, (callFunc g args).run Try.prog w = .ok (.enter g args) w) (hp : PredI g bnd cap q xs w) :
    Calls Try.prog 87 #[.slice A xs.length c, .func (.func g) bnd cap] w fun e w' => e = .returned (.bool (xs.any q)) ∧ Below w.heap.size w w' := by
  have HI := hid (idx_int _ q A c xs w h hl hm g bnd cap rfl eg hp)
  have HN := hid (idxOf_nonneg q xs)
  clear hp h eg
  go_enter Try.func87, Try.ntmps87
  go_wp2_with fail
  refine HI.out.mono ?_
  rintro e w2 ⟨rfl, hb2⟩
  go_wp2
  go_ret
  exact ⟨by rw [← HN.out]; rfl, hb2⟩

set_option maxHeartbeats 400000 in
theorem all_int (p : Int → Bool) (A : Option Addr) (c : Nat) (xs : List Int) (w : World) (h : IsInts w w.heap.size A xs) (hl : xs.length ≤ c) (hm : c ≤ maxLen)
    (g : Nat) (bnd cap : Array Value) (eg : ∀ args w, (callFunc g args).run Try.prog w = .ok (.enter g args) w) (hp : PredI g bnd cap p xs w) :
    Calls Try.prog 60 #[.slice A xs.length c, .func (.func g) bnd cap] w fun e w' => e = .returned (.bool (xs.all p)) ∧ Below w.heap.size w w' := by
  have hB : Below w.heap.size w (w.alloc (.cells #[.func (.func g) bnd cap] 106)) := (Below.refl _ _).alloc (Nat.le_refl _) _
  have HI := hid (has_int (fun x => !p x) A c xs _ (h.at_ hB) hl hm 88 #[] #[.pointer (some ⟨w.heap.size, 0, none⟩)] (enters_of Try.func88 (by kernel_rfl) rfl)
    (fun W x hW hx => all_int1 g bnd cap w.heap.size (p x) x W eg ((Blk.new _ _ _).keep hW) (hp W x (hB.trans (hW.mono hB.size)) hx)))
  have HN : Hid ((!xs.any fun x => !p x) = xs.all p) := hid (by simp [List.all_eq_not_any_not])
  clear hp h eg
  go_enter Try.func60, Try.ntmps60
  go_wp2_with fail
  refine HI.out.mono ?_
  rintro e w2 ⟨rfl, hb2⟩
  go_wp2
  go_ret
  exact ⟨by rw [← HN.out]; rfl, hB.trans (hb2.mono hB.size)⟩
end Go.Proofs.Ytgoianldiomdoaa
/- all, for fixes: as for numbers. -/
namespace Go.Proofs.Ytgoianldiomdoaa
open Go.RowKit Go.Shelf

/-- a test of fixes: what it says, in each world that has only grown -/
def PredF (g : Nat) (bnd cap : Array Value) (p : Fx → Bool) (xs : List Fx) (w : World) : Prop :=
  ∀ W x, Below w.heap.size w W → x ∈ xs → Calls Try.prog g (bnd.push (.agg #[.int .i64 x.row, .int .i64 x.col, .int .i64 x.val]) ++ cap) W fun e W' => e = .returned (.bool (p x)) ∧ Below W.heap.size W W'

set_option maxRecDepth 10000 in
set_option maxHeartbeats 400000 in
theorem all_fix1 (g : Nat) (bnd cap : Array Value) (B : Nat) (t : Bool) (x : Fx) (W : World) (eg : ∀ args w, (callFunc g args).run Try.prog w = .ok (.enter g args) w) (hB : Blk W B 119 #[.func (.func g) bnd cap])
    (hp : ∀ W1, Below W.heap.size W W1 → Calls Try.prog g (bnd.push (.agg #[.int .i64 x.row, .int .i64 x.col, .int .i64 x.val]) ++ cap) W1 fun e W' => e = .returned (.bool t) ∧ Below W1.heap.size W1 W') :
    Calls Try.prog 96 #[.agg #[.int .i64 x.row, .int .i64 x.col, .int .i64 x.val], .pointer (some ⟨B, 0, none⟩)] W fun e W' => e = .returned (.bool (!t)) ∧ Below W.heap.size W W' := by
  have c0 := hB.c1
  have hlt := hB.lt
  have hbW : Below W.heap.size W (W.alloc (.cells #[.int .i64 x.row, .int .i64 x.col, .int .i64 x.val] 94)) := (Below.refl _ _).alloc (Nat.le_refl _) _
  have HP := hid (hp _ hbW)
  clear hp hB
  go_enter Try.func96, Try.ntmps96
  go_wp2_with fail
  refine HP.out.mono ?_
  rintro e w2 ⟨rfl, hb2⟩
  go_wp2
  go_ret
  exact ⟨rfl, hbW.trans (hb2.mono hbW.size)⟩

set_option maxRecDepth 10000 in
set_option maxHeartbeats 400000 in
theorem idx_fix (f : Value) (q : Fx → Bool) (A : Option Addr) (c : Nat) (xs : List Fx) (w : World) (h : IsFixes w w.heap.size A xs) (hl : xs.length ≤ c) (hm : c ≤ maxLen)
    (g : Nat) (bnd cap : Array Value) (hf : f = .func (.func g) bnd cap) (eg : ∀ args w, (callFunc g args).run Try.prog w = .ok (.enter g args) w) (hp : PredF g bnd cap q xs w) :
    Calls Try.prog 103 #[.slice A xs.length c, f] w fun e w' => e = .returned (.int .i64 (idxOf q xs)) ∧ Below w.heap.size w w' := by
  subst hf
  unfold maxLen at hm
  have HP := hid hp
  clear hp
  go_enter Try.func103, Try.ntmps103
  go_wp2
  go_loopw [8] (fun i wr => ∃ k : Nat, k ≤ xs.length ∧ i = .int .i64 k ∧ Below w.heap.size w wr ∧ (xs.take k).any q = false) (fun i _ => xs.length - (intOf i).toNat)
  case atStart => exact ⟨0, Nat.zero_le _, rfl, Below.refl _ _, rfl⟩
  case round =>
    obtain ⟨k, hk, rfl, hbr, hno⟩ := hrel
    have HN := hid hno; clear hno
    by_cases hlt : k < xs.length
    · obtain ⟨a, rfl, hb, f0, f1, f2⟩ := h.below hbr k xs[k] (List.getElem?_eq_getElem hlt)
      have HC := hid (HP.out wr xs[k] hbr (List.getElem_mem hlt))
      have HH := hid (@idxOf_hit Fx q xs k hlt)
      have HT := hid (any_take q xs k hlt)
      generalize xs[k] = x at *
      cases hq : q x
      all_goals
        have HQ := hid hq
        clear hq
        go_wp2_with fail
        refine HC.out.mono ?_
        rintro e w2 ⟨rfl, hb2⟩
        rw [HQ.out]
        go_wp2
      · go_roundw
        case rel => exact ⟨k + 1, by omega, by go_num, hbr.trans (hb2.mono hbr.size), by rw [HT.out, HN.out, HQ.out]; rfl⟩
        case measure => simp [intOf]; omega
      · go_ret
        exact ⟨by rw [HH.out HN.out HQ.out]; rfl, hbr.trans (hb2.mono hbr.size)⟩
    · obtain rfl : k = xs.length := by omega
      rw [List.take_length] at HN
      have HM := hid (idxOf_miss HN.out)
      go_wp2
      go_ret
      exact ⟨by rw [HM.out]; rfl, hbr⟩

set_option maxHeartbeats 400000 in
theorem has_fix (q : Fx → Bool) (A : Option Addr) (c : Nat) (xs : List Fx) (w : World) (h : IsFixes w w.heap.size A xs) (hl : xs.length ≤ c) (hm : c ≤ maxLen)
    (g : Nat) (bnd cap : Array Value) (eg : ∀ args w, (callFunc g args).run Try.prog w = .ok (.enter g args) w) (hp : PredF g bnd cap q xs w) :
    Calls Try.prog 95 #[.slice A xs.length c, .func (.func g) bnd cap] w fun e w' => e = .returned (.bool (xs.any q)) ∧ Below w.heap.size w w' := by
  have HI := hid (idx_fix _ q A c xs w h hl hm g bnd cap rfl eg hp)
  have HN := hid (idxOf_nonneg q xs)
  clear hp h eg
  go_enter Try.func95, Try.ntmps95
  go_wp2_with fail
  refine HI.out.mono ?_
  rintro e w2 ⟨rfl, hb2⟩
  go_wp2
  go_ret
  exact ⟨by rw [← HN.out]; rfl, hb2⟩

set_option maxHeartbeats 400000 in
theorem all_fix (p : Fx → Bool) (A : Option Addr) (c : Nat) (xs : List Fx) (w : World) (h : IsFixes w w.heap.size A xs) (hl : xs.length ≤ c) (hm : c ≤ maxLen)
    (g : Nat) (bnd cap : Array Value) (eg : ∀ args w, (callFunc g args).run Try.prog w = .ok (.enter g args) w) (hp : PredF g bnd cap p xs w) :
    Calls Try.prog 79 #[.slice A xs.length c, .func (.func g) bnd cap] w fun e w' => e = .returned (.bool (xs.all p)) ∧ Below w.heap.size w w' := by
  have hB : Below w.heap.size w (w.alloc (.cells #[.func (.func g) bnd cap] 119)) := (Below.refl _ _).alloc (Nat.le_refl _) _
  have HI := hid (has_fix (fun x => !p x) A c xs _ (h.at_ hB) hl hm 96 #[] #[.pointer (some ⟨w.heap.size, 0, none⟩)] (enters_of Try.func96 (by kernel_rfl) rfl)
    (fun W x hW hx => all_fix1 g bnd cap w.heap.size (p x) x W eg ((Blk.new _ _ _).keep hW) (fun W1 h1 => hp W1 x (hB.trans ((hW.trans (h1.mono hW.size)).mono hB.size)) hx)))
  have HN : Hid ((!xs.any fun x => !p x) = xs.all p) := hid (by simp [List.all_eq_not_any_not])
  clear hp h eg
  go_enter Try.func79, Try.ntmps79
  go_wp2_with fail
  refine HI.out.mono ?_
  rintro e w2 ⟨rfl, hb2⟩
  go_wp2
  go_ret
  exact ⟨by rw [← HN.out]; rfl, hB.trans (hb2.mono hB.size)⟩
end Go.Proofs.Ytgoianldiomdoaa
/- all, for rows: as for numbers. -/
namespace Go.Proofs.Ytgoianldiomdoaa
open Go.RowKit Go.Shelf

/-- a test of rows: what it says, in each world that has only grown -/
def PredR (g : Nat) (bnd cap : Array Value) (p : List Int → Bool) (xs : List (List Int)) (w : World) : Prop :=
  ∀ W x A' c', Below w.heap.size w W → x ∈ xs → x.length ≤ c' → c' ≤ maxLen → IsInts W W.heap.size A' x → Calls Try.prog g (bnd.push (.slice A' x.length c') ++ cap) W fun e W' => e = .returned (.bool (p x)) ∧ Below W.heap.size W W'

set_option maxRecDepth 10000 in
set_option maxHeartbeats 400000 in
theorem all_row1 (g : Nat) (bnd cap : Array Value) (B : Nat) (t : Bool) (A' : Option Addr) (n c' : Nat) (W : World) (eg : ∀ args w, (callFunc g args).run Try.prog w = .ok (.enter g args) w) (hB : Blk W B 118 #[.func (.func g) bnd cap])
    (hp : Calls Try.prog g (bnd.push (.slice A' n c') ++ cap) W fun e W' => e = .returned (.bool t) ∧ Below W.heap.size W W') :
    Calls Try.prog 94 #[.slice A' n c', .pointer (some ⟨B, 0, none⟩)] W fun e W' => e = .returned (.bool (!t)) ∧ Below W.heap.size W W' := by
  have c0 := hB.c1
  have HP := hid hp
  clear hp hB
  go_enter Try.func94, Try.ntmps94
  go_wp2_with fail
  refine HP.out.mono ?_
  rintro e w2 ⟨rfl, hb2⟩
  go_wp2
  go_ret
  exact ⟨rfl, hb2⟩

set_option maxRecDepth 10000 in
set_option maxHeartbeats 400000 in
theorem idx_row (f : Value) (q : List Int → Bool) (A : Option Addr) (c : Nat) (xs : List (List Int)) (w : World) (h : IsRows w w.heap.size A xs) (hl : xs.length ≤ c) (hm : c ≤ maxLen)
    (g : Nat) (bnd cap : Array Value) (hf : f = .func (.func g) bnd cap) (eg : ∀ args w, (callFunc g args).run Try.prog w = .ok (.enter g args) w) (hp : PredR g bnd cap q xs w) :
    Calls Try.prog 102 #[.slice A xs.length c, f] w fun e w' => e = .returned (.int .i64 (idxOf q xs)) ∧ Below w.heap.size w w' := by
  subst hf
  unfold maxLen at hm
  have HP := hid hp
  clear hp
  go_enter Try.func102, Try.ntmps102
  go_wp2
  go_loopw [8] (fun i wr => ∃ k : Nat, k ≤ xs.length ∧ i = .int .i64 k ∧ Below w.heap.size w wr ∧ (xs.take k).any q = false) (fun i _ => xs.length - (intOf i).toNat)
  case atStart => exact ⟨0, Nat.zero_le _, rfl, Below.refl _ _, rfl⟩
  case round =>
    obtain ⟨k, hk, rfl, hbr, hno⟩ := hrel
    have HN := hid hno; clear hno
    by_cases hlt : k < xs.length
    · obtain ⟨a, A', c', rfl, hb, hc, h1, h2, h3⟩ := h.below hbr k xs[k] (List.getElem?_eq_getElem hlt)
      have HC := hid (HP.out wr xs[k] A' c' hbr (List.getElem_mem hlt) h1 h2 (h3.more hbr.size))
      have HH := hid (@idxOf_hit (List Int) q xs k hlt)
      have HT := hid (any_take q xs k hlt)
      clear h3
      generalize xs[k] = x at *
      cases hq : q x
      all_goals
        have HQ := hid hq
        clear hq
        go_wp2_with fail
        refine HC.out.mono ?_
        rintro e w2 ⟨rfl, hb2⟩
        rw [HQ.out]
        go_wp2
      · go_roundw
        case rel => exact ⟨k + 1, by omega, by go_num, hbr.trans (hb2.mono hbr.size), by rw [HT.out, HN.out, HQ.out]; rfl⟩
        case measure => simp [intOf]; omega
      · go_ret
        exact ⟨by rw [HH.out HN.out HQ.out]; rfl, hbr.trans (hb2.mono hbr.size)⟩
    · obtain rfl : k = xs.length := by omega
      rw [List.take_length] at HN
      have HM := hid (idxOf_miss HN.out)
      go_wp2
      go_ret
      exact ⟨by rw [HM.out]; rfl, hbr⟩

set_option maxHeartbeats 400000 in
theorem has_row (q : List Int → Bool) (A : Option Addr) (c : Nat) (xs : List (List Int)) (w : World) (h : IsRows w w.heap.size A xs) (hl : xs.length ≤ c) (hm : c ≤ maxLen)
    (g : Nat) (bnd cap : Array Value) (eg : ∀ args w, (callFunc g args).run Try.prog w = .ok (.enter g args) w) (hp : PredR g bnd cap q xs w) :
    Calls Try.prog 93 #[.slice A xs.length c, .func (.func g) bnd cap] w fun e w' => e = .returned (.bool (xs.any q)) ∧ Below w.heap.size w w' := by
  have HI := hid (idx_row _ q A c xs w h hl hm g bnd cap rfl eg hp)
  have HN := hid (idxOf_nonneg q xs)
  clear hp h eg
  go_enter Try.func93, Try.ntmps93
  go_wp2_with fail
  refine HI.out.mono ?_
  rintro e w2 ⟨rfl, hb2⟩
  go_wp2
  go_ret
  exact ⟨by rw [← HN.out]; rfl, hb2⟩

set_option maxHeartbeats 400000 in
theorem all_row (p : List Int → Bool) (A : Option Addr) (c : Nat) (xs : List (List Int)) (w : World) (h : IsRows w w.heap.size A xs) (hl : xs.length ≤ c) (hm : c ≤ maxLen)
    (g : Nat) (bnd cap : Array Value) (eg : ∀ args w, (callFunc g args).run Try.prog w = .ok (.enter g args) w) (hp : PredR g bnd cap p xs w) :
    Calls Try.prog 77 #[.slice A xs.length c, .func (.func g) bnd cap] w fun e w' => e = .returned (.bool (xs.all p)) ∧ Below w.heap.size w w' := by
  have hB : Below w.heap.size w (w.alloc (.cells #[.func (.func g) bnd cap] 118)) := (Below.refl _ _).alloc (Nat.le_refl _) _
  have HI := hid (has_row (fun x => !p x) A c xs _ (h.at_ hB) hl hm 94 #[] #[.pointer (some ⟨w.heap.size, 0, none⟩)] (enters_of Try.func94 (by kernel_rfl) rfl)
    (fun W x A' c' hW hx h1 h2 h3 => all_row1 g bnd cap w.heap.size (p x) A' x.length c' W eg ((Blk.new _ _ _).keep hW) (hp W x A' c' (hB.trans (hW.mono hB.size)) hx h1 h2 h3)))
  have HN : Hid ((!xs.any fun x => !p x) = xs.all p) := hid (by simp [List.all_eq_not_any_not])
  clear hp h eg
  go_enter Try.func77, Try.ntmps77
  go_wp2_with fail
  refine HI.out.mono ?_
  rintro e w2 ⟨rfl, hb2⟩
  go_wp2
  go_ret
  exact ⟨by rw [← HN.out]; rfl, hB.trans (hb2.mono hB.size)⟩
end Go.Proofs.Ytgoianldiomdoaa
/- row, fix, alike: whether a row, a fix, a list of numbers fit a table. -/
namespace Go.Proofs.Ytgoianldiomdoaa
open Go.RowKit Go.Shelf

theorem below_box {w : World} (cs : Array Value) (t : TypeId) : Below w.heap.size w (w.alloc (.cells cs t)) := (Below.refl _ _).alloc (Nat.le_refl _) _
theorem then_below {w w1 w2 : World} (h : Below w.heap.size w w1) (h2 : Below w1.heap.size w1 w2) : Below w.heap.size w w2 := h.trans (h2.mono h.size)

def rowB (n : Nat) (hi : Int) (xs : List Int) : Bool := ((xs.length : Int) == (n : Int)) && xs.all fun x => withinB x 0 hi

set_option maxRecDepth 10000 in
set_option maxHeartbeats 400000 in
theorem row_any (b f : Value) (A : Option Addr) (c : Nat) (cs : List (List Int)) (A' : Option Addr) (c' : Nat) (xs : List Int) (w : World) (h : IsRows w w.heap.size A cs) (hx : IsInts w w.heap.size A' xs) (hl : xs.length ≤ c') (hm : c' ≤ maxLen) :
    Calls Try.prog 75 #[.agg #[b, .slice A cs.length c, f], .slice A' xs.length c'] w fun e w' => e = .returned (.bool (rowB (colsOf cs) 10000 xs)) ∧ Below w.heap.size w w' := by
  have hB := below_box (w := w) #[b, .slice A cs.length c, f] 33
  have HI := hid (fun W (hW : Below w.heap.size w W) => all_int (fun x => withinB x 0 10000) A' c' xs W (hx.at_ hW) hl hm 61 #[] #[] (enters_of Try.func61 (by kernel_rfl) rfl)
    (fun W1 x _ _ => by simpa using Calls.same_below (isCell_any x W1)))
  have HC := hid (columns_any b f A c cs _ (h.at_ hB))
  clear h hx
  cases hd : ((xs.length : Int) == (colsOf cs : Int))
  · have HR : Hid (rowB (colsOf cs) 10000 xs = false) := hid (by simp only [rowB, hd]; rfl)
    go_enter Try.func75, Try.ntmps75
    go_wp2_with fail
    refine HC.out.mono ?_
    rintro e w2 ⟨rfl, hb2⟩
    go_wp2
    go_ret
    exact ⟨by rw [HR.out]; rfl, then_below hB hb2⟩
  · have HR : Hid (rowB (colsOf cs) 10000 xs = xs.all fun x => withinB x 0 10000) := hid (by simp only [rowB, hd]; rfl)
    go_enter Try.func75, Try.ntmps75
    go_wp2_with fail
    refine HC.out.mono ?_
    rintro e w2 ⟨rfl, hb2⟩
    have h2 := then_below hB hb2
    go_wp2_with fail
    refine (HI.out w2 h2).mono ?_
    rintro e w3 ⟨rfl, hb3⟩
    go_wp2
    go_ret
    exact ⟨by rw [HR.out]; rfl, then_below h2 hb3⟩

def fixOkB (n m : Nat) (f : Fx) : Bool := withinB f.row 0 (n - 1) && withinB f.col 0 (m - 1) && withinB f.val 0 10100

set_option maxRecDepth 10000 in
set_option maxHeartbeats 400000 in
theorem fix_any (b f : Value) (A : Option Addr) (c : Nat) (cs : List (List Int)) (x : Fx) (w : World) (h : IsRows w w.heap.size A cs) (hl : cs.length ≤ maxLen) (hk : colsOf cs ≤ maxLen) :
    Calls Try.prog 76 #[.agg #[b, .slice A cs.length c, f], .agg #[.int .i64 x.row, .int .i64 x.col, .int .i64 x.val]] w fun e w' => e = .returned (.bool (fixOkB cs.length (colsOf cs) x)) ∧ Below w.heap.size w w' := by
  unfold maxLen at hl hk
  have hB := below_box (w := w) #[b, .slice A cs.length c, f] 33
  have hB2 := then_below hB (below_box #[.int .i64 x.row, .int .i64 x.col, .int .i64 x.val] 94)
  have HC := hid (fun W (hW : Below w.heap.size w W) => columns_any b f A c cs W (h.at_ hW))
  clear h
  go_enter Try.func76, Try.ntmps76
  go_wp2_with fail
  refine gen (p := Code.wp _ _ _ _) (fun W => Below w.heap.size w W ∧ Blk W w.heap.size 33 #[b, .slice A cs.length c, f] ∧ Blk W (w.heap.size + 1) 94 #[.int .i64 x.row, .int .i64 x.col, .int .i64 x.val]) ⟨hB2, (Blk.new _ _ _).alloc _, by have := Blk.new (w.alloc (.cells #[b, .slice A cs.length c, f] 33)) 94 #[.int .i64 x.row, .int .i64 x.col, .int .i64 x.val]; rwa [World.size_alloc] at this⟩ ?_
  rintro W ⟨hbW, hBT, hBF⟩
  obtain ⟨e1, e2, e3⟩ := xt_c3 hBT
  obtain ⟨e4, e5, e6⟩ := xt_c3 hBF
  have HC2 := hid (fun q => HC.out (xt W q) (then_below hbW (below_xt W q)))
  clear HC hB hB2 hBT hBF
  have hnum := hid (fun W => isNumber_any x.val W)
  have hR := hid (fun W => within_any x.row 0 (cs.length - 1) W)
  have hL := hid (fun W => within_any x.col 0 (colsOf cs - 1) W)
  cases h1 : withinB x.row 0 (cs.length - 1)
  · have HF : Hid (fixOkB cs.length (colsOf cs) x = false) := hid (by simp only [fixOkB, h1]; rfl)
    rw [h1] at hR
    clear h1
    refine wp_region_quiet_xt (by kernel_rfl) (by kernel_rfl) ?_
    repeat (go_big_quiet_step ((first | (go_at_call 62; with_reducible exact Calls.xt (Calls.same_below (hR.out _))))))
    refine wpQuiet_nil ?_
    intro w3 hw3
    replace hw3 := of_xt hw3
    go_wp2
    go_ret
    exact ⟨by rw [HF.out]; rfl, then_below hbW hw3⟩
  · rw [h1] at hR
    cases h2 : withinB x.col 0 (colsOf cs - 1)
    · have HF : Hid (fixOkB cs.length (colsOf cs) x = false) := hid (by simp only [fixOkB, h1, h2]; rfl)
      rw [h2] at hL
      clear h1 h2
      refine wp_region_quiet_xt (by kernel_rfl) (by kernel_rfl) ?_
      repeat (go_big_quiet_step ((first | (go_at_call 62; with_reducible exact Calls.xt (Calls.same_below (hR.out _))) | (go_at_call 62; with_reducible exact Calls.xt (Calls.same_below (hL.out _))) | (go_at_call 52; exact Calls.xt (HC2.out _)))))
      refine wpQuiet_nil ?_
      intro w3 hw3
      replace hw3 := of_xt hw3
      go_wp2
      go_ret
      exact ⟨by rw [HF.out]; rfl, then_below hbW hw3⟩
    · have HF : Hid (fixOkB cs.length (colsOf cs) x = withinB x.val 0 10100) := hid (by simp only [fixOkB, h1, h2]; rfl)
      rw [h2] at hL
      clear h1 h2
      refine wp_region_quiet_xt (by kernel_rfl) (by kernel_rfl) ?_
      repeat (go_big_quiet_step ((first | (go_at_call 62; with_reducible exact Calls.xt (Calls.same_below (hR.out _))) | (go_at_call 62; with_reducible exact Calls.xt (Calls.same_below (hL.out _))) | (go_at_call 52; exact Calls.xt (HC2.out _)) | (go_at_call 59; exact Calls.xt (Calls.same_below (hnum.out _))))))
      refine wpQuiet_nil ?_
      intro w3 hw3
      replace hw3 := of_xt hw3
      go_wp2
      go_ret
      exact ⟨by rw [HF.out]; rfl, then_below hbW hw3⟩
end Go.Proofs.Ytgoianldiomdoaa
/- alike: whether numbers have the rows and columns of a table. -/
namespace Go.Proofs.Ytgoianldiomdoaa
open Go.RowKit Go.Shelf

set_option maxRecDepth 10000 in
set_option maxHeartbeats 400000 in
theorem alike1_any (b f : Value) (A : Option Addr) (c : Nat) (cs : List (List Int)) (B : Nat) (A' : Option Addr) (c' : Nat) (xs : List Int) (w : World) (h : IsRows w w.heap.size A cs) (hT : Blk w B 33 #[b, .slice A cs.length c, f]) (hx : IsInts w w.heap.size A' xs) (hl : xs.length ≤ c') (hm : c' ≤ maxLen) :
    Calls Try.prog 90 #[.slice A' xs.length c', .pointer (some ⟨B, 0, none⟩)] w fun e w' => e = .returned (.bool (rowB (colsOf cs) 10100 xs)) ∧ Below w.heap.size w w' := by
  obtain ⟨e1, e2, e3⟩ := hT.c3
  have HI := hid (fun W (hW : Below w.heap.size w W) => all_int (fun x => withinB x 0 10100) A' c' xs W (hx.at_ hW) hl hm 59 #[] #[] (enters_of Try.func59 (by kernel_rfl) rfl)
    (fun W1 x _ _ => by simpa using Calls.same_below (isNumber_any x W1)))
  have HC := hid (columns_any b f A c cs _ h)
  clear h hx hT
  cases hd : ((xs.length : Int) == (colsOf cs : Int))
  · have HR : Hid (rowB (colsOf cs) 10100 xs = false) := hid (by simp only [rowB, hd]; rfl)
    go_enter Try.func90, Try.ntmps90
    go_wp2_with fail
    refine HC.out.mono ?_
    rintro e w2 ⟨rfl, hb2⟩
    go_wp2
    go_ret
    exact ⟨by rw [HR.out]; rfl, hb2⟩
  · have HR : Hid (rowB (colsOf cs) 10100 xs = xs.all fun x => withinB x 0 10100) := hid (by simp only [rowB, hd]; rfl)
    go_enter Try.func90, Try.ntmps90
    go_wp2_with fail
    refine HC.out.mono ?_
    rintro e w2 ⟨rfl, hb2⟩
    go_wp2_with fail
    refine (HI.out w2 hb2).mono ?_
    rintro e w3 ⟨rfl, hb3⟩
    go_wp2
    go_ret
    exact ⟨by rw [HR.out]; rfl, then_below hb2 hb3⟩

def alikeB (n m : Nat) (l : List (List Int)) : Bool := ((l.length : Int) == (n : Int)) && l.all (rowB m 10100)

set_option maxRecDepth 10000 in
set_option maxHeartbeats 400000 in
theorem alike_any (b f : Value) (A : Option Addr) (c : Nat) (cs : List (List Int)) (A' : Option Addr) (c' : Nat) (l : List (List Int)) (w : World) (h : IsRows w w.heap.size A cs) (hx : IsRows w w.heap.size A' l) (hl : l.length ≤ c') (hm : c' ≤ maxLen) :
    Calls Try.prog 69 #[.agg #[b, .slice A cs.length c, f], .slice A' l.length c'] w fun e w' => e = .returned (.bool (alikeB cs.length (colsOf cs) l)) ∧ Below w.heap.size w w' := by
  have hB := below_box (w := w) #[b, .slice A cs.length c, f] 33
  have HI := hid (all_row (rowB (colsOf cs) 10100) A' c' l _ (hx.at_ hB) hl hm 90 #[] #[.pointer (some ⟨w.heap.size, 0, none⟩)] (enters_of Try.func90 (by kernel_rfl) rfl)
    (fun W1 x A1 c1 hW1 _ h1 h2 h3 => by simpa using alike1_any b f A c cs w.heap.size A1 c1 x W1 (h.at_ (then_below hB hW1)) ((Blk.new _ _ _).keep hW1) h3 h1 h2))
  clear h hx
  cases hd : ((l.length : Int) == (cs.length : Int))
  · have HR : Hid (alikeB cs.length (colsOf cs) l = false) := hid (by simp only [alikeB, hd]; rfl)
    go_enter Try.func69, Try.ntmps69
    go_wp2
    go_ret
    exact ⟨by rw [HR.out]; rfl, hB⟩
  · have HR : Hid (alikeB cs.length (colsOf cs) l = l.all (rowB (colsOf cs) 10100)) := hid (by simp only [alikeB, hd]; rfl)
    go_enter Try.func69, Try.ntmps69
    go_wp2_with fail
    refine HI.out.mono ?_
    rintro e w2 ⟨rfl, hb2⟩
    go_wp2
    go_ret
    exact ⟨by rw [HR.out]; rfl, then_below hB hb2⟩
end Go.Proofs.Ytgoianldiomdoaa
/- change, cost: by how much numbers differ from the cells of a table. -/
namespace Go.Proofs.Ytgoianldiomdoaa
open Go.RowKit Go.Shelf

def awayOf (a b : Int) : Int := max (a - b) (b - a)
def costTo (xs ys : List Int) (k : Nat) : Int := ((List.range k).map fun i => awayOf (xs.getD i 0) (ys.getD i 0)).sum
def rowCost (xs ys : List Int) : Int := costTo xs ys xs.length
def chgTo (l cs : List (List Int)) (k : Nat) : Int := ((List.range k).map fun r => rowCost (l.getD r []) (cs.getD r [])).sum
def changeOf (l cs : List (List Int)) : Int := chgTo l cs l.length
theorem awayOf_bounds {M a b : Int} (h1 : 0 ≤ a ∧ a ≤ M) (h2 : 0 ≤ b ∧ b ≤ M) : 0 ≤ awayOf a b ∧ awayOf a b ≤ M := by unfold awayOf; omega
theorem costTo_succ (xs ys : List Int) (k : Nat) : costTo xs ys (k + 1) = costTo xs ys k + awayOf (xs.getD k 0) (ys.getD k 0) := by
  unfold costTo; rw [List.range_succ, List.map_append, List.sum_append]; simp
theorem chgTo_succ (l cs : List (List Int)) (k : Nat) : chgTo l cs (k + 1) = chgTo l cs k + rowCost (l.getD k []) (cs.getD k []) := by
  unfold chgTo; rw [List.range_succ, List.map_append, List.sum_append]; simp
theorem costTo_bounds {M : Int} (hM : 0 ≤ M) {xs ys : List Int} (hx : ∀ x ∈ xs, 0 ≤ x ∧ x ≤ M) (hy : ∀ x ∈ ys, 0 ≤ x ∧ x ≤ M) (k : Nat) : 0 ≤ costTo xs ys k ∧ costTo xs ys k ≤ k * M := by
  induction k with
  | zero => simp [costTo]
  | succ k ih =>
    rw [costTo_succ, Int.natCast_add, Int.add_mul]
    have := awayOf_bounds (getD_small hM hx k) (getD_small hM hy k)
    omega
theorem getD_row {M : Int} {l : List (List Int)} (h : ∀ r ∈ l, ∀ x ∈ r, 0 ≤ x ∧ x ≤ M) (k : Nat) : ∀ x ∈ l.getD k [], 0 ≤ x ∧ x ≤ M := by
  intro x hx
  by_cases hk : k < l.length
  · have e : l.getD k [] = l[k] := by simp [List.getD, List.getElem?_eq_getElem hk]
    rw [e] at hx
    exact h _ (List.getElem_mem hk) x hx
  · have e : l.getD k [] = [] := by simp [List.getD, List.getElem?_eq_none (show l.length ≤ k by omega)]
    rw [e] at hx; cases hx
theorem getD_len {l : List (List Int)} {m : Nat} (h : ∀ r ∈ l, r.length ≤ m) (k : Nat) : (l.getD k []).length ≤ m := by
  by_cases hk : k < l.length
  · have e : l.getD k [] = l[k] := by simp [List.getD, List.getElem?_eq_getElem hk]
    rw [e]; exact h _ (List.getElem_mem hk)
  · have e : l.getD k [] = [] := by simp [List.getD, List.getElem?_eq_none (show l.length ≤ k by omega)]
    rw [e]; simp
theorem chgTo_bounds {l cs : List (List Int)} (hl : ∀ r ∈ l, r.length ≤ 4) (hx : ∀ r ∈ l, ∀ x ∈ r, 0 ≤ x ∧ x ≤ 10100) (hy : ∀ r ∈ cs, ∀ x ∈ r, 0 ≤ x ∧ x ≤ 10100) (k : Nat) : 0 ≤ chgTo l cs k ∧ chgTo l cs k ≤ k * 40400 := by
  induction k with
  | zero => simp [chgTo]
  | succ k ih =>
    rw [chgTo_succ, Int.natCast_add, Int.add_mul]
    have h1 := costTo_bounds (by omega) (getD_row hx k) (getD_row hy k) (l.getD k []).length
    have h2 := getD_len hl k
    unfold rowCost
    omega

set_option maxRecDepth 100000 in
set_option maxHeartbeats 1000000 in
theorem cost_any (b m f : Value) (P : Nat) (A : Option Addr) (c : Nat) (cs : List (List Int)) (r : Nat) (A' : Option Addr) (c' : Nat) (xs : List Int) (w : World) (h : IsRows w w.heap.size A cs)
    (hW : Blk w P 124 #[b, .slice A cs.length c, f, m]) (hx : IsInts w w.heap.size A' xs) (hr : r < cs.length) (hl : xs.length ≤ 4) (hlen : (cs.getD r []).length = xs.length)
    (bx : ∀ x ∈ xs, 0 ≤ x ∧ x ≤ 10100) (bc : ∀ r ∈ cs, ∀ x ∈ r, 0 ≤ x ∧ x ≤ 10100) :
    Calls Try.prog 80 #[.pointer (some ⟨P, 0, none⟩), .int .i64 r, .slice A' xs.length c'] w fun e w' => e = .returned (.int .i64 (rowCost xs (cs.getD r []))) ∧ w = w' := by
  obtain ⟨e1, e2, e3, e4⟩ := hW.c4
  have hcr : cs.getD r [] = cs[r] := by simp [List.getD, List.getElem?_eq_getElem hr]
  have by_ := getD_row bc r
  have HB := hid (costTo_bounds (by omega) bx by_)
  obtain ⟨a, A1, c1, rfl, hb, hc, h1, h2, h3⟩ := h r cs[r] (List.getElem?_eq_getElem hr)
  rw [← hcr] at hc h1 h3
  have HS := hid (costTo_succ xs (cs.getD r []))
  generalize hys : cs.getD r [] = ys at *
  have hrI : (r : Int) < (cs.length : Int) := by omega
  clear h hW bc hcr hys
  rw [hlen] at hc
  go_enter Try.func80, Try.ntmps80
  go_wp2
  go_loop [6, 11] (fun t i => ∃ k : Nat, k ≤ xs.length ∧ i = .int .i64 k ∧ t = .int .i64 (costTo xs ys k)) (fun _ i => xs.length - (intOf i).toNat)
  case atStart => exact ⟨0, Nat.zero_le _, rfl, rfl⟩
  case round =>
    obtain ⟨k, hk, rfl, rfl⟩ := hrel
    by_cases hlt : k < xs.length
    · obtain ⟨a2, rfl, hb2, hc2⟩ := hx k xs[k] (List.getElem?_eq_getElem hlt)
      obtain ⟨a3, rfl, hb3, hc3⟩ := h3 k (ys[k]'(by omega)) (List.getElem?_eq_getElem (by omega))
      have hx1 := bx xs[k] (List.getElem_mem hlt)
      have hy1 := by_ (ys[k]'(by omega)) (List.getElem_mem _)
      obtain ⟨hb4, hb5⟩ := HB.out k
      have HX := hid (show awayOf (xs.getD k 0) (ys.getD k 0) = awayOf xs[k] (ys[k]'(by omega)) by simp [List.getD, List.getElem?_eq_getElem hlt, List.getElem?_eq_getElem (show k < ys.length by omega)])
      have hkI : (k : Int) < (xs.length : Int) := by omega
      generalize xs[k] = x at *
      generalize ys[k]'(by omega) = y at *
      obtain ⟨ha1, ha2⟩ := awayOf_bounds hx1 (M := 10100) hy1
      have HA := hid (fun W => away_any x y W (by omega) (by omega) (by omega) (by omega))
      clear hx h3 bx by_
      go_wp2_with fail
      refine (HA.out _).mono ?_
      rintro e w2 ⟨rfl, rfl⟩
      change 0 ≤ max (x - y) (y - x) at ha1
      change max (x - y) (y - x) ≤ 10100 at ha2
      generalize hq : max (x - y) (y - x) = q at *
      have HQ := hid hq
      clear hq
      go_wp2
      go_round
      case rel => exact ⟨k + 1, by omega, by go_num, by rw [HS.out, HX.out, awayOf, HQ.out]⟩
      case measure => simp [intOf]; omega
    · obtain rfl : k = xs.length := by omega
      go_wp2
      go_ret
      exact ⟨rfl, rfl⟩
end Go.Proofs.Ytgoianldiomdoaa
/- change: the change of numbers that have the rows and columns of a table. -/
namespace Go.Proofs.Ytgoianldiomdoaa
open Go.RowKit Go.Shelf

theorem getD_get {l : List (List Int)} {k : Nat} (h : k < l.length) : l.getD k [] = l[k] := by simp [List.getD, List.getElem?_eq_getElem h]
theorem getD_geti {l : List Int} {k : Nat} (h : k < l.length) : l.getD k 0 = l[k] := by simp [List.getD, List.getElem?_eq_getElem h]

set_option maxRecDepth 100000 in
set_option maxHeartbeats 1000000 in
theorem change_any (b f : Value) (A : Option Addr) (c : Nat) (cs : List (List Int)) (A' : Option Addr) (c' : Nat) (l : List (List Int)) (w : World) (h : IsRows w w.heap.size A cs) (hx : IsRows w w.heap.size A' l)
    (hn : l.length ≤ 8) (hln : l.length = cs.length) (hl : ∀ r ∈ l, r.length ≤ 4) (hlen : ∀ k, (l.getD k []).length = (cs.getD k []).length)
    (bx : ∀ r ∈ l, ∀ x ∈ r, 0 ≤ x ∧ x ≤ 10100) (bc : ∀ r ∈ cs, ∀ x ∈ r, 0 ≤ x ∧ x ≤ 10100) :
    Calls Try.prog 74 #[.agg #[b, .slice A cs.length c, f], .slice A' l.length c'] w fun e w' => e = .returned (.int .i64 (changeOf l cs)) ∧ Below w.heap.size w w' := by
  have hB := below_box (w := w) #[b, .slice A cs.length c, f] 33
  have HB := hid (chgTo_bounds hl bx bc)
  have HS := hid (chgTo_succ l cs)
  have hln1 : l.length ≤ cs.length := by omega
  have hlen1 : ∀ k, (l.getD k []).length ≤ (cs.getD k []).length := fun k => by rw [hlen k]; exact Nat.le_refl _
  have HLEN := hid hlen
  clear hln hlen
  go_enter Try.func74, Try.ntmps74
  go_wp2_with fail
  refine gen (p := Code.wp _ _ _ _) (fun W => Below w.heap.size w W ∧ Blk W w.heap.size 33 #[b, .slice A cs.length c, f]) ⟨hB, Blk.new _ _ _⟩ ?_
  rintro W ⟨hW, hT⟩
  obtain ⟨e1, e2, e3⟩ := hT.c3
  have h := h.below hW
  have hx := hx.below hW
  go_loop [4, 11] (fun t i => ∃ k : Nat, k ≤ l.length ∧ i = .int .i64 k ∧ t = .int .i64 (chgTo l cs k)) (fun _ i => l.length - (intOf i).toNat)
  case atStart => exact ⟨0, Nat.zero_le _, rfl, rfl⟩
  case round =>
    obtain ⟨k, hk, rfl, rfl⟩ := hrel
    by_cases hlt : k < l.length
    · obtain ⟨a, A1, c1, rfl, hb, hc, h1, h2, h3⟩ := h k (cs[k]'(by omega)) (List.getElem?_eq_getElem (by omega))
      obtain ⟨a', A1', c1', rfl, hb', hc', h1', h2', h3'⟩ := hx k l[k] (List.getElem?_eq_getElem hlt)
      have hl4 := hl l[k] (List.getElem_mem hlt)
      have hle := HLEN.out k
      have hle1 := hlen1 k
      have hbx := bx l[k] (List.getElem_mem hlt)
      have hbc := bc (cs[k]'(by omega)) (List.getElem_mem _)
      have hc1 := HB.out k
      have hgl := getD_get hlt
      have hgc := getD_get (l := cs) (k := k) (by omega)
      have hsk := HS.out k
      rw [hgl, hgc] at hle hle1 hsk
      generalize l[k] = xs at *
      generalize cs[k]'(by omega) = ys at *
      have HBk := hid (costTo_bounds (by omega) hbx hbc)
      have HSk := hid (costTo_succ xs ys)
      have HZ := hid hsk
      have hkI : (k : Int) < (cs.length : Int) := by omega
      rw [← hle] at hc
      clear h hx hgl hgc hsk hle hlen1 bx bc hl
      go_wp2
      go_loop [4, 18] (fun t i => ∃ j : Nat, j ≤ xs.length ∧ i = .int .i64 j ∧ t = .int .i64 (chgTo l cs k + costTo xs ys j)) (fun _ i => xs.length - (intOf i).toNat)
      case atStart => exact ⟨0, Nat.zero_le _, rfl, by simp [costTo]⟩
      case round =>
        obtain ⟨j, hj, rfl, rfl⟩ := hrel
        by_cases hlj : j < xs.length
        · obtain ⟨a2, rfl, hb2, hc2⟩ := h3' j xs[j] (List.getElem?_eq_getElem hlj)
          obtain ⟨a3, rfl, hb3, hc3⟩ := h3 j (ys[j]'(by omega)) (List.getElem?_eq_getElem (by omega))
          have hx1 := hbx xs[j] (List.getElem_mem hlj)
          have hy1 := hbc (ys[j]'(by omega)) (List.getElem_mem _)
          obtain ⟨hb4, hb5⟩ := HBk.out j
          have HX := hid (show awayOf (xs.getD j 0) (ys.getD j 0) = awayOf xs[j] (ys[j]'(by omega)) by rw [getD_geti hlj, getD_geti (l := ys) (by omega)])
          have hjI : (j : Int) < (xs.length : Int) := by omega
          generalize xs[j] = x at *
          generalize ys[j]'(by omega) = y at *
          obtain ⟨ha1, ha2⟩ := awayOf_bounds hx1 (M := 10100) hy1
          have HA := hid (fun W => away_any x y W (by omega) (by omega) (by omega) (by omega))
          clear hbx hbc h3 h3'
          go_wp2_with fail
          refine (HA.out _).mono ?_
          rintro e w2 ⟨rfl, rfl⟩
          change 0 ≤ max (x - y) (y - x) at ha1
          change max (x - y) (y - x) ≤ 10100 at ha2
          generalize hq : max (x - y) (y - x) = q at *
          have HQ := hid hq
          clear hq
          go_wp2
          go_round
          case rel => exact ⟨j + 1, by omega, by go_num, by rw [HSk.out, HX.out, awayOf, HQ.out, Int.add_assoc]⟩
          case measure => simp [intOf]; omega
        · obtain rfl : j = xs.length := by omega
          go_wp2
          go_round
          case rel => exact ⟨k + 1, by omega, by go_num, by rw [HZ.out, rowCost]⟩
          case measure => simp [intOf]; omega
    · obtain rfl : k = l.length := by omega
      go_wp2
      go_ret
      exact ⟨rfl, hW⟩
end Go.Proofs.Ytgoianldiomdoaa
/- CheckTable: the error of a table, for every table that can be read. -/
namespace Go.Proofs.Ytgoianldiomdoaa
open Go.RowKit Go.Shelf

def narrowB (xs : List Int) : Bool := decide (xs.length ≤ 4)
/-- the number of a table's error -/
def chkE (b : Int) (cs : List (List Int)) (fs : List Fx) : Int :=
  if decide (5 < (cs.length : Int)) || !cs.all narrowB || decide (10 < (fs.length : Int)) then 3 else
  if !withinB b 2 100 || ((colsOf cs : Int) == 0) || !cs.all (rowB (colsOf cs) 10000) || !fs.all (fixOkB cs.length (colsOf cs)) then 1 else 0

set_option maxRecDepth 10000 in
set_option maxHeartbeats 1000000 in
theorem check_any (b : Int) (A : Option Addr) (c : Nat) (cs : List (List Int)) (A2 : Option Addr) (c2 : Nat) (fs : List Fx) (w : World) (h : IsRows w w.heap.size A cs) (hf : IsFixes w w.heap.size A2 fs)
    (hl : cs.length ≤ c) (hm : c ≤ maxLen) (hl2 : fs.length ≤ c2) (hm2 : c2 ≤ maxLen) (hk : colsOf cs ≤ maxLen) :
    Calls Try.prog 41 #[.agg #[.int .i64 b, .slice A cs.length c, .slice A2 fs.length c2]] w fun e w' => e = .returned (.int .i64 (chkE b cs fs)) ∧ Below w.heap.size w w' := by
  have hB := below_box (w := w) #[.int .i64 b, .slice A cs.length c, .slice A2 fs.length c2] 33
  have K1 := hid (fun W (hW : Below w.heap.size w W) => all_row narrowB A c cs W (h.at_ hW) hl hm 78 #[] #[] (enters_of Try.func78 (by kernel_rfl) rfl)
    (fun W1 x A' c' _ _ _ _ _ => by simpa [narrowB] using Calls.same_below (narrow_any A' x.length c' W1)))
  have K2 := hid (fun W => Calls.same_below (isBase_any b W))
  have K3 := hid (fun W (hW : Below w.heap.size w W) => columns_any (.int .i64 b) (.slice A2 fs.length c2) A c cs W (h.at_ hW))
  have K4 := hid (fun W (hW : Below w.heap.size w W) => all_row (rowB (colsOf cs) 10000) A c cs W (h.at_ hW) hl hm 75 #[.agg #[.int .i64 b, .slice A cs.length c, .slice A2 fs.length c2]] #[] (enters_of Try.func75 (by kernel_rfl) rfl)
    (fun W1 x A' c' hW1 _ h1 h2 h3 => by simpa using row_any (.int .i64 b) (.slice A2 fs.length c2) A c cs A' c' x W1 (h.at_ (then_below hW hW1)) h3 h1 h2))
  have K5 := hid (fun W (hW : Below w.heap.size w W) => all_fix (fixOkB cs.length (colsOf cs)) A2 c2 fs W (hf.at_ hW) hl2 hm2 76 #[.agg #[.int .i64 b, .slice A cs.length c, .slice A2 fs.length c2]] #[] (enters_of Try.func76 (by kernel_rfl) rfl)
    (fun W1 x hW1 _ => by simpa using fix_any (.int .i64 b) (.slice A2 fs.length c2) A c cs x W1 (h.at_ (then_below hW hW1)) (Nat.le_trans hl hm) hk))
  clear h hf hk hm hm2
  cases d1 : decide (5 < (cs.length : Int))
  · cases k1 : cs.all narrowB
    · have HR : Hid (chkE b cs fs = 3) := hid (by simp only [chkE, d1, k1]; rfl)
      rw [k1] at K1
      go_enter Try.func41, Try.ntmps41
      go_wp2_with fail
      go_region
      refine gen (p := Exit.then _ _ .normal _) (fun W => Below w.heap.size w W ∧ Blk W w.heap.size 33 #[.int .i64 b, .slice A cs.length c, .slice A2 fs.length c2]) ⟨hB.drew, Blk.new _ _ _⟩ ?_
      rintro W ⟨hW, hT⟩
      obtain ⟨e1, e2, e3⟩ := hT.c3
      go_wp2_with fail
      refine (K1.out W hW).mono ?_
      rintro e W1 ⟨rfl, hb1⟩
      have h1 := then_below hW hb1
      obtain ⟨e11, e21, e31⟩ := (hT.keep hb1).c3
      have hT1 := hT.keep hb1
      go_wp2
      go_ret
      exact ⟨by rw [HR.out]; rfl, h1⟩
    · cases d2 : decide (10 < (fs.length : Int))
      · cases k2 : withinB b 2 100
        · have HR : Hid (chkE b cs fs = 1) := hid (by simp only [chkE, d1, k1, d2, k2]; rfl)
          rw [k1] at K1
          rw [k2] at K2
          go_enter Try.func41, Try.ntmps41
          go_wp2_with fail
          go_region
          refine gen (p := Exit.then _ _ .normal _) (fun W => Below w.heap.size w W ∧ Blk W w.heap.size 33 #[.int .i64 b, .slice A cs.length c, .slice A2 fs.length c2]) ⟨hB.drew, Blk.new _ _ _⟩ ?_
          rintro W ⟨hW, hT⟩
          obtain ⟨e1, e2, e3⟩ := hT.c3
          go_wp2_with fail
          refine (K1.out W hW).mono ?_
          rintro e W1 ⟨rfl, hb1⟩
          have h1 := then_below hW hb1
          obtain ⟨e11, e21, e31⟩ := (hT.keep hb1).c3
          have hT1 := hT.keep hb1
          go_wp2_with fail
          refine (K2.out W1).mono ?_
          rintro e W2 ⟨rfl, hb2⟩
          have h2 := then_below h1 hb2
          obtain ⟨e12, e22, e32⟩ := (hT1.keep hb2).c3
          have hT2 := hT1.keep hb2
          go_wp2
          go_ret
          exact ⟨by rw [HR.out]; rfl, h2⟩
        · cases d3 : ((colsOf cs : Int) == 0)
          · cases k4 : cs.all (rowB (colsOf cs) 10000)
            · have HR : Hid (chkE b cs fs = 1) := hid (by simp only [chkE, d1, k1, d2, k2, d3, k4]; rfl)
              rw [k1] at K1
              rw [k2] at K2
              rw [k4] at K4
              go_enter Try.func41, Try.ntmps41
              go_wp2_with fail
              go_region
              refine gen (p := Exit.then _ _ .normal _) (fun W => Below w.heap.size w W ∧ Blk W w.heap.size 33 #[.int .i64 b, .slice A cs.length c, .slice A2 fs.length c2]) ⟨hB.drew, Blk.new _ _ _⟩ ?_
              rintro W ⟨hW, hT⟩
              obtain ⟨e1, e2, e3⟩ := hT.c3
              go_wp2_with fail
              refine (K1.out W hW).mono ?_
              rintro e W1 ⟨rfl, hb1⟩
              have h1 := then_below hW hb1
              obtain ⟨e11, e21, e31⟩ := (hT.keep hb1).c3
              have hT1 := hT.keep hb1
              go_wp2_with fail
              refine (K2.out W1).mono ?_
              rintro e W2 ⟨rfl, hb2⟩
              have h2 := then_below h1 hb2
              obtain ⟨e12, e22, e32⟩ := (hT1.keep hb2).c3
              have hT2 := hT1.keep hb2
              go_wp2_with fail
              refine (K3.out W2 h2).mono ?_
              rintro e W3 ⟨rfl, hb3⟩
              have h3 := then_below h2 hb3
              obtain ⟨e13, e23, e33⟩ := (hT2.keep hb3).c3
              have hT3 := hT2.keep hb3
              go_wp2_with fail
              refine (K4.out W3 h3).mono ?_
              rintro e W4 ⟨rfl, hb4⟩
              have h4 := then_below h3 hb4
              obtain ⟨e14, e24, e34⟩ := (hT3.keep hb4).c3
              have hT4 := hT3.keep hb4
              go_wp2
              go_ret
              exact ⟨by rw [HR.out]; rfl, h4⟩
            · cases k5 : fs.all (fixOkB cs.length (colsOf cs))
              · have HR : Hid (chkE b cs fs = 1) := hid (by simp only [chkE, d1, k1, d2, k2, d3, k4, k5]; rfl)
                rw [k1] at K1
                rw [k2] at K2
                rw [k4] at K4
                rw [k5] at K5
                go_enter Try.func41, Try.ntmps41
                go_wp2_with fail
                go_region
                refine gen (p := Exit.then _ _ .normal _) (fun W => Below w.heap.size w W ∧ Blk W w.heap.size 33 #[.int .i64 b, .slice A cs.length c, .slice A2 fs.length c2]) ⟨hB.drew, Blk.new _ _ _⟩ ?_
                rintro W ⟨hW, hT⟩
                obtain ⟨e1, e2, e3⟩ := hT.c3
                go_wp2_with fail
                refine (K1.out W hW).mono ?_
                rintro e W1 ⟨rfl, hb1⟩
                have h1 := then_below hW hb1
                obtain ⟨e11, e21, e31⟩ := (hT.keep hb1).c3
                have hT1 := hT.keep hb1
                go_wp2_with fail
                refine (K2.out W1).mono ?_
                rintro e W2 ⟨rfl, hb2⟩
                have h2 := then_below h1 hb2
                obtain ⟨e12, e22, e32⟩ := (hT1.keep hb2).c3
                have hT2 := hT1.keep hb2
                go_wp2_with fail
                refine (K3.out W2 h2).mono ?_
                rintro e W3 ⟨rfl, hb3⟩
                have h3 := then_below h2 hb3
                obtain ⟨e13, e23, e33⟩ := (hT2.keep hb3).c3
                have hT3 := hT2.keep hb3
                go_wp2_with fail
                refine (K4.out W3 h3).mono ?_
                rintro e W4 ⟨rfl, hb4⟩
                have h4 := then_below h3 hb4
                obtain ⟨e14, e24, e34⟩ := (hT3.keep hb4).c3
                have hT4 := hT3.keep hb4
                go_wp2_with fail
                refine (K5.out W4 h4).mono ?_
                rintro e W5 ⟨rfl, hb5⟩
                have h5 := then_below h4 hb5
                obtain ⟨e15, e25, e35⟩ := (hT4.keep hb5).c3
                have hT5 := hT4.keep hb5
                go_wp2
                go_ret
                exact ⟨by rw [HR.out]; rfl, h5⟩
              · have HR : Hid (chkE b cs fs = 0) := hid (by simp only [chkE, d1, k1, d2, k2, d3, k4, k5]; rfl)
                rw [k1] at K1
                rw [k2] at K2
                rw [k4] at K4
                rw [k5] at K5
                go_enter Try.func41, Try.ntmps41
                go_wp2_with fail
                go_region
                refine gen (p := Exit.then _ _ .normal _) (fun W => Below w.heap.size w W ∧ Blk W w.heap.size 33 #[.int .i64 b, .slice A cs.length c, .slice A2 fs.length c2]) ⟨hB.drew, Blk.new _ _ _⟩ ?_
                rintro W ⟨hW, hT⟩
                obtain ⟨e1, e2, e3⟩ := hT.c3
                go_wp2_with fail
                refine (K1.out W hW).mono ?_
                rintro e W1 ⟨rfl, hb1⟩
                have h1 := then_below hW hb1
                obtain ⟨e11, e21, e31⟩ := (hT.keep hb1).c3
                have hT1 := hT.keep hb1
                go_wp2_with fail
                refine (K2.out W1).mono ?_
                rintro e W2 ⟨rfl, hb2⟩
                have h2 := then_below h1 hb2
                obtain ⟨e12, e22, e32⟩ := (hT1.keep hb2).c3
                have hT2 := hT1.keep hb2
                go_wp2_with fail
                refine (K3.out W2 h2).mono ?_
                rintro e W3 ⟨rfl, hb3⟩
                have h3 := then_below h2 hb3
                obtain ⟨e13, e23, e33⟩ := (hT2.keep hb3).c3
                have hT3 := hT2.keep hb3
                go_wp2_with fail
                refine (K4.out W3 h3).mono ?_
                rintro e W4 ⟨rfl, hb4⟩
                have h4 := then_below h3 hb4
                obtain ⟨e14, e24, e34⟩ := (hT3.keep hb4).c3
                have hT4 := hT3.keep hb4
                go_wp2_with fail
                refine (K5.out W4 h4).mono ?_
                rintro e W5 ⟨rfl, hb5⟩
                have h5 := then_below h4 hb5
                obtain ⟨e15, e25, e35⟩ := (hT4.keep hb5).c3
                have hT5 := hT4.keep hb5
                go_wp2
                go_ret
                exact ⟨by rw [HR.out]; rfl, h5⟩
          · have HR : Hid (chkE b cs fs = 1) := hid (by simp only [chkE, d1, k1, d2, k2, d3]; rfl)
            rw [k1] at K1
            rw [k2] at K2
            go_enter Try.func41, Try.ntmps41
            go_wp2_with fail
            go_region
            refine gen (p := Exit.then _ _ .normal _) (fun W => Below w.heap.size w W ∧ Blk W w.heap.size 33 #[.int .i64 b, .slice A cs.length c, .slice A2 fs.length c2]) ⟨hB.drew, Blk.new _ _ _⟩ ?_
            rintro W ⟨hW, hT⟩
            obtain ⟨e1, e2, e3⟩ := hT.c3
            go_wp2_with fail
            refine (K1.out W hW).mono ?_
            rintro e W1 ⟨rfl, hb1⟩
            have h1 := then_below hW hb1
            obtain ⟨e11, e21, e31⟩ := (hT.keep hb1).c3
            have hT1 := hT.keep hb1
            go_wp2_with fail
            refine (K2.out W1).mono ?_
            rintro e W2 ⟨rfl, hb2⟩
            have h2 := then_below h1 hb2
            obtain ⟨e12, e22, e32⟩ := (hT1.keep hb2).c3
            have hT2 := hT1.keep hb2
            go_wp2_with fail
            refine (K3.out W2 h2).mono ?_
            rintro e W3 ⟨rfl, hb3⟩
            have h3 := then_below h2 hb3
            obtain ⟨e13, e23, e33⟩ := (hT2.keep hb3).c3
            have hT3 := hT2.keep hb3
            go_wp2
            go_ret
            exact ⟨by rw [HR.out]; rfl, h3⟩
      · have HR : Hid (chkE b cs fs = 3) := hid (by simp only [chkE, d1, k1, d2]; rfl)
        rw [k1] at K1
        go_enter Try.func41, Try.ntmps41
        go_wp2_with fail
        go_region
        refine gen (p := Exit.then _ _ .normal _) (fun W => Below w.heap.size w W ∧ Blk W w.heap.size 33 #[.int .i64 b, .slice A cs.length c, .slice A2 fs.length c2]) ⟨hB.drew, Blk.new _ _ _⟩ ?_
        rintro W ⟨hW, hT⟩
        obtain ⟨e1, e2, e3⟩ := hT.c3
        go_wp2_with fail
        refine (K1.out W hW).mono ?_
        rintro e W1 ⟨rfl, hb1⟩
        have h1 := then_below hW hb1
        obtain ⟨e11, e21, e31⟩ := (hT.keep hb1).c3
        have hT1 := hT.keep hb1
        go_wp2
        go_ret
        exact ⟨by rw [HR.out]; rfl, h1⟩
  · have HR : Hid (chkE b cs fs = 3) := hid (by simp only [chkE, d1]; rfl)
    go_enter Try.func41, Try.ntmps41
    go_wp2_with fail
    go_region
    refine gen (p := Exit.then _ _ .normal _) (fun W => Below w.heap.size w W ∧ Blk W w.heap.size 33 #[.int .i64 b, .slice A cs.length c, .slice A2 fs.length c2]) ⟨hB.drew, Blk.new _ _ _⟩ ?_
    rintro W ⟨hW, hT⟩
    obtain ⟨e1, e2, e3⟩ := hT.c3
    go_wp2
    go_ret
    exact ⟨by rw [HR.out]; rfl, hW⟩
end Go.Proofs.Ytgoianldiomdoaa
/- Learn: the counts of which a number can be a neighbour, for every base and number. -/
namespace Go.Proofs.Ytgoianldiomdoaa
open Go.RowKit Go.Shelf

set_option maxRecDepth 100000 in
set_option maxHeartbeats 1000000 in
theorem learn_any (b n : Int) (w : World) : Calls Try.prog 26 #[.int .i64 b, .int .i64 n] w fun e w' =>
    e = .returned (if withinB b 2 100 = false then .tuple #[.agg #[.int .i64 0, .int .i64 0], .int .i64 1] else if withinB n 0 10100 = false ∨ n % b ≠ 0 then .tuple #[.agg #[.int .i64 0, .int .i64 0], .int .i64 2] else
      .tuple #[.agg #[.int .i64 (max 0 (n - b + 1)), .int .i64 (n + b - 1)], .int .i64 0]) ∧ Below w.heap.size w w' := by
  have K1 := hid (fun W => isBase_any b W)
  have K2 := hid (fun W => isNumber_any n W)
  cases h1 : withinB b 2 100
  · rw [h1] at K1
    simp only [if_true]
    go_enter Try.func26, Try.ntmps26
    go_wp2_with fail
    refine (K1.out _).mono ?_
    rintro e w2 ⟨rfl, rfl⟩
    go_wp2
    exact bodyPost_ret (v := .tuple #[.agg #[.int .i64 0, .int .i64 0], .int .i64 1]) (by simp [results, Try.results26, go_sem]) rfl ⟨rfl, (Below.refl _ _).alloc (Nat.le_refl _) _⟩
  · rw [h1] at K1
    have hb : 2 ≤ b ∧ b ≤ 100 := by simpa [withinB] using h1
    cases h2 : withinB n 0 10100
    · rw [h2] at K2
      simp only [Bool.true_eq_false, if_false, true_or, if_true]
      clear h1 h2
      go_enter Try.func26, Try.ntmps26
      go_wp2_with fail
      refine (K1.out _).mono ?_
      rintro e w2 ⟨rfl, rfl⟩
      go_wp2_with fail
      refine (K2.out _).mono ?_
      rintro e w2 ⟨rfl, rfl⟩
      go_wp2
      exact bodyPost_ret (v := .tuple #[.agg #[.int .i64 0, .int .i64 0], .int .i64 2]) (by simp [results, Try.results26, go_sem]) rfl ⟨rfl, (Below.refl _ _).alloc (Nat.le_refl _) _⟩
    · rw [h2] at K2
      have hn : 0 ≤ n ∧ n ≤ 10100 := by simpa [withinB] using h2
      simp only [Bool.true_eq_false, if_false, false_or]
      clear h1 h2
      by_cases h3 : n % b = 0
      · rw [if_neg (by simp [h3])]
        have h4 : (n % b != 0) = false := by simp [h3]
        clear h3
        go_enter Try.func26, Try.ntmps26
        go_wp2_with fail
        refine (K1.out _).mono ?_
        rintro e w2 ⟨rfl, rfl⟩
        go_wp2_with fail
        refine (K2.out _).mono ?_
        rintro e w2 ⟨rfl, rfl⟩
        go_wp2
        all_goals
          refine bodyPost_ret (v := .tuple #[.agg #[.int .i64 (max 0 (n - b + 1)), .int .i64 (n + b - 1)], .int .i64 0]) (by simp [results, Try.results26, go_sem]; try omega) rfl ⟨rfl, ?_⟩
          exact (Below.refl _ _).alloc (Nat.le_refl _) _
      · rw [if_pos (by simp [h3])]
        have h4 : (n % b != 0) = true := by simp [h3]
        clear h3
        go_enter Try.func26, Try.ntmps26
        go_wp2_with fail
        refine (K1.out _).mono ?_
        rintro e w2 ⟨rfl, rfl⟩
        go_wp2_with fail
        refine (K2.out _).mono ?_
        rintro e w2 ⟨rfl, rfl⟩
        go_wp2
        exact bodyPost_ret (v := .tuple #[.agg #[.int .i64 0, .int .i64 0], .int .i64 2]) (by simp [results, Try.results26, go_sem]) rfl ⟨rfl, (Below.refl _ _).alloc (Nat.le_refl _) _⟩
end Go.Proofs.Ytgoianldiomdoaa
/- Clone: a copy of a list of numbers, in memory of its own. -/
namespace Go.Proofs.Ytgoianldiomdoaa
open Go.RowKit Go.Shelf

theorem int_info : (Try.prog.info? 3).map (fun i => (i.zero, i.size, i.bytes)) = some (some (.int .i64 0), 1, 8) := by kernel_rfl

/-- a result that is a list of numbers, in whatever memory -/
def GivesInts (xs : List Int) (w : World) (e : Ending) (w' : World) : Prop := ∃ A c, e = .returned (.slice A xs.length c) ∧ xs.length ≤ c ∧ c ≤ maxLen ∧ IsInts w' w'.heap.size A xs ∧ (∀ a, A = some a → w.heap.size ≤ a.block ∧ ∃ cs, Blk w' a.block 3 cs) ∧ (A = none → c = 0) ∧ Below w.heap.size w w'

theorem own_ints {w : World} {base n : Nat} {v : Value} {xs : List Int} (hn : n = xs.length) (h : w.ownsRow base 3 1 v n (xs.map (Value.int .i64))) :
    ∃ A c, v = .slice A xs.length c ∧ xs.length ≤ c ∧ c ≤ maxLen ∧ IsInts w w.heap.size A xs ∧ (∀ a, A = some a → base ≤ a.block ∧ ∃ cs, Blk w a.block 3 cs) ∧ (A = none → c = 0) := by
  subst hn
  rcases h.2 with ⟨rfl, h0⟩ | ⟨g, cap, cur, rfl, hb, hg, h1, h2, h3, h4⟩
  · have : xs = [] := List.eq_nil_of_length_eq_zero h0
    subst this
    exact ⟨none, 0, rfl, Nat.le_refl _, Nat.zero_le _, (fun k x hk => by simp at hk), (fun a e => by cases e), fun _ => rfl⟩
  · refine ⟨_, cap, rfl, h1, h2, (fun k x hk => ⟨_, rfl, (Array.getElem?_eq_some_iff.1 hg).1, ?_⟩), (fun a e => by cases e; exact ⟨hb, cur, hg⟩), fun e => by cases e⟩
    exact h.cells (g := g) rfl k _ (by simp [hk])

theorem ints_news {w : World} {n : Nat} {a : Addr} {xs : List Int} (h : IsInts w n (some a) xs) : ∀ j u, (xs.map (Value.int .i64))[j]? = some u → w.cell? (a.add j) = some u := by
  intro j u hj
  rw [List.getElem?_map] at hj
  cases hx : xs[j]? with
  | none => rw [hx] at hj; cases hj
  | some x =>
    rw [hx] at hj
    obtain ⟨a', e, _, hc⟩ := h j x hx
    injection e with e
    subst e
    simp at hj
    rw [← hj]; exact hc
theorem ints_one (xs : List Int) : ∀ u ∈ xs.map (Value.int .i64), u.oneCell' = true := by
  intro u hu
  obtain ⟨x, _, rfl⟩ := List.mem_map.1 hu
  rfl

set_option maxRecDepth 10000 in
set_option maxHeartbeats 400000 in
theorem clone_any (A : Option Addr) (c : Nat) (xs : List Int) (w : World) (h : IsInts w w.heap.size A xs) (hA : A = none → c = 0) (hl : xs.length ≤ 1000000) :
    Calls Try.prog 49 #[.slice A xs.length c] w (GivesInts xs w) := by
  obtain ⟨i0, hi0, hz0, hz1, hz2⟩ := info_parts int_info
  have heq := fun (B : Option Addr) (n k : Nat) (W : World) => Lib.run_eql_slice_nil (P := Try.prog) W 56 3 B n k 0 0 Try.underlying56
  cases A with
  | none =>
    have hx : xs = [] := by
      cases xs with
      | nil => rfl
      | cons x l => obtain ⟨a, e, _⟩ := h 0 x rfl; cases e
    subst hx
    obtain rfl := hA rfl
    go_enter Try.func49, Try.ntmps49
    go_wp2
    go_ret
    exact ⟨none, 0, rfl, Nat.le_refl _, Nat.zero_le _, (fun k x hk => by simp at hk), (fun a e => by cases e), fun _ => rfl, Below.refl _ _⟩
  | some a =>
    have hB := below_box (w := w) #[] 3
    have hnews := hid (ints_news (h.at_ hB))
    have hown : (w.alloc (.cells #[] 3)).ownsRow w.heap.size 3 1 (.slice (some ⟨w.heap.size, 0, none⟩) 0 0) 0 [] := World.ownsRow_made w #[] 0 (Nat.le_refl _) (by simp [maxLen]) rfl
    have HO := hid hown
    clear hA h hown
    go_enter Try.func49, Try.ntmps49
    go_wp2_with (at_builtin; refine wpList_append_own_at _ rfl _ _ 56 rfl w.heap.size 3 i0 (.int .i64 0) 1 8 Try.underlying56 hi0 hz0 hz1 hz2 rfl (by decide) _ 0 [] rfl HO.out a xs.length c (xs.map (Value.int .i64)) rfl (by simp) hnews.out (ints_one xs) (by simp only [maxLen]; omega) (by omega) (by simp) ?_; intro v' w1 hown' hgrow _ _)
    go_ret
    obtain ⟨A1, c1, rfl, h1, h2, h3, h4, h5⟩ := own_ints (xs := xs) (n := 0 + xs.length) (by omega) (by simpa using hown')
    exact ⟨A1, c1, rfl, h1, h2, h3, h4, h5, hB.grown hgrow (by simp) (fun k hk => by cases (show some w.heap.size = some k from hk); exact Nat.le_refl _)⟩
end Go.Proofs.Ytgoianldiomdoaa
/- smallest: the smallest of some numbers, at least one. -/
namespace Go.Proofs.Ytgoianldiomdoaa
open Go.RowKit

def minTo (xs : List Int) (k : Nat) : Int := (xs.take k).foldl min (xs.getD 0 0)
def minOf (xs : List Int) : Int := xs.foldl min (xs.getD 0 0)
theorem minTo_succ {xs : List Int} {k : Nat} (h : k < xs.length) : minTo xs (k + 1) = min (minTo xs k) xs[k] := by
  unfold minTo; rw [List.take_succ_eq_append_getElem h, List.foldl_append]; rfl
theorem minTo_one {xs : List Int} (h : 0 < xs.length) : minTo xs 1 = xs[0] := by
  cases xs with
  | nil => simp at h
  | cons x l => simp [minTo]
theorem minTo_all (xs : List Int) : minTo xs xs.length = minOf xs := by unfold minTo minOf; rw [List.take_length]
theorem minOf_two (x y : Int) : minOf [x, y] = min x y := by simp [minOf]

set_option maxRecDepth 100000 in
set_option maxHeartbeats 1000000 in
theorem min_any (A : Option Addr) (c : Nat) (xs : List Int) (w : World) (h : IsInts w w.heap.size A xs) (h0 : 0 < xs.length) (hl : xs.length ≤ 1000000) :
    Calls Try.prog 86 #[.slice A xs.length c] w fun e w' => e = .returned (.int .i64 (minOf xs)) ∧ w = w' := by
  obtain ⟨a, rfl, hb0, hc0⟩ := h 0 xs[0] (List.getElem?_eq_getElem h0)
  have H1 := hid (minTo_one h0)
  have HA := hid (minTo_all xs)
  have hI : ¬ (xs.length : Int) < 1 := by omega
  have h0I : (0 : Int) < (xs.length : Int) := by omega
  generalize xs[0] = x0 at *
  have hc0' : w.cell? a = some (.int .i64 x0) := hc0
  have hc0'' : w.cell? ⟨a.block, a.off, none⟩ = some (.int .i64 x0) ∨ True := .inr trivial
  clear hc0''
  go_enter Try.func86, Try.ntmps86
  go_wp2
  go_loop [3, 4] (fun m i => ∃ k : Nat, 1 ≤ k ∧ k ≤ xs.length ∧ i = .int .i64 k ∧ m = .int .i64 (minTo xs k)) (fun _ i => xs.length - (intOf i).toNat)
  case atStart => exact ⟨1, Nat.le_refl _, h0, rfl, by rw [H1.out]⟩
  case round =>
    obtain ⟨k, hk1, hk, rfl, rfl⟩ := hrel
    by_cases hlt : k < xs.length
    · obtain ⟨a2, e2, hb2, hc2⟩ := h k xs[k] (List.getElem?_eq_getElem hlt)
      injection e2 with e2
      subst e2
      have HS := hid (minTo_succ hlt)
      have hkI : (k : Int) < (xs.length : Int) := by omega
      generalize xs[k] = x at *
      go_wp2
      all_goals
        go_round
        case rel => exact ⟨k + 1, by omega, by omega, by go_num, by rw [HS.out]; try (congr 1; omega)⟩
        case measure => simp [intOf]; omega
    · obtain rfl : k = xs.length := by omega
      go_wp2
      go_ret
      exact ⟨ret_int HA.out, rfl⟩

set_option maxHeartbeats 400000 in
theorem smallest_any (A : Option Addr) (c : Nat) (xs : List Int) (w : World) (h : IsInts w w.heap.size A xs) (h0 : 0 < xs.length) (hl : xs.length ≤ 1000000) :
    Calls Try.prog 55 #[.slice A xs.length c] w fun e w' => e = .returned (.int .i64 (minOf xs)) ∧ w = w' := by
  have K := hid (min_any A c xs w h h0 hl)
  clear h
  go_enter Try.func55, Try.ntmps55
  go_wp2_with (go_at_call 86; refine (K.out).mono ?_; rintro e w2 ⟨rfl, rfl⟩)
  go_ret
  exact ⟨rfl, rfl⟩
end Go.Proofs.Ytgoianldiomdoaa
/- bits.Mul at small numbers. -/
namespace Go.Proofs.Ytgoianldiomdoaa
open Go.RowKit

set_option maxRecDepth 100000 in
set_option maxHeartbeats 1000000 in
theorem mul64_small (c : Nat) (hc : c ≤ 4) (w : World) : Calls Try.prog 98 #[.int .u64 1, .int .u64 c] w fun e w' => e = .returned (.tuple #[.int .u64 0, .int .u64 c]) ∧ w = w' := by
  have : c = 0 ∨ c = 1 ∨ c = 2 ∨ c = 3 ∨ c = 4 := by omega
  rcases this with rfl | rfl | rfl | rfl | rfl
  all_goals
    go_enter Try.func98, Try.ntmps98
    go_wp2
    go_ret2
    exact ⟨rfl, rfl⟩
set_option maxRecDepth 100000 in
set_option maxHeartbeats 1000000 in
theorem mul_small (c : Nat) (hc : c ≤ 4) (w : World) : Calls Try.prog 81 #[.int .u64 1, .int .u64 c] w fun e w' => e = .returned (.tuple #[.int .u64 0, .int .u64 c]) ∧ w = w' := by
  have K := hid (fun w => mul64_small c hc w)
  go_enter Try.func81, Try.ntmps81
  go_wp2_with (go_at_call 98; refine (K.out _).mono ?_; rintro e w2 ⟨rfl, rfl⟩)
  go_ret2
  exact ⟨rfl, rfl⟩
end Go.Proofs.Ytgoianldiomdoaa
/- The frame behind a statement whose order is open, written out. -/
namespace Go.Proofs.Ytgoianldiomdoaa
open Go.RowKit

/-- a list in which some places are replaced -/
def mix (ds : List Nat) (g : Nat → Value) : Nat → List Value → List Value
  | _, [] => []
  | i, v :: vs => (bif ds.contains i then g i else v) :: mix ds g (i + 1) vs
theorem mix_get (ds : List Nat) (g : Nat → Value) : ∀ (vs : List Value) (i k : Nat), (mix ds g i vs)[k]? = (vs[k]?).map fun v => bif ds.contains (i + k) then g (i + k) else v
  | [], i, k => by simp [mix]
  | v :: vs, i, 0 => by simp [mix]
  | v :: vs, i, k + 1 => by
    simp only [mix, List.getElem?_cons_succ]
    rw [mix_get ds g vs (i + 1) k, Nat.add_assoc, Nat.add_comm 1 k]
theorem act_mix {a a' : Act} (ds : List Nat) (hs : a'.tmps.size = a.tmps.size) (hd : a'.defers = a.defers) (h : ∀ i, i < a.tmps.size → ds.contains i = false → a'.tmps.getD i undef = a.tmps.getD i undef) :
    a' = { tmps := (mix ds (fun i => a'.tmps.getD i undef) 0 a.tmps.toList).toArray, defers := a.defers } := by
  obtain ⟨t', d'⟩ := a'
  obtain ⟨t, d⟩ := a
  simp only at hs hd h ⊢
  subst hd
  congr 1
  apply Array.ext_getElem?
  intro i
  show t'[i]? = (mix ds (fun i => t'.getD i undef) 0 t.toList).toArray[i]?
  rw [show (mix ds (fun i => t'.getD i undef) 0 t.toList).toArray[i]? = (mix ds (fun i => t'.getD i undef) 0 t.toList)[i]? from by simp, mix_get, Nat.zero_add]
  by_cases hi : i < t.size
  · have h1 : t.toList[i]? = some t[i] := by simp [hi]
    rw [h1]
    simp only [Option.map_some]
    have h2 : t'[i]? = some (t'.getD i undef) := by simp [Array.getD, hs, hi]
    rw [h2]
    cases hc : ds.contains i
    · simp only [cond_false]
      rw [h i hi hc]
      simp [Array.getD, hi]
    · simp only [cond_true]
  · have h1 : t.toList[i]? = none := by simp; omega
    rw [h1]
    simp only [Option.map_none]
    exact Array.getElem?_eq_none (by omega)
def dstsIn (l : List Oper) (n : Nat) (ds : List Nat) : Bool := (List.range n).all fun i => ((l.toArray[i]?).bind (·.dst)).all fun d => ds.contains d
section
variable {l : List Oper} {n : Nat} {R : Nat → Value → World → Prop} {St : World → World → Prop} {G : Array Bool → World → Prop} {a : Act} {w : World} {li : Array Bool} {a' : Act} {W : World}
theorem Done.act (h : Done l n R St G a w li a' W) (ds : List Nat) (hds : dstsIn l n ds = true) :
    a' = { tmps := (mix ds (fun i => a'.tmps.getD i undef) 0 a.tmps.toList).toArray, defers := a.defers } := by
  refine act_mix ds h.size h.defers fun i hi hc => h.rest i fun k hk e => ?_
  have h1 := List.all_eq_true.1 hds k (List.mem_range.2 hk)
  rw [e] at h1
  simp only [Option.all_some] at h1
  rw [h1] at hc
  cases hc
theorem Done.act_then (h : Done l n R St G a w li a' W) (ds : List Nat) (hds : dstsIn l n ds = true) {a4 : Act} {d : Nat} (hs : a4.tmps.size = a'.tmps.size) (hd : a4.defers = a'.defers) (ho : ∀ d', d' ≠ d → a4.tmps.getD d' undef = a'.tmps.getD d' undef) (hdd : ds.contains d = true) :
    a4 = { tmps := (mix ds (fun i => a4.tmps.getD i undef) 0 a.tmps.toList).toArray, defers := a.defers } := by
  refine act_mix ds (hs.trans h.size) (hd.trans h.defers) fun i hi hc => (ho i (fun e => by rw [e, hdd] at hc; cases hc)).trans (h.rest i fun k hk e => ?_)
  have h1 := List.all_eq_true.1 hds k (List.mem_range.2 hk)
  rw [e] at h1
  simp only [Option.all_some] at h1
  rw [h1] at hc
  cases hc
theorem Done.keeps (h : Done l n R St G a w li a' W) {ds : List Nat} (hds : dstsIn l n ds = true) : ∀ i, ds.contains i = false → a'.tmps.getD i undef = a.tmps.getD i undef := fun i hc => h.rest i fun k hk e => by
  have h1 := List.all_eq_true.1 hds k (List.mem_range.2 hk)
  rw [e] at h1
  simp only [Option.all_some] at h1
  rw [h1] at hc
  cases hc
theorem keeps_then {ds : List Nat} {b b' : Act} {d : Nat} (h : ∀ i, ds.contains i = false → b.tmps.getD i undef = a.tmps.getD i undef) (ho : ∀ d', d' ≠ d → b'.tmps.getD d' undef = b.tmps.getD d' undef) (hdd : ds.contains d = true) :
    ∀ i, ds.contains i = false → b'.tmps.getD i undef = a.tmps.getD i undef := fun i hc => (ho i (fun e => by rw [e, hdd] at hc; cases hc)).trans (h i hc)
end
end Go.Proofs.Ytgoianldiomdoaa
