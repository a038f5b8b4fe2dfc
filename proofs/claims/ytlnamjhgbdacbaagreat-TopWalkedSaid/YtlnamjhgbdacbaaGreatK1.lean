/- The walks and the plain laws of this part of the program, part 1: what each computes. Conditions stand at each theorem. -/
import Derived.Below
import Derived.Test.YtlnamjhgbdacbaaGreatRows
import Derived.WalkKit
import Derived.WalkSpells
import Derived.WalkLawsBesides
import Derived.Deep.Quiet
import Derived.Deep.QuietTactic
import Derived.BigQuiet
import Derived.Laws.EntriesVeiled
import Derived.Shelf.Abstract
/- Sums over indices, in plain words. No condition. -/
namespace Go.Proofs.YtlnamjhgbdacbaaGreat

/-- the sum of f 0 .. f (k - 1) -/
def sumN (f : Nat → Int) : Nat → Int
  | 0 => 0
  | k + 1 => sumN f k + f k
theorem sumN_zero (f : Nat → Int) : sumN f 0 = 0 := rfl
theorem sumN_succ (f : Nat → Int) (k : Nat) : sumN f (k + 1) = sumN f k + f k := rfl
theorem sumN_congr {f g : Nat → Int} : ∀ {k : Nat}, (∀ i, i < k → f i = g i) → sumN f k = sumN g k
  | 0, _ => rfl
  | k + 1, h => by rw [sumN_succ, sumN_succ, sumN_congr (k := k) fun i hi => h i (by omega), h k (by omega)]
theorem sumN_le {f g : Nat → Int} : ∀ {k : Nat}, (∀ i, i < k → f i ≤ g i) → sumN f k ≤ sumN g k
  | 0, _ => Int.le_refl _
  | k + 1, h => by
    have h1 := sumN_le (k := k) fun i hi => h i (by omega)
    have h2 := h k (by omega)
    rw [sumN_succ, sumN_succ]; omega
theorem sumN_add (f g : Nat → Int) : ∀ k, sumN (fun i => f i + g i) k = sumN f k + sumN g k
  | 0 => rfl
  | k + 1 => by rw [sumN_succ, sumN_succ, sumN_succ, sumN_add f g k]; omega
theorem sumN_sub (f g : Nat → Int) : ∀ k, sumN (fun i => f i - g i) k = sumN f k - sumN g k
  | 0 => rfl
  | k + 1 => by rw [sumN_succ, sumN_succ, sumN_succ, sumN_sub f g k]; omega
theorem sumN_const (c : Int) : ∀ k : Nat, sumN (fun _ => c) k = k * c
  | 0 => by simp [sumN]
  | k + 1 => by rw [sumN_succ, sumN_const c k, Int.natCast_add, Int.add_mul]; simp
theorem sumN_mul (f : Nat → Int) (c : Int) : ∀ k, sumN (fun i => f i * c) k = sumN f k * c
  | 0 => by simp [sumN]
  | k + 1 => by rw [sumN_succ, sumN_succ, sumN_mul f c k, Int.add_mul]
theorem sumN_null {f : Nat → Int} {k : Nat} (h : ∀ i, i < k → f i = 0) : sumN f k = 0 := by
  rw [sumN_congr h, sumN_const]; simp
theorem sumN_nonneg {f : Nat → Int} {k : Nat} (h : ∀ i, i < k → 0 ≤ f i) : 0 ≤ sumN f k := by
  have := sumN_le (f := fun _ => 0) (g := f) (k := k) h
  rw [sumN_const] at this; simpa using this
theorem sumN_bound {f : Nat → Int} {k : Nat} {M : Int} (h : ∀ i, i < k → f i ≤ M) : sumN f k ≤ k * M := by
  have := sumN_le (f := f) (g := fun _ => M) (k := k) h
  rwa [sumN_const] at this
theorem sumN_mono {f : Nat → Int} {j k : Nat} (hjk : j ≤ k) (h : ∀ i, i < k → 0 ≤ f i) : sumN f j ≤ sumN f k := by
  induction k with
  | zero => have : j = 0 := by omega
            subst this; exact Int.le_refl _
  | succ k ih =>
    by_cases e : j = k + 1
    · subst e; exact Int.le_refl _
    · have := ih (by omega) fun i hi => h i (by omega)
      have := h k (by omega)
      rw [sumN_succ]; omega
/-- one index alone counts -/
theorem sumN_one {f : Nat → Int} {j k : Nat} (hj : j < k) (h : ∀ i, i < k → i ≠ j → f i = 0) : sumN f k = f j := by
  induction k with
  | zero => omega
  | succ k ih =>
    rw [sumN_succ]
    by_cases e : j = k
    · subst e
      rw [sumN_null fun i hi => h i (by omega) (by omega)]; simp
    · rw [ih (by omega) (fun i hi hne => h i (by omega) hne), h k (by omega) (fun e' => e e'.symm)]; simp
/-- two orders of summing -/
theorem sumN_swap (f : Nat → Nat → Int) (a : Nat) : ∀ b, sumN (fun i => sumN (f i) b) a = sumN (fun j => sumN (fun i => f i j) a) b
  | 0 => by
    rw [sumN_zero]
    exact sumN_null fun _ _ => rfl
  | b + 1 => by
    rw [sumN_succ, ← sumN_swap f a b, ← sumN_add]
    exact sumN_congr fun i _ => rfl
/-- one value is changed -/
theorem sumN_set {f g : Nat → Int} {j k : Nat} (hj : j < k) (h : ∀ i, i < k → i ≠ j → f i = g i) : sumN f k = sumN g k + (f j - g j) := by
  have e : sumN (fun i => f i - g i) k = f j - g j := sumN_one hj fun i hi hne => by rw [h i hi hne]; omega
  rw [sumN_sub] at e
  omega
theorem sum_eq_sumN (xs : List Int) : xs.sum = sumN (fun i => xs.getD i 0) xs.length := by
  have key : ∀ k, k ≤ xs.length → (xs.take k).sum = sumN (fun i => xs.getD i 0) k := by
    intro k
    induction k with
    | zero => intro _; rfl
    | succ k ih =>
      intro hk
      have e : xs.getD k 0 = xs[k] := by rw [List.getD, List.getElem?_eq_getElem (by omega)]; rfl
      rw [List.take_succ_eq_append_getElem (by omega), List.sum_append, ih (by omega), sumN_succ, e]
      simp
  have := key xs.length (Nat.le_refl _)
  rwa [List.take_length] at this
/-- a sum by classes -/
theorem sumN_class (f : Nat → Int) (c : Nat → Nat) (k D : Nat) (h : ∀ i, i < k → c i < D) : sumN (fun d => sumN (fun i => if c i = d then f i else 0) k) D = sumN f k := by
  rw [← sumN_swap (fun i d => if c i = d then f i else 0) k D]
  refine sumN_congr fun i hi => ?_
  rw [sumN_one (h i hi) fun d _ hne => if_neg fun e => hne e.symm]
  exact if_pos rfl
/-- split by a test -/
theorem sumN_split (p : Nat → Bool) (f : Nat → Int) (k : Nat) : sumN f k = sumN (fun i => if p i then f i else 0) k + sumN (fun i => if p i then 0 else f i) k := by
  rw [← sumN_add]
  refine sumN_congr fun i _ => ?_
  cases p i <;> simp
end Go.Proofs.YtlnamjhgbdacbaaGreat
/- Maps of streets in plain words: their error, bounds, carried counts. No condition. -/
namespace Go.Proofs.YtlnamjhgbdacbaaGreat

structure Stt where
  o : Int
  n : Int
  wt : Int
  lo : Int
  hi : Int
structure Jn where
  a : Int
  b : Int
structure MapD where
  old : List Int
  nw : Int
  ss : List Stt
  js : List Jn
def MapD.S (m : MapD) (i : Nat) : Stt := m.ss.getD i ⟨0, 0, 0, 0, 0⟩
def MapD.at_ (m : MapD) (d : Nat) : Int := m.old.getD d 0
theorem MapD.S_eq {m : MapD} {i : Nat} {s : Stt} (h : m.ss[i]? = some s) : m.S i = s := by simp [MapD.S, List.getD, h]
theorem MapD.at_eq {m : MapD} {d : Nat} {x : Int} (h : m.old[d]? = some x) : m.at_ d = x := by simp [MapD.at_, List.getD, h]

/-- the sum over those of the first k streets of old district d that pass a test -/
def sumO (m : MapD) (d : Nat) (p : Nat → Bool) (g : Stt → Int) (k : Nat) : Int := sumN (fun i => if (m.S i).o = (d : Int) ∧ p i = true then g (m.S i) else 0) k
def tt : Nat → Bool := fun _ => true
def nt (p : Nat → Bool) : Nat → Bool := fun i => !p i
theorem sumO_skip {m : MapD} {d : Nat} {p : Nat → Bool} {g : Stt → Int} {k : Nat} {s : Stt} (h : m.ss[k]? = some s) (hd : s.o ≠ (d : Int)) : sumO m d p g (k + 1) = sumO m d p g k := by
  unfold sumO
  rw [sumN_succ, MapD.S_eq h, if_neg (fun e => hd e.1)]; simp
theorem sumO_take {m : MapD} {d : Nat} {p : Nat → Bool} {g : Stt → Int} {k : Nat} {s : Stt} (h : m.ss[k]? = some s) (hd : s.o = (d : Int)) (hp : p k = true) : sumO m d p g (k + 1) = sumO m d p g k + g s := by
  unfold sumO
  rw [sumN_succ, MapD.S_eq h, if_pos ⟨hd, hp⟩]
theorem sumO_drop {m : MapD} {d : Nat} {p : Nat → Bool} {g : Stt → Int} {k : Nat} (hp : p k = false) : sumO m d p g (k + 1) = sumO m d p g k := by
  unfold sumO
  rw [sumN_succ, if_neg (fun e => by rw [hp] at e; exact absurd e.2 (by decide))]; simp

def inB (n lo hi : Int) : Bool := decide (lo ≤ n ∧ n ≤ hi)
def rngOk (lo hi top : Int) : Bool := decide (0 ≤ lo ∧ lo ≤ hi ∧ hi ≤ top)
def sttOk (m : MapD) (s : Stt) : Bool := inB s.o 0 ((m.old.length : Int) - 1) && (inB s.n 0 (m.nw - 1) && (inB s.wt 0 1000 && rngOk s.lo s.hi 10000))
def jnOk (m : MapD) (j : Jn) : Bool := inB j.a 0 ((m.ss.length : Int) - 1) && (inB j.b 0 ((m.ss.length : Int) - 1) && !(j.a == j.b))
def cntOk (x : Int) : Bool := inB x 0 10000
def wghOk (m : MapD) (d : Nat) : Bool := !(sumO m d tt Stt.wt m.ss.length == 0)
/-- the number of a map's error -/
def chkM (m : MapD) : Int :=
  if decide (4 < (m.old.length : Int)) || (decide (8 < (m.ss.length : Int)) || decide (20 < (m.js.length : Int))) then 3 else
  if ((m.old.length : Int) == 0) || (((m.ss.length : Int) == 0) || (!m.old.all cntOk || (!inB m.nw 1 4 || (!m.ss.all (sttOk m) || (!(List.range m.old.length).all (wghOk m) || !m.js.all (jnOk m)))))) then 1 else 0
structure OkM (m : MapD) : Prop where
  d1 : 1 ≤ m.old.length
  d4 : m.old.length ≤ 4
  s1 : 1 ≤ m.ss.length
  s8 : m.ss.length ≤ 8
  j20 : m.js.length ≤ 20
  cnt : ∀ x ∈ m.old, 0 ≤ x ∧ x ≤ 10000
  n1 : 1 ≤ m.nw
  n4 : m.nw ≤ 4
  stt : ∀ s ∈ m.ss, 0 ≤ s.o ∧ s.o < m.old.length ∧ 0 ≤ s.n ∧ s.n < m.nw ∧ 0 ≤ s.wt ∧ s.wt ≤ 1000 ∧ 0 ≤ s.lo ∧ s.lo ≤ s.hi ∧ s.hi ≤ 10000
  wgh : ∀ d, d < m.old.length → sumO m d tt Stt.wt m.ss.length ≠ 0
  jn : ∀ j ∈ m.js, 0 ≤ j.a ∧ j.a < m.ss.length ∧ 0 ≤ j.b ∧ j.b < m.ss.length ∧ j.a ≠ j.b
theorem inB_iff {n lo hi : Int} : inB n lo hi = true ↔ lo ≤ n ∧ n ≤ hi := by simp [inB]
theorem sttOk_iff {m : MapD} {s : Stt} : sttOk m s = true ↔ 0 ≤ s.o ∧ s.o < m.old.length ∧ 0 ≤ s.n ∧ s.n < m.nw ∧ 0 ≤ s.wt ∧ s.wt ≤ 1000 ∧ 0 ≤ s.lo ∧ s.lo ≤ s.hi ∧ s.hi ≤ 10000 := by
  unfold sttOk rngOk
  simp only [Bool.and_eq_true, inB_iff, decide_eq_true_eq]
  omega
theorem jnOk_iff {m : MapD} {j : Jn} : jnOk m j = true ↔ 0 ≤ j.a ∧ j.a < m.ss.length ∧ 0 ≤ j.b ∧ j.b < m.ss.length ∧ j.a ≠ j.b := by
  unfold jnOk
  simp only [Bool.and_eq_true, inB_iff, Bool.not_eq_true', beq_eq_false_iff_ne]
  omega
theorem chk_okm {m : MapD} (h : chkM m = 0) : OkM m := by
  unfold chkM at h
  split at h
  · cases h
  · rename_i h1
    split at h
    · cases h
    · rename_i h2
      simp only [Bool.or_eq_true, decide_eq_true_eq, not_or] at h1
      simp only [Bool.or_eq_true, beq_iff_eq, not_or, Bool.not_eq_true', Bool.not_eq_false, List.all_eq_true] at h2
      obtain ⟨a1, a2, a3⟩ := h1
      obtain ⟨b1, b2, b3, b4, b5, b6, b7⟩ := h2
      refine ⟨by omega, by omega, by omega, by omega, by omega, fun x hx => ?_, (inB_iff.1 b4).1, (inB_iff.1 b4).2, fun s hs => sttOk_iff.1 (b5 s hs), fun d hd => ?_, fun j hj => jnOk_iff.1 (b7 j hj)⟩
      · exact inB_iff.1 (b3 x hx)
      · have := b6 d (List.mem_range.2 hd)
        unfold wghOk at this
        simpa using this
theorem okm_chk {m : MapD} (h : OkM m) : chkM m = 0 := by
  unfold chkM
  rw [if_neg, if_neg]
  · simp only [Bool.or_eq_true, beq_iff_eq, not_or, Bool.not_eq_true', Bool.not_eq_false, List.all_eq_true]
    refine ⟨by have := h.d1; omega, by have := h.s1; omega, fun x hx => inB_iff.2 (h.cnt x hx), inB_iff.2 ⟨h.n1, h.n4⟩, fun s hs => sttOk_iff.2 (h.stt s hs), fun d hd => ?_, fun j hj => jnOk_iff.2 (h.jn j hj)⟩
    have := h.wgh d (List.mem_range.1 hd)
    unfold wghOk
    simpa using this
  · simp only [Bool.or_eq_true, decide_eq_true_eq, not_or]
    have := h.d4; have := h.s8; have := h.j20
    omega
theorem chkM_cases (m : MapD) : chkM m = 0 ∨ chkM m = 1 ∨ chkM m = 3 := by
  unfold chkM
  split
  · exact .inr (.inr rfl)
  · split
    · exact .inr (.inl rfl)
    · exact .inl rfl
theorem OkM.sAt {m : MapD} (h : OkM m) {i : Nat} (hi : i < m.ss.length) : 0 ≤ (m.S i).o ∧ (m.S i).o < m.old.length ∧ 0 ≤ (m.S i).n ∧ (m.S i).n < m.nw ∧ 0 ≤ (m.S i).wt ∧ (m.S i).wt ≤ 1000 ∧ 0 ≤ (m.S i).lo ∧ (m.S i).lo ≤ (m.S i).hi ∧ (m.S i).hi ≤ 10000 := by
  have e : m.ss[i]? = some m.ss[i] := List.getElem?_eq_getElem hi
  rw [MapD.S_eq e]
  exact h.stt _ (List.getElem_mem hi)
theorem OkM.atB {m : MapD} (h : OkM m) {d : Nat} (hd : d < m.old.length) : 0 ≤ m.at_ d ∧ m.at_ d ≤ 10000 := by
  have e : m.old[d]? = some m.old[d] := List.getElem?_eq_getElem hd
  rw [MapD.at_eq e]
  exact h.cnt _ (List.getElem_mem hd)

/-- the bounds of the people of an old district in the streets that pass a test -/
def partLo (m : MapD) (p : Nat → Bool) (d : Nat) : Int := max (sumO m d p Stt.lo m.ss.length) (m.at_ d - sumO m d (nt p) Stt.hi m.ss.length)
def partHi (m : MapD) (p : Nat → Bool) (d : Nat) : Int := min (sumO m d p Stt.hi m.ss.length) (m.at_ d - sumO m d (nt p) Stt.lo m.ss.length)
def sizeLo (m : MapD) (p : Nat → Bool) (k : Nat) : Int := sumN (partLo m p) k
def sizeHi (m : MapD) (p : Nat → Bool) (k : Nat) : Int := sumN (partHi m p) k
/-- the streets that lie in a district of borders -/
def inD (l : Nat → Int) (d : Int) : Nat → Bool := fun i => l i == d
def ownL (m : MapD) : Nat → Int := fun i => (m.S i).n
def conD (m : MapD) (d : Nat) : Bool := inB (m.at_ d) (sumO m d tt Stt.lo m.ss.length) (sumO m d tt Stt.hi m.ss.length)
def conM (m : MapD) : Bool := (List.range m.old.length).all (conD m)
/-- the number of a map's error, also if it is not consistent -/
def cstM (m : MapD) : Int := if chkM m = 0 then (if conM m then 0 else 9) else chkM m
theorem sumO_bounds {m : MapD} {g : Stt → Int} {M : Int} (hM : 0 ≤ M) (d : Nat) (p : Nat → Bool) (k : Nat) (h : ∀ i, i < k → 0 ≤ g (m.S i) ∧ g (m.S i) ≤ M) : 0 ≤ sumO m d p g k ∧ sumO m d p g k ≤ k * M := by
  unfold sumO
  refine ⟨sumN_nonneg fun i hi => ?_, sumN_bound fun i hi => ?_⟩
  · split
    · exact (h i hi).1
    · exact Int.le_refl _
  · split
    · exact (h i hi).2
    · exact hM
theorem sumO_le {m : MapD} {g g' : Stt → Int} (d : Nat) (p : Nat → Bool) (k : Nat) (h : ∀ i, i < k → g (m.S i) ≤ g' (m.S i)) : sumO m d p g k ≤ sumO m d p g' k := by
  unfold sumO
  refine sumN_le fun i hi => ?_
  split
  · exact h i hi
  · exact Int.le_refl _
theorem sumO_split (m : MapD) (d : Nat) (p : Nat → Bool) (g : Stt → Int) (k : Nat) : sumO m d tt g k = sumO m d p g k + sumO m d (nt p) g k := by
  unfold sumO
  rw [← sumN_add]
  refine sumN_congr fun i _ => ?_
  by_cases e : (m.S i).o = (d : Int)
  · cases hp : p i <;> simp [e, tt, nt, hp]
  · simp [e]
end Go.Proofs.YtlnamjhgbdacbaaGreat
/- Maps of places and roads, and the quickest ways, in plain words. No condition. -/
namespace Go.Proofs.YtlnamjhgbdacbaaGreat

structure Rd where
  a : Int
  b : Int
  lo : Int
  hi : Int
structure WMD where
  work : List Jn
  roads : List Rd
def joinsB (r : Rd) (x y : Int) : Bool := (r.a == x && r.b == y) || (r.a == y && r.b == x)
theorem joinsB_iff {r : Rd} {x y : Int} : joinsB r x y = true ↔ (r.a = x ∧ r.b = y) ∨ (r.a = y ∧ r.b = x) := by simp [joinsB]
theorem joinsB_comm {r : Rd} {x y : Int} : joinsB r x y = joinsB r y x := by
  rw [Bool.eq_iff_iff, joinsB_iff, joinsB_iff]
  exact ⟨fun h => h.symm, fun h => h.symm⟩
structure OkW (m : WMD) : Prop where
  w1 : 1 ≤ m.work.length
  w8 : m.work.length ≤ 8
  r20 : m.roads.length ≤ 20
  wk : ∀ x ∈ m.work, 0 ≤ x.a ∧ x.a ≤ x.b ∧ x.b ≤ 50
  rd : ∀ r ∈ m.roads, 0 ≤ r.a ∧ r.a < m.work.length ∧ 0 ≤ r.b ∧ r.b < m.work.length ∧ r.a ≠ r.b ∧ 1 ≤ r.lo ∧ r.lo ≤ r.hi ∧ r.hi ≤ 50
  nd : ∀ (i k : Nat) (r q : Rd), m.roads[i]? = some r → m.roads[k]? = some q → k < i → joinsB q r.a r.b = false
def WMD.N (m : WMD) : Nat := m.work.length
/-- two places are joined by a road -/
def Jnd (m : WMD) (x y : Nat) : Prop := ∃ r ∈ m.roads, joinsB r (x : Int) (y : Int) = true
theorem Jnd.symm {m : WMD} {x y : Nat} (h : Jnd m x y) : Jnd m y x := by
  obtain ⟨r, h1, h2⟩ := h
  exact ⟨r, h1, by rw [joinsB_comm]; exact h2⟩
theorem ilt_or_ge (a b : Int) : a < b ∨ b ≤ a := by omega
def farI : Int := 1048576
def upd {α : Type} (t : Nat → α) (o : Nat) (v : α) : Nat → α := fun n => if n = o then v else t n
theorem upd_same {α : Type} (t : Nat → α) (o : Nat) (v : α) : upd t o v o = v := if_pos rfl
theorem upd_oth {α : Type} (t : Nat → α) {o n : Nat} (v : α) (h : n ≠ o) : upd t o v n = t n := if_neg h
/-- what is true of the times and the first steps to one goal, at all times; D: no time that is not far is longer -/
structure ColI (m : WMD) (g : Nat) (D : Int) (t f : Nat → Int) : Prop where
  goal : t g = 0
  lo : ∀ n, n < m.N → 0 ≤ t n ∧ t n ≤ farI
  fin : ∀ n, n < m.N → t n < farI → t n ≤ D
  via : ∀ n, n < m.N → n ≠ g → t n < farI → ∃ q : Nat, q < m.N ∧ f n = (q : Int) ∧ Jnd m n q ∧ t q + 1 ≤ t n
/-- behind i rounds of settling -/
structure StlI (m : WMD) (g : Nat) (i : Nat) (t f : Nat → Int) (s : Nat → Bool) : Prop where
  col : ColI m g (50 * (i : Int)) t f
  cnt : sumN (fun n => if s n then 1 else 0) m.N = (i : Int)
  clo : ∀ q, q < m.N → s q = true → t q < farI → ∀ n, n < m.N → Jnd m n q → t n < farI
  fr : ∀ q, q < m.N → s q = true → t q = farI → ∀ n, n < m.N → s n = false → t n = farI
/-- within a round: near is p, with time P; the first j roads are looked at; t0: the times at the round's begin -/
structure WRdI (m : WMD) (g p : Nat) (P D : Int) (j : Nat) (t0 t f : Nat → Int) : Prop where
  col : ColI m g (D + 50) t f
  pd : P < farI → P ≤ D
  le : ∀ n, n < m.N → t n ≤ t0 n
  tp : t p = P
  clo : P < farI → ∀ (i : Nat) r, i < j → m.roads[i]? = some r → ∀ n : Nat, n < m.N → joinsB r (n : Int) (p : Int) = true → t n < farI
  fr : P = farI → ∀ n, n < m.N → t n = t0 n
/-- all is settled -/
structure DoneC (m : WMD) (g : Nat) (t f : Nat → Int) : Prop where
  col : ColI m g 400 t f
  clo : ∀ q, q < m.N → t q < farI → ∀ n, n < m.N → Jnd m n q → t n < farI
section
variable {m : WMD} {g p i j o : Nat} {P D hi : Int} {t0 t f : Nat → Int} {s : Nat → Bool} {r : Rd}
theorem unsettled (h : StlI m g i t f s) (hi : i < m.N) : ∃ n, n < m.N ∧ s n = false := by
  refine Classical.byContradiction fun hn => ?_
  have hall : ∀ n, n < m.N → s n = true := fun n hl => by
    cases hs : s n with
    | true => rfl
    | false => exact absurd ⟨n, hl, hs⟩ hn
  have e : sumN (fun n => if s n then (1 : Int) else 0) m.N = sumN (fun _ => 1) m.N := sumN_congr fun n hl => by rw [hall n hl]; rfl
  have := h.cnt
  rw [e, sumN_const] at this
  omega
theorem all_settled (h : StlI m g m.N t f s) : ∀ n, n < m.N → s n = true := fun n hl => by
  cases hs : s n with
  | true => rfl
  | false =>
    have h1 : sumN (fun n => if s n then (1 : Int) else 0) m.N ≤ sumN (fun k => if k = n then 0 else 1) m.N := sumN_le fun k hk => by
      by_cases e : k = n
      · subst e; rw [hs, if_pos rfl]; simp
      · rw [if_neg e]; split <;> omega
    have h2 : sumN (fun k => if k = n then (0 : Int) else 1) m.N = sumN (fun _ => 1) m.N + ((if n = n then 0 else 1) - 1) := sumN_set hl fun k hk hne => if_neg hne
    rw [if_pos rfl, sumN_const] at h2
    have := h.cnt
    omega
theorem ColI.more {D' : Int} (h : ColI m g D t f) (hd : D ≤ D') : ColI m g D' t f := ⟨h.goal, h.lo, fun n hn ht => Int.le_trans (h.fin n hn ht) hd, h.via⟩
theorem WRdI.start (h : ColI m g D t f) (hpN : p < m.N) (hp : t p = P) : WRdI m g p P D 0 t t f := ⟨h.more (by omega), fun hP => by rw [← hp] at hP ⊢; exact h.fin p hpN hP, fun _ _ => Int.le_refl _, hp, fun _ i _ hi => absurd hi (Nat.not_lt_zero _), fun _ _ _ => rfl⟩
/-- a road that does not meet p -/
theorem WRdI.skip (h : WRdI m g p P D j t0 t f) (hr : m.roads[j]? = some r) (ha : r.a ≠ (p : Int)) (hb : r.b ≠ (p : Int)) : WRdI m g p P D (j + 1) t0 t f :=
  ⟨h.col, h.pd, h.le, h.tp, fun hP i q hi hq n hn hj => by
    by_cases e : i = j
    · subst e
      rw [hr] at hq
      cases hq
      rcases joinsB_iff.1 hj with ⟨_, e⟩ | ⟨e, _⟩
      · exact absurd e hb
      · exact absurd e ha
    · exact h.clo hP i q (by omega) hq n hn hj, h.fr⟩
theorem meets_other (_hr : r.a ≠ r.b) (hm : joinsB r (o : Int) (p : Int) = true) {n : Nat} (hj : joinsB r (n : Int) (p : Int) = true) : n = o := by
  rcases joinsB_iff.1 hm with ⟨h1, h2⟩ | ⟨h1, h2⟩ <;> rcases joinsB_iff.1 hj with ⟨h3, h4⟩ | ⟨h3, h4⟩ <;> omega
/-- the way over p is no quicker -/
theorem WRdI.stay (h : WRdI m g p P D j t0 t f) (hr : m.roads[j]? = some r) (hne : r.a ≠ r.b) (hm : joinsB r (o : Int) (p : Int) = true) (hhi : hi ≤ 50) (hle : t o ≤ P + hi) (hD : D ≤ 1000) : WRdI m g p P D (j + 1) t0 t f :=
  ⟨h.col, h.pd, h.le, h.tp, fun hP i q hi' hq n hn hj => by
    by_cases e : i = j
    · subst e
      rw [hr] at hq
      cases hq
      rw [meets_other hne hm hj]
      have := h.pd hP
      unfold farI
      omega
    · exact h.clo hP i q (by omega) hq n hn hj, h.fr⟩
/-- the way over p is quicker -/
theorem WRdI.take (h : WRdI m g p P D j t0 t f) (hr : m.roads[j]? = some r) (hne : r.a ≠ r.b) (hm : joinsB r (o : Int) (p : Int) = true) (ho : o < m.N) (hpN : p < m.N) (h1 : 1 ≤ hi) (h5 : hi ≤ 50) (hlt : P + hi < t o) : WRdI m g p P D (j + 1) t0 (upd t o (P + hi)) (upd f o (p : Int)) := by
  have hop : p ≠ o := fun e => by
    rcases joinsB_iff.1 hm with ⟨h1, h2⟩ | ⟨h1, h2⟩ <;> exact hne (by rw [h1, h2, e])
  have hP0 : 0 ≤ P := by rw [← h.tp]; exact (h.col.lo p hpN).1
  have hto := (h.col.lo o ho).2
  have hgo : g ≠ o := fun e => by
    have := h.col.goal
    rw [e] at this
    omega
  have hPf : P < farI := by omega
  have hpd := h.pd hPf
  refine ⟨⟨?_, fun n hn => ?_, fun n hn ht => ?_, fun n hn hng ht => ?_⟩, h.pd, fun n hn => ?_, ?_, fun hP i q hi' hq n hn hj => ?_, fun hP => by omega⟩
  · rw [upd_oth _ _ hgo]; exact h.col.goal
  · by_cases e : n = o
    · subst e; rw [upd_same]; omega
    · rw [upd_oth _ _ e]; exact h.col.lo n hn
  · by_cases e : n = o
    · subst e; rw [upd_same]; omega
    · rw [upd_oth _ _ e] at ht ⊢; exact h.col.fin n hn ht
  · by_cases e : n = o
    · subst e
      refine ⟨p, hpN, upd_same _ _ _, ⟨r, List.mem_of_getElem? hr, hm⟩, ?_⟩
      rw [upd_same, upd_oth _ _ hop, h.tp]; omega
    · rw [upd_oth _ _ e] at ht
      obtain ⟨q, q1, q2, q3, q4⟩ := h.col.via n hn hng ht
      refine ⟨q, q1, by rw [upd_oth _ _ e]; exact q2, q3, ?_⟩
      rw [upd_oth _ _ e]
      by_cases e2 : q = o
      · subst e2; rw [upd_same]; omega
      · rw [upd_oth _ _ e2]; exact q4
  · by_cases e : n = o
    · subst e; rw [upd_same]; have := h.le n hn; omega
    · rw [upd_oth _ _ e]; exact h.le n hn
  · rw [upd_oth _ _ hop]; exact h.tp
  · by_cases e : n = o
    · subst e; rw [upd_same]; omega
    · rw [upd_oth _ _ e]
      by_cases e2 : i = j
      · subst e2
        rw [hr] at hq
        cases hq
        exact absurd (meets_other hne hm hj) e
      · exact h.clo hP i q (by omega) hq n hn hj
/-- a round is over -/
theorem WRdI.done {f0 : Nat → Int} (h : WRdI m g p P (50 * (i : Int)) m.roads.length t0 t f) (h0 : StlI m g i t0 f0 s) (hpN : p < m.N) (hsp : s p = false) (hmin : ∀ n, n < m.N → s n = false → t0 p ≤ t0 n) (hp0 : t0 p = P) : StlI m g (i + 1) t f (upd s p true) := by
  have hold : P < farI → ∀ q, q < m.N → s q = true → t0 q < farI := fun hP q hq hs => by
    rcases ilt_or_ge (t0 q) farI with h1 | h1
    · exact h1
    · have := h0.fr q hq hs (Int.le_antisymm (h0.col.lo q hq).2 h1) p hpN hsp
      omega
  refine ⟨h.col.more (by omega), ?_, fun q hq hs ht n hn hj => ?_, fun q hq hs ht n hn hsn => ?_⟩
  · have h2 : sumN (fun n => if upd s p true n then (1 : Int) else 0) m.N = sumN (fun n => if s n then (1 : Int) else 0) m.N + ((if upd s p true p then 1 else 0) - (if s p then 1 else 0)) := sumN_set hpN fun k hk hne => by rw [upd_oth _ _ hne]
    rw [h2, h0.cnt, upd_same, hsp]
    simp
  · rcases ilt_or_ge P farI with hP | hP
    · by_cases e : q = p
      · subst e
        obtain ⟨r, hr, hjr⟩ := hj
        obtain ⟨k, hk⟩ := List.getElem?_of_mem hr
        exact h.clo hP k r (List.getElem?_eq_some_iff.1 hk).1 hk n hn hjr
      · rw [upd_oth _ _ e] at hs
        have h1 := h0.clo q hq hs (hold hP q hq hs) n hn hj
        exact Int.lt_of_le_of_lt (h.le n hn) h1
    · have hPf : P = farI := Int.le_antisymm (by rw [← hp0]; exact (h0.col.lo p hpN).2) hP
      have e0 := h.fr hPf
      rw [e0 q hq] at ht
      rw [e0 n hn]
      by_cases e : q = p
      · subst e; omega
      · rw [upd_oth _ _ e] at hs
        exact h0.clo q hq hs ht n hn hj
  · have hne : n ≠ p := fun e => by rw [e, upd_same] at hsn; cases hsn
    rw [upd_oth _ _ hne] at hsn
    rcases ilt_or_ge P farI with hP | hP
    · exfalso
      by_cases e : q = p
      · subst e
        rw [h.tp] at ht
        omega
      · rw [upd_oth _ _ e] at hs
        have h1 := hold hP q hq hs
        have h2 := h.le q hq
        omega
    · have hPf : P = farI := Int.le_antisymm (by rw [← hp0]; exact (h0.col.lo p hpN).2) hP
      have e0 := h.fr hPf
      rw [e0 n hn]
      have h1 := hmin n hn hsn
      have h2 := (h0.col.lo n hn).2
      omega
theorem StlI.end_ (h : StlI m g m.N t f s) (h8 : m.N ≤ 8) : DoneC m g t f :=
  ⟨h.col.more (by omega), fun q hq ht n hn hj => h.clo q hq (all_settled h q hq) ht n hn hj⟩
/-- at the begin of all rounds -/
theorem StlI.start (hg : g < m.N) (h0 : t g = 0) (h1 : ∀ n, n < m.N → n ≠ g → t n = farI) : StlI m g 0 t f (fun _ => false) := by
  refine ⟨⟨h0, fun n hn => ?_, fun n hn ht => ?_, fun n hn hng ht => ?_⟩, ?_, (fun q hq hs => by cases hs), (fun q hq hs => by cases hs)⟩
  · by_cases e : n = g
    · subst e; rw [h0]; unfold farI; omega
    · rw [h1 n hn e]; unfold farI; omega
  · by_cases e : n = g
    · subst e; rw [h0]; simp
    · rw [h1 n hn e] at ht; omega
  · rw [h1 n hn hng] at ht; omega
  · rw [sumN_congr (g := fun _ => 0) fun i _ => by simp, sumN_const]; simp
/-- the unsettled place with the smallest time among the first k: none yet, or p -/
def SelI (t : Nat → Int) (s : Nat → Bool) (k : Nat) (near : Int) : Prop :=
  (near = -1 ∧ ∀ n, n < k → s n = true) ∨ ∃ p : Nat, p < k ∧ near = (p : Int) ∧ s p = false ∧ ∀ n, n < k → s n = false → t p ≤ t n
theorem SelI.zero : SelI t s 0 (-1) := .inl ⟨rfl, fun _ h => absurd h (Nat.not_lt_zero _)⟩
theorem SelI.old {k : Nat} {near : Int} (h : SelI t s k near) (hs : s k = true) : SelI t s (k + 1) near := by
  rcases h with ⟨h1, h2⟩ | ⟨p, h1, h2, h3, h4⟩
  · exact .inl ⟨h1, fun n hn => by
      by_cases e : n = k
      · subst e; exact hs
      · exact h2 n (by omega)⟩
  · exact .inr ⟨p, by omega, h2, h3, fun n hn hsn => by
      by_cases e : n = k
      · subst e; rw [hs] at hsn; cases hsn
      · exact h4 n (by omega) hsn⟩
theorem SelI.first {k : Nat} (h : SelI t s k (-1)) (hs : s k = false) : SelI t s (k + 1) (k : Int) := by
  rcases h with ⟨_, h2⟩ | ⟨p, _, h2, _⟩
  · exact .inr ⟨k, by omega, rfl, hs, fun n hn hsn => by
      by_cases e : n = k
      · subst e; exact Int.le_refl _
      · rw [h2 n (by omega)] at hsn; cases hsn⟩
  · omega
theorem SelI.less {k p : Nat} (h : SelI t s k (p : Int)) (hs : s k = false) (hl : t k < t p) : SelI t s (k + 1) (k : Int) := by
  rcases h with ⟨h1, _⟩ | ⟨p', h1, h2, h3, h4⟩
  · omega
  · obtain rfl : p = p' := by omega
    exact .inr ⟨k, by omega, rfl, hs, fun n hn hsn => by
      by_cases e : n = k
      · subst e; exact Int.le_refl _
      · have := h4 n (by omega) hsn; omega⟩
theorem SelI.not {k p : Nat} (h : SelI t s k (p : Int)) (hl : ¬ t k < t p) : SelI t s (k + 1) (p : Int) := by
  rcases h with ⟨h1, _⟩ | ⟨p', h1, h2, h3, h4⟩
  · omega
  · obtain rfl : p = p' := by omega
    exact .inr ⟨p, by omega, rfl, h3, fun n hn hsn => by
      by_cases e : n = k
      · subst e; omega
      · exact h4 n (by omega) hsn⟩
theorem SelI.near {near : Int} (h : SelI t s m.N near) (hu : ∃ n, n < m.N ∧ s n = false) : ∃ p : Nat, p < m.N ∧ near = (p : Int) ∧ s p = false ∧ ∀ n, n < m.N → s n = false → t p ≤ t n := by
  rcases h with ⟨_, h2⟩ | h
  · obtain ⟨n, hn, hs⟩ := hu
    rw [h2 n hn] at hs; cases hs
  · exact h
end
end Go.Proofs.YtlnamjhgbdacbaaGreat
/- Ways along roads, and tours, in plain words. No condition. -/
namespace Go.Proofs.YtlnamjhgbdacbaaGreat

/-- a list of places, each joined with the next -/
inductive Pth (m : WMD) : Nat → Nat → List Nat → Prop
  | one (a : Nat) : Pth m a a [a]
  | snoc {a b c : Nat} {l : List Nat} : Pth m a b l → Jnd m b c → Pth m a c (l ++ [c])
theorem Pth.append {m : WMD} {a b : Nat} {l : List Nat} (h : Pth m a b l) : ∀ {c : Nat} {k : List Nat}, Pth m b c k → Pth m a c (l ++ k.tail) := by
  intro c k hk
  induction hk with
  | one => simpa using h
  | @snoc b' c' l' h1 h2 ih =>
    have hne : l' ≠ [] := by
      intro e
      cases h1 with
      | one => cases e
      | snoc => simp at e
    obtain ⟨x, l2, rfl⟩ : ∃ x l2, l' = x :: l2 := by
      cases l' with
      | nil => exact absurd rfl hne
      | cons x l2 => exact ⟨x, l2, rfl⟩
    have := ih.snoc h2
    simpa [List.append_assoc] using this
theorem Pth.head {m : WMD} {a b : Nat} {l : List Nat} (h : Pth m a b l) : ∃ t, l = a :: t := by
  induction h with
  | one => exact ⟨[], rfl⟩
  | snoc _ _ ih =>
    obtain ⟨t, rfl⟩ := ih
    exact ⟨_, rfl⟩
theorem Pth.last {m : WMD} {a b : Nat} {l : List Nat} (h : Pth m a b l) : b ∈ l := by
  cases h with
  | one => simp
  | snoc => simp
/-- the places of a path are all reached from its begin, within the path -/
theorem Pth.reach {m : WMD} {a b : Nat} {l : List Nat} (h : Pth m a b l) {S : Nat → Prop} (h0 : S a) (hs : ∀ x y, x ∈ l → y ∈ l → S x → Jnd m x y → S y) : ∀ x ∈ l, S x := by
  induction h with
  | one => intro x hx; simp at hx; subst hx; exact h0
  | @snoc b c l h1 h2 ih =>
    have ih' := ih fun x y hx hy => hs x y (by simp [hx]) (by simp [hy])
    intro x hx
    rcases List.mem_append.1 hx with hx | hx
    · exact ih' x hx
    · simp at hx
      subst hx
      exact hs b x (by simp [h1.last]) (by simp) (ih' b h1.last) h2
/-- all places that can be reached have a time -/
theorem DoneC.reach {m : WMD} {g : Nat} {t f : Nat → Int} (h : DoneC m g t f) (hN : ∀ x, x < m.N → ∀ y, Jnd m x y → y < m.N) (hg : g < m.N) {a : Nat} {l : List Nat} (hp : Pth m g a l) : a < m.N ∧ t a < farI := by
  induction hp with
  | one => exact ⟨hg, by rw [h.col.goal]; unfold farI; omega⟩
  | @snoc b c l h1 h2 ih =>
    obtain ⟨i1, i2⟩ := ih
    have hc := hN b i1 c h2
    exact ⟨hc, h.clo b i1 i2 c hc h2.symm⟩
/-- a place with a time has a way -/
theorem DoneC.way {m : WMD} {g : Nat} {t f : Nat → Int} (h : DoneC m g t f) (hg : g < m.N) : ∀ (k a : Nat), a < m.N → t a < farI → (t a).toNat ≤ k → ∃ l, Pth m g a l
  | 0, a, ha, ht, hk => by
    by_cases e : a = g
    · subst e; exact ⟨_, .one a⟩
    · obtain ⟨q, q1, _, _, q4⟩ := h.col.via a ha e ht
      have := (h.col.lo q q1).1
      omega
  | k + 1, a, ha, ht, hk => by
    by_cases e : a = g
    · subst e; exact ⟨_, .one a⟩
    · obtain ⟨q, q1, _, q3, q4⟩ := h.col.via a ha e ht
      have := (h.col.lo q q1).1
      obtain ⟨l, hl⟩ := h.way hg k q q1 (by omega) (by omega)
      exact ⟨_, hl.snoc q3.symm⟩
theorem OkW.jnd {m : WMD} (ok : OkW m) : ∀ x, x < m.N → ∀ y, Jnd m x y → y < m.N := by
  rintro x _ y ⟨r, hr, hj⟩
  have h := ok.rd r hr
  have : m.N = m.work.length := rfl
  rcases joinsB_iff.1 hj with ⟨h1, h2⟩ | ⟨h1, h2⟩ <;> omega
end Go.Proofs.YtlnamjhgbdacbaaGreat
/- Words for memory that these proofs use: slices that read as lists, worlds that have only grown, and a law for statements whose order is open. No condition. -/
namespace Go.Proofs.YtlnamjhgbdacbaaGreat
open Go.RowKit

theorem block_of_add (a : Addr) (n : Nat) : (a.add n).block = a.block := by unfold Addr.add; split <;> rfl
theorem add_zero_ (a : Addr) : a.add 0 = a := rfl
theorem add_next (a : Addr) (n m : Nat) (hm : m ≠ 0) : a.add (n + m) = ⟨(a.add n).block, (a.add n).off + m, none⟩ := by
  unfold Addr.add
  by_cases hn : n = 0
  · subst hn; simp [hm]
  · simp [hn, Nat.add_assoc]
theorem add_of_add (a : Addr) (i j : Nat) : (a.add i).add j = a.add (i + j) := by
  unfold Addr.add
  by_cases hi : i = 0 <;> by_cases hj : j = 0 <;> simp [hi, hj, Nat.add_assoc]

/-- the slice at A reads as the numbers xs, below block n -/
def IsInts (w : World) (n : Nat) (A : Option Addr) (xs : List Int) : Prop :=
  ∀ k x, xs[k]? = some x → ∃ a, A = some a ∧ a.block < n ∧ w.cell? (a.add k) = some (.int .i64 x)

def IsRows (w : World) (n : Nat) (A : Option Addr) (xss : List (List Int)) : Prop :=
  ∀ r xs, xss[r]? = some xs → ∃ a A' c, A = some a ∧ a.block < n ∧ w.cell? (a.add r) = some (.slice A' xs.length c) ∧ xs.length ≤ c ∧ c ≤ maxLen ∧ IsInts w n A' xs

structure Fx where
  row : Int
  col : Int
  val : Int

def IsFixes (w : World) (n : Nat) (A : Option Addr) (fs : List Fx) : Prop :=
  ∀ k f, fs[k]? = some f → ∃ a, A = some a ∧ a.block < n ∧ w.cell? (a.add (k * 3)) = some (.int .i64 f.row) ∧ w.cell? ⟨(a.add (k * 3)).block, (a.add (k * 3)).off + 1, none⟩ = some (.int .i64 f.col) ∧ w.cell? ⟨(a.add (k * 3)).block, (a.add (k * 3)).off + 2, none⟩ = some (.int .i64 f.val)

section
variable {w w' : World} {n m : Nat} {A : Option Addr}
theorem IsInts.below {xs : List Int} (h : IsInts w n A xs) (hb : Below n w w') : IsInts w' n A xs := fun k x hk => by
  obtain ⟨a, e, hl, hc⟩ := h k x hk
  exact ⟨a, e, hl, (hb.cell (by rw [block_of_add]; exact hl)).trans hc⟩
theorem IsInts.more {xs : List Int} (h : IsInts w n A xs) (hm : n ≤ m) : IsInts w m A xs := fun k x hk => by
  obtain ⟨a, e, hl, hc⟩ := h k x hk
  exact ⟨a, e, by omega, hc⟩
theorem IsRows.below {xss : List (List Int)} (h : IsRows w n A xss) (hb : Below n w w') : IsRows w' n A xss := fun k x hk => by
  obtain ⟨a, A', c, e, hl, hc, h1, h2, h3⟩ := h k x hk
  exact ⟨a, A', c, e, hl, (hb.cell (by rw [block_of_add]; exact hl)).trans hc, h1, h2, h3.below hb⟩
theorem IsRows.more {xss : List (List Int)} (h : IsRows w n A xss) (hm : n ≤ m) : IsRows w m A xss := fun k x hk => by
  obtain ⟨a, A', c, e, hl, hc, h1, h2, h3⟩ := h k x hk
  exact ⟨a, A', c, e, by omega, hc, h1, h2, h3.more hm⟩
theorem IsFixes.below {fs : List Fx} (h : IsFixes w n A fs) (hb : Below n w w') : IsFixes w' n A fs := fun k x hk => by
  obtain ⟨a, e, hl, h0, h1, h2⟩ := h k x hk
  exact ⟨a, e, hl, (hb.cell (by rw [block_of_add]; exact hl)).trans h0, (hb.cell (by show (a.add _).block < n; rw [block_of_add]; exact hl)).trans h1, (hb.cell (by show (a.add _).block < n; rw [block_of_add]; exact hl)).trans h2⟩
theorem IsFixes.more {fs : List Fx} (h : IsFixes w n A fs) (hm : n ≤ m) : IsFixes w m A fs := fun k x hk => by
  obtain ⟨a, e, hl, h0⟩ := h k x hk
  exact ⟨a, e, by omega, h0⟩
end

theorem IsInts.at_ {w w' : World} {A : Option Addr} {xs : List Int} (h : IsInts w w.heap.size A xs) (hb : Below w.heap.size w w') : IsInts w' w'.heap.size A xs := (h.below hb).more hb.size
theorem IsRows.at_ {w w' : World} {A : Option Addr} {xss : List (List Int)} (h : IsRows w w.heap.size A xss) (hb : Below w.heap.size w w') : IsRows w' w'.heap.size A xss := (h.below hb).more hb.size
theorem IsFixes.at_ {w w' : World} {A : Option Addr} {fs : List Fx} (h : IsFixes w w.heap.size A fs) (hb : Below w.heap.size w w') : IsFixes w' w'.heap.size A fs := (h.below hb).more hb.size

/-- old cells and marks read as before: two rules for the walk -/
theorem bcell {W w1 : World} (hb : Below W.heap.size W w1) : (∀ b o, b < W.heap.size → w1.cell? ⟨b, o, none⟩ = W.cell? ⟨b, o, none⟩) ∧ (∀ b o, b < W.heap.size → w1.frozen? ⟨b, o, none⟩ = W.frozen? ⟨b, o, none⟩) :=
  ⟨fun b o h => hb.cell (p := ⟨b, o, none⟩) h, fun b o h => hb.frozen (p := ⟨b, o, none⟩) h⟩

theorem ex_of {α : Type} {p q : α → Prop} (h : ∃ x, p x) (f : ∀ x, p x → q x) : ∃ x, q x := by
  obtain ⟨x, hx⟩ := h
  exact ⟨x, f x hx⟩
theorem or_of {p q r s : Prop} (h : p ∨ q) (f : p → r) (g : q → s) : r ∨ s := by
  rcases h with h | h
  · exact .inl (f h)
  · exact .inr (g h)
theorem ret_int {k : IntKind} {a b : Int} (h : a = b) : Ending.returned (.int k a) = .returned (.int k b) := by rw [h]

/-- w after some draws, with some blocks laid behind it -/
structure Xt where
  os : Array Obj
  d : Nat
theorem Calls.same_below {P : Program} {f : FuncId} {args : Array Value} {w : World} {v : Value}
    (h : Calls P f args w fun e w' => e = .returned v ∧ w = w') : Calls P f args w fun e w' => e = .returned v ∧ Below w.heap.size w w' :=
  h.mono fun _ _ ⟨he, hw⟩ => ⟨he, by rw [← hw]; exact Below.refl _ _⟩
instance : Inhabited Xt := ⟨⟨#[], 0⟩⟩
def xt (w : World) (x : Xt) : World := { w with heap := w.heap ++ x.os, drawn := x.d }
theorem below_xt (w : World) (x : Xt) : Below w.heap.size w (xt w x) :=
  ⟨rfl, rfl, rfl, by simp [xt], fun k hk => by simp [xt, Array.getElem?_append, hk]⟩
theorem xt_of_below {w w' : World} (h : Below w.heap.size w w') : ∃ x : Xt, w' = xt w x := by
  obtain ⟨heap', tape', drawn', os', out'⟩ := w'
  obtain ⟨h1, h2, h3, h4, h5⟩ := h
  simp only at h1 h2 h3 h4 h5
  refine ⟨⟨heap'.extract w.heap.size heap'.size, drawn'⟩, ?_⟩
  unfold xt
  subst h1 h2 h3
  congr 1
  apply Array.ext_getElem?
  intro i
  by_cases hi : i < w.heap.size
  · rw [Array.getElem?_append_left hi, h5 i hi]
  · rw [Array.getElem?_append_right (by omega), Array.getElem?_extract]
    by_cases hj : i < heap'.size
    · rw [if_pos (by omega)]; congr 1; omega
    · rw [if_neg (by omega), Array.getElem?_eq_none (by omega)]
theorem xt_of_xt {w w' : World} {x : Xt} (h : Below (xt w x).heap.size (xt w x) w') : ∃ y : Xt, w' = xt w y :=
  xt_of_below ((below_xt w x).trans (h.mono (below_xt w x).size))
theorem cell_xt {w : World} {b o : Nat} {v : Value} (h : w.cell? ⟨b, o, none⟩ = some v) (x : Xt) : (xt w x).cell? ⟨b, o, none⟩ = some v :=
  ((below_xt w x).cell (World.block_lt_of_cell? w ⟨b, o, none⟩ h)).trans h
theorem cell_xt_at {w : World} {a : Addr} {v : Value} (h : w.cell? a = some v) (x : Xt) : (xt w x).cell? a = some v :=
  ((below_xt w x).cell (World.block_lt_of_cell? w a h)).trans h

/-- a statement whose order is open, all of whose operations read, and whose calls only lay new blocks -/
theorem wp_region_quiet_xt {P : Program} {id : Nat} {Q : Exit → Act → World → Prop} {a : Act} {w : World} {l : List Oper} (hm : P.follows .mixedOrders = true) (hB : Region.lexB .any l.toArray = true)
    (h : wpQuiet P l.toArray (fun w' => ∃ x : Xt, w' = xt w x) (fun a' => ∀ w', (∃ x : Xt, w' = xt w x) → Q .normal a' w') l a) : (Code.region id l.toArray true).wp P Q a w :=
  wp_region_quiet (C := fun w' => ∃ x : Xt, w' = xt w x) hm hB ⟨⟨#[], w.drawn + 1⟩, by simp [xt]⟩ (by simpa using h)
theorem of_xt {w w' : World} (h : ∃ x : Xt, w' = xt w x) : Below w.heap.size w w' := by
  obtain ⟨x, rfl⟩ := h
  exact below_xt w x
theorem Calls.xt {P : Program} {f : FuncId} {args : Array Value} {w : World} {x : Xt} {v : Value}
    (h : Calls P f args (xt w x) fun e w' => e = .returned v ∧ Below (xt w x).heap.size (xt w x) w') : Calls P f args (xt w x) fun e w'' => e = .returned v ∧ ∃ y : Xt, w'' = xt w y :=
  h.mono fun _ _ ⟨he, hb⟩ => ⟨he, xt_of_xt hb⟩

/-- block g is just the cells cs of element type t -/
def Blk (w : World) (g : Nat) (t : TypeId) (cs : Array Value) : Prop := w.heap[g]? = some (.cells cs t (0, 0))
section
variable {w w' : World} {g : Nat} {t : TypeId} {cs : Array Value}
theorem Blk.lt (h : Blk w g t cs) : g < w.heap.size := by
  rcases Nat.lt_or_ge g w.heap.size with hlt | hge
  · exact hlt
  · unfold Blk at h; rw [Array.getElem?_eq_none hge] at h; cases h
theorem Blk.cell (h : Blk w g t cs) (i : Nat) : w.cell? ⟨g, i, none⟩ = cs[i]? := cell_of_row w g i cs t (0, 0) h
theorem Blk.frozen (h : Blk w g t cs) (i : Nat) : w.frozen? ⟨g, i, none⟩ = false := by
  unfold Blk at h
  simp [World.frozen?, h]
theorem Blk.new (w : World) (t : TypeId) (cs : Array Value) : Blk (w.alloc (.cells cs t)) w.heap.size t cs := heap_alloc_new w _
theorem Blk.drew (h : Blk w g t cs) : Blk w.drew g t cs := h
theorem Blk.alloc (h : Blk w g t cs) (o : Obj) : Blk (w.alloc o) g t cs := (Below.heap_alloc w o g h.lt).trans h
theorem Blk.set_ (h : Blk w g t cs) (i : Nat) (u : Value) : Blk (w.setCell ⟨g, i, none⟩ u) g t (cs.setIfInBounds i u) := by
  unfold Blk at h ⊢
  simp [World.setCell, Array.getElem?_modify, h]
theorem Blk.far (h : Blk w g t cs) {p : Addr} (hp : g ≠ p.block) (u : Value) : Blk (w.setCell p u) g t cs := (Below.heap_setCell w p u g hp).trans h
theorem Blk.below {B : Nat} (h : Blk w g t cs) (hb : Below B w w') (hg : g < B) : Blk w' g t cs := (hb.block g hg).trans h
theorem Blk.keep (h : Blk w g t cs) (hb : Below w.heap.size w w') : Blk w' g t cs := (hb.block g h.lt).trans h
theorem Blk.ne_ {g' : Nat} {t' : TypeId} {cs' : Array Value} (h : Blk w g t cs) (h' : Blk w g' t' cs') (hne : t ≠ t') : g ≠ g' := by
  rintro rfl
  unfold Blk at h h'
  rw [h] at h'
  injection h' with h'
  injection h' with _ ht
  exact hne ht
theorem Blk.c1 {x : Value} (h : Blk w g t #[x]) : w.cell? ⟨g, 0, none⟩ = some x := by rw [h.cell]; rfl
theorem Blk.c2 {x y : Value} (h : Blk w g t #[x, y]) : w.cell? ⟨g, 0, none⟩ = some x ∧ w.cell? ⟨g, 1, none⟩ = some y := ⟨by rw [h.cell]; rfl, by rw [h.cell]; rfl⟩
theorem Blk.c3 {x y z : Value} (h : Blk w g t #[x, y, z]) : w.cell? ⟨g, 0, none⟩ = some x ∧ w.cell? ⟨g, 1, none⟩ = some y ∧ w.cell? ⟨g, 2, none⟩ = some z := ⟨by rw [h.cell]; rfl, by rw [h.cell]; rfl, by rw [h.cell]; rfl⟩
theorem Blk.c4 {x y z u : Value} (h : Blk w g t #[x, y, z, u]) : w.cell? ⟨g, 0, none⟩ = some x ∧ w.cell? ⟨g, 1, none⟩ = some y ∧ w.cell? ⟨g, 2, none⟩ = some z ∧ w.cell? ⟨g, 3, none⟩ = some u := ⟨by rw [h.cell]; rfl, by rw [h.cell]; rfl, by rw [h.cell]; rfl, by rw [h.cell]; rfl⟩
theorem Blk.c5 {x y z u v : Value} (h : Blk w g t #[x, y, z, u, v]) : w.cell? ⟨g, 0, none⟩ = some x ∧ w.cell? ⟨g, 1, none⟩ = some y ∧ w.cell? ⟨g, 2, none⟩ = some z ∧ w.cell? ⟨g, 3, none⟩ = some u ∧ w.cell? ⟨g, 4, none⟩ = some v := ⟨by rw [h.cell]; rfl, by rw [h.cell]; rfl, by rw [h.cell]; rfl, by rw [h.cell]; rfl, by rw [h.cell]; rfl⟩
end
theorem xt_c1 {w : World} {g : Nat} {t : TypeId} {x : Value} (h : Blk w g t #[x]) : ∀ q, (xt w q).cell? ⟨g, 0, none⟩ = some x := fun q => (h.keep (below_xt w q)).c1
theorem xt_c3 {w : World} {g : Nat} {t : TypeId} {x y z : Value} (h : Blk w g t #[x, y, z]) : (∀ q, (xt w q).cell? ⟨g, 0, none⟩ = some x) ∧ (∀ q, (xt w q).cell? ⟨g, 1, none⟩ = some y) ∧ (∀ q, (xt w q).cell? ⟨g, 2, none⟩ = some z) :=
  ⟨fun q => (h.keep (below_xt w q)).c3.1, fun q => (h.keep (below_xt w q)).c3.2.1, fun q => (h.keep (below_xt w q)).c3.2.2⟩
theorem xt_c4 {w : World} {g : Nat} {t : TypeId} {x y z u : Value} (h : Blk w g t #[x, y, z, u]) : (∀ q, (xt w q).cell? ⟨g, 0, none⟩ = some x) ∧ (∀ q, (xt w q).cell? ⟨g, 1, none⟩ = some y) ∧ (∀ q, (xt w q).cell? ⟨g, 2, none⟩ = some z) ∧ (∀ q, (xt w q).cell? ⟨g, 3, none⟩ = some u) :=
  ⟨fun q => (h.keep (below_xt w q)).c4.1, fun q => (h.keep (below_xt w q)).c4.2.1, fun q => (h.keep (below_xt w q)).c4.2.2.1, fun q => (h.keep (below_xt w q)).c4.2.2.2⟩
theorem xt_c5 {w : World} {g : Nat} {t : TypeId} {x y z u v : Value} (h : Blk w g t #[x, y, z, u, v]) : (∀ q, (xt w q).cell? ⟨g, 0, none⟩ = some x) ∧ (∀ q, (xt w q).cell? ⟨g, 1, none⟩ = some y) ∧ (∀ q, (xt w q).cell? ⟨g, 2, none⟩ = some z) ∧ (∀ q, (xt w q).cell? ⟨g, 3, none⟩ = some u) ∧ (∀ q, (xt w q).cell? ⟨g, 4, none⟩ = some v) :=
  ⟨fun q => (h.keep (below_xt w q)).c5.1, fun q => (h.keep (below_xt w q)).c5.2.1, fun q => (h.keep (below_xt w q)).c5.2.2.1, fun q => (h.keep (below_xt w q)).c5.2.2.2.1, fun q => (h.keep (below_xt w q)).c5.2.2.2.2⟩
theorem xt_cell {w : World} {a : Addr} {v : Value} (h : w.cell? a = some v) : ∀ q, (xt w q).cell? a = some v := cell_xt_at h
theorem xt_size {w : World} : ∀ q, w.heap.size ≤ (xt w q).heap.size := fun q => (below_xt w q).size
/-- a world under a name of its own, with what is known of it -/
theorem gen {p : World → Prop} {w : World} (F : World → Prop) (hF : F w) (h : ∀ W, F W → p W) : p w := h w hF
theorem hid {p : Prop} (h : p) : Hid p := h
def colsOf (cs : List (List Int)) : Nat := match cs with | [] => 0 | x :: _ => x.length
end Go.Proofs.YtlnamjhgbdacbaaGreat
/- The small functions of the package: what each returns, for every argument; none changes memory that was there. -/
namespace Go.Proofs.YtlnamjhgbdacbaaGreat
open Go.RowKit

def withinB (n lo hi : Int) : Bool := decide (lo ≤ n ∧ n ≤ hi)

set_option maxHeartbeats 400000 in
theorem within_any (n lo hi : Int) (w : World) : Calls Tryz.prog 62 #[.int .i64 n, .int .i64 lo, .int .i64 hi] w fun e w' => e = .returned (.bool (withinB n lo hi)) ∧ w = w' := by
  by_cases h1 : lo ≤ n
  · have hd : withinB n lo hi = decide (n ≤ hi) := by simp [withinB, h1]
    rw [hd]; clear hd
    go_enter Tryz.func62, Tryz.ntmps62
    go_wp2
    go_ret
    exact ⟨rfl, rfl⟩
  · have hd : withinB n lo hi = false := by simp [withinB, h1]
    rw [hd]; clear hd
    go_enter Tryz.func62, Tryz.ntmps62
    go_wp2
    go_ret
    exact ⟨rfl, rfl⟩

theorem isCell_any (n : Int) (w : World) : Calls Tryz.prog 82 #[.int .i64 n] w fun e w' => e = .returned (.bool (withinB n 0 10000)) ∧ w = w' := by
  go_enter Tryz.func82, Tryz.ntmps82
  go_wp2_with (go_at_call 62; refine (within_any _ _ _ _).mono ?_; rintro e w' ⟨rfl, rfl⟩)
  go_ret
  exact ⟨rfl, rfl⟩
theorem isNumber_any (n : Int) (w : World) : Calls Tryz.prog 32 #[.int .i64 n] w fun e w' => e = .returned (.bool (withinB n 0 10100)) ∧ w = w' := by
  go_enter Tryz.func32, Tryz.ntmps32
  go_wp2_with (go_at_call 62; refine (within_any _ _ _ _).mono ?_; rintro e w' ⟨rfl, rfl⟩)
  go_ret
  exact ⟨rfl, rfl⟩
theorem isBase_any (n : Int) (w : World) : Calls Tryz.prog 31 #[.int .i64 n] w fun e w' => e = .returned (.bool (withinB n 2 100)) ∧ w = w' := by
  go_enter Tryz.func31, Tryz.ntmps31
  go_wp2_with (go_at_call 62; refine (within_any _ _ _ _).mono ?_; rintro e w' ⟨rfl, rfl⟩)
  go_ret
  exact ⟨rfl, rfl⟩
theorem narrow_any (A : Option Addr) (n c : Nat) (w : World) : Calls Tryz.prog 90 #[.slice A n c] w fun e w' => e = .returned (.bool (decide (n ≤ 4))) ∧ w = w' := by
  go_enter Tryz.func90, Tryz.ntmps90
  go_wp2
  go_ret
  exact ⟨by congr 2; simp; omega, rfl⟩
theorem away_any (a b : Int) (w : World) (h1 : -1000000 ≤ a) (h2 : a ≤ 1000000) (h3 : -1000000 ≤ b) (h4 : b ≤ 1000000) : Calls Tryz.prog 100 #[.int .i64 a, .int .i64 b] w fun e w' => e = .returned (.int .i64 (max (a - b) (b - a))) ∧ w = w' := by
  go_enter Tryz.func100, Tryz.ntmps100
  go_wp2
  all_goals
    go_ret
    exact ⟨ret_int (by omega), rfl⟩

set_option maxHeartbeats 400000 in
theorem columns_any (b f : Value) (A : Option Addr) (c : Nat) (cs : List (List Int)) (w : World) (hc : IsRows w w.heap.size A cs) :
    Calls Tryz.prog 91 #[.agg #[b, .slice A cs.length c, f]] w fun e w' => e = .returned (.int .i64 (colsOf cs)) ∧ Below w.heap.size w w' := by
  match cs, hc with
  | [], hc =>
    go_enter Tryz.func91, Tryz.ntmps91
    go_wp2
    go_ret
    exact ⟨rfl, (Below.refl _ _).alloc (Nat.le_refl _) _⟩
  | x :: l, hc =>
    obtain ⟨a, A', c', rfl, hl, h0, h1, h2, h3⟩ := hc 0 x rfl
    rw [add_zero_] at h0
    go_enter Tryz.func91, Tryz.ntmps91
    go_wp2
    go_ret
    exact ⟨rfl, (Below.refl _ _).alloc (Nat.le_refl _) _⟩

def lowOf (b n : Int) : Int := n - n % b
def highOf (b n : Int) : Int := lowOf b (n + b - 1)

set_option maxHeartbeats 400000 in
theorem below_any (b n : Int) (c f : Value) (w : World) (hb : 2 ≤ b) (hb2 : b ≤ 100) (hn : 0 ≤ n) (hn2 : n ≤ 10000000) :
    Calls Tryz.prog 98 #[.agg #[.int .i64 b, c, f], .int .i64 n] w fun e w' => e = .returned (.int .i64 (lowOf b n)) ∧ Below w.heap.size w w' := by
  have h1 := Int.emod_nonneg n (show b ≠ 0 by omega)
  have h2 := Int.emod_lt_of_pos n (show 0 < b by omega)
  go_enter Tryz.func98, Tryz.ntmps98
  go_wp2
  go_ret
  exact ⟨rfl, (Below.refl _ _).alloc (Nat.le_refl _) _⟩

set_option maxHeartbeats 400000 in
theorem above_any (b n : Int) (c f : Value) (w : World) (hb : 2 ≤ b) (hb2 : b ≤ 100) (hn : 0 ≤ n) (hn2 : n ≤ 1000000) :
    Calls Tryz.prog 99 #[.agg #[.int .i64 b, c, f], .int .i64 n] w fun e w' => e = .returned (.int .i64 (highOf b n)) ∧ Below w.heap.size w w' := by
  go_enter Tryz.func99, Tryz.ntmps99
  go_wp2_with (go_at_call 98; refine (below_any b _ _ _ _ hb hb2 (by omega) (by omega)).mono ?_; rintro e w' ⟨rfl, hb1⟩)
  go_ret
  exact ⟨rfl, ((Below.refl _ _).alloc (Nat.le_refl _) _).trans (hb1.mono (by simp))⟩
end Go.Proofs.YtlnamjhgbdacbaaGreat
/- Sums and neighbours: what the package's helpers return. -/
namespace Go.Proofs.YtlnamjhgbdacbaaGreat
open Go.RowKit

set_option maxHeartbeats 400000 in
theorem sides_any (w : World) : Calls Tryz.prog 119 #[] w fun e w' => e = .returned (.agg #[.func (.func 98) #[] #[], .func (.func 99) #[] #[]]) ∧ Below w.heap.size w w' := by
  go_enter Tryz.func119, Tryz.ntmps119
  go_wp2
  exact bodyPost_ret (v := .agg #[.func (.func 98) #[] #[], .func (.func 99) #[] #[]]) (by simp [results, Tryz.results119, go_sem]) rfl ⟨rfl, (Below.refl _ _).alloc (Nat.le_refl _) _⟩

theorem take_succ_sum (xs : List Int) (k : Nat) (h : k < xs.length) : (xs.take (k + 1)).sum = (xs.take k).sum + xs[k] := by
  rw [List.take_succ_eq_append_getElem h, List.sum_append]; simp
theorem sum_take_bounds (M : Int) (hM : 0 ≤ M) (xs : List Int) (hx : ∀ x ∈ xs, 0 ≤ x ∧ x ≤ M) (k : Nat) : 0 ≤ (xs.take k).sum ∧ (xs.take k).sum ≤ k * M := by
  induction k with
  | zero => simp
  | succ k ih =>
    by_cases h : k < xs.length
    · rw [take_succ_sum xs k h]
      have := hx xs[k] (List.getElem_mem h)
      rw [Int.natCast_add, Int.add_mul]
      omega
    · have e1 : xs.take (k + 1) = xs := List.take_of_length_le (by omega)
      have e2 : xs.take k = xs := List.take_of_length_le (by omega)
      rw [e1, Int.natCast_add, Int.add_mul]
      rw [e2] at ih
      omega

set_option maxHeartbeats 400000 in
theorem total_any (A : Option Addr) (c : Nat) (xs : List Int) (w : World) (h : IsInts w w.heap.size A xs) (hl : xs.length ≤ 1000) (hx : ∀ x ∈ xs, 0 ≤ x ∧ x ≤ 1000000) :
    Calls Tryz.prog 83 #[.slice A xs.length c] w fun e w' => e = .returned (.int .i64 xs.sum) ∧ w = w' := by
  go_enter Tryz.func83, Tryz.ntmps83
  go_wp2
  go_loop [2, 7] (fun t i => ∃ k : Nat, k ≤ xs.length ∧ i = .int .i64 k ∧ t = .int .i64 (xs.take k).sum) (fun _ i => xs.length - (intOf i).toNat)
  case atStart => exact ⟨0, Nat.zero_le _, rfl, rfl⟩
  case round =>
    obtain ⟨k, hk, rfl, rfl⟩ := hrel
    by_cases hlt : k < xs.length
    · obtain ⟨a, rfl, hb, hc⟩ := h k xs[k] (List.getElem?_eq_getElem hlt)
      have hs := take_succ_sum xs k hlt
      obtain ⟨hb1, hb2⟩ := sum_take_bounds 1000000 (by omega) xs hx k
      obtain ⟨hb3, hb4⟩ := hx xs[k] (List.getElem_mem hlt)
      have HS := hid hs
      clear hs h hx
      go_wp2
      go_round
      case rel => exact ⟨k + 1, by omega, by go_num, by rw [HS.out]⟩
      case measure => simp [intOf]; omega
    · go_wp2
      go_ret
      exact ⟨ret_int (by rw [List.take_of_length_le (by omega)]), rfl⟩

def nearB (b n o : Int) : Bool := lowOf b o == n || highOf b o == n

theorem side0 (W : World) : (Instr.index 192 (.agg #[.func (.func 98) #[] #[], .func (.func 99) #[] #[]]) (.int .i64 0)).run Tryz.prog W = .ok (.agg #[.func (.func 98) #[] #[]]) W := by kernel_rfl
theorem side1 (W : World) : (Instr.index 192 (.agg #[.func (.func 98) #[] #[], .func (.func 99) #[] #[]]) (.int .i64 1)).run Tryz.prog W = .ok (.agg #[.func (.func 99) #[] #[]]) W := by kernel_rfl

set_option maxRecDepth 100000 in
set_option maxHeartbeats 1000000 in
theorem near_any (b n o : Int) (c f : Value) (w : World) (hb : 2 ≤ b) (hb2 : b ≤ 100) (hn : 0 ≤ o) (hn2 : o ≤ 1000000) :
    Calls Tryz.prog 94 #[.agg #[.int .i64 b, c, f], .int .i64 n, .int .i64 o] w fun e w' => e = .returned (.bool (nearB b n o)) ∧ Below w.heap.size w w' := by
  go_enter Tryz.func94, Tryz.ntmps94
  go_wp2_with (go_at_call 119; refine (sides_any _).mono ?_; rintro e w1 ⟨rfl, hb1⟩)
  have hz1 : w.heap.size + 1 ≤ w1.heap.size := by have := hb1.size; simp at this; omega
  have B3 : Blk w1 w.heap.size 41 #[.int .i64 b, c, f] := (Blk.new _ _ _).keep hb1
  go_wp2
  go_loopw [10] (fun i wr => Below w1.heap.size w1 wr ∧ (i = .int .i64 0 ∨ ((lowOf b o == n) = false ∧ i = .int .i64 1) ∨ ((lowOf b o == n) = false ∧ (highOf b o == n) = false ∧ i = .int .i64 2))) (fun i _ => (2 - intOf i).toNat)
  case atStart => exact ⟨Below.refl _ _, .inl rfl⟩
  case round =>
    obtain ⟨hbr, hk⟩ := hrel
    obtain ⟨c0, c1, c2⟩ := (B3.keep hbr).c3
    have hz2 : w.heap.size < wr.heap.size := by have := hbr.size; omega
    have hall : Below w.heap.size w wr := (((Below.refl _ _).alloc (Nat.le_refl _) _).trans (hb1.mono (by simp))).trans (hbr.mono (by omega))
    have hs := hbr.size
    rcases hk with rfl | ⟨hlow, rfl⟩ | ⟨hlow, hhigh, rfl⟩
    · have i0 := side0
      cases h : (lowOf b o == n)
      all_goals
        go_wp2_with (go_at_call 98; refine (below_any b o _ _ _ hb hb2 hn (by omega)).mono ?_; rintro e w2 ⟨rfl, hb2'⟩)
      · have hm := hb2'.mono (B' := w1.heap.size) (by simp; omega)
        go_roundw
        case rel => exact ⟨(hbr.alloc hs _).trans hm, .inr (.inl ⟨trivial, rfl⟩)⟩
        case measure => simp [intOf]
      · have hm := hb2'.mono (B' := w.heap.size) (by simp; omega)
        go_ret
        exact ⟨by simp [nearB, h], (hall.alloc (by omega) _).trans hm⟩
    · have i1 := side1
      cases h : (highOf b o == n)
      all_goals
        go_wp2_with (go_at_call 99; refine (above_any b o _ _ _ hb hb2 hn (by omega)).mono ?_; rintro e w2 ⟨rfl, hb2'⟩)
      · have hm := hb2'.mono (B' := w1.heap.size) (by simp; omega)
        go_roundw
        case rel => exact ⟨(hbr.alloc hs _).trans hm, .inr (.inr ⟨hlow, trivial, rfl⟩)⟩
        case measure => simp [intOf]
      · have hm := hb2'.mono (B' := w.heap.size) (by simp; omega)
        go_ret
        exact ⟨by simp [nearB, h], (hall.alloc (by omega) _).trans hm⟩
    · go_wp2
      go_ret
      exact ⟨by simp [nearB, hlow, hhigh], hall⟩
end Go.Proofs.YtlnamjhgbdacbaaGreat
/- Sums of columns: adding a row to the sums, for every row of at most four numbers. -/
namespace Go.Proofs.YtlnamjhgbdacbaaGreat
open Go.RowKit

/-- the sums of four columns -/
structure S4 where
  a : Int
  b : Int
  c : Int
  d : Int
def plusS (s : S4) (xs : List Int) : S4 := ⟨s.a + xs.getD 0 0, s.b + xs.getD 1 0, s.c + xs.getD 2 0, s.d + xs.getD 3 0⟩
/-- what a column has got when k numbers are added -/
def got (xs : List Int) (k i : Nat) : Int := if i < k then xs.getD i 0 else 0
theorem got_zero (xs : List Int) (i : Nat) : got xs 0 i = 0 := by simp [got]
theorem got_all (xs : List Int) (i : Nat) : got xs xs.length i = xs.getD i 0 := by
  unfold got
  by_cases h : i < xs.length
  · rw [if_pos h]
  · rw [if_neg h]; simp [List.getD, List.getElem?_eq_none (show xs.length ≤ i by omega)]
theorem got_same (xs : List Int) (k i : Nat) (h : i ≠ k) : got xs (k + 1) i = got xs k i := by
  unfold got
  by_cases h1 : i < k
  · rw [if_pos h1, if_pos (by omega)]
  · rw [if_neg h1, if_neg (by omega)]
theorem got_new (xs : List Int) (k : Nat) : got xs (k + 1) k = xs.getD k 0 ∧ got xs k k = 0 := by simp [got]

def Small (M : Int) (s : S4) : Prop := (0 ≤ s.a ∧ s.a ≤ M) ∧ (0 ≤ s.b ∧ s.b ≤ M) ∧ (0 ≤ s.c ∧ s.c ≤ M) ∧ (0 ≤ s.d ∧ s.d ≤ M)
theorem getD_small {M : Int} (hM : 0 ≤ M) {xs : List Int} (hx : ∀ x ∈ xs, 0 ≤ x ∧ x ≤ M) (i : Nat) : 0 ≤ xs.getD i 0 ∧ xs.getD i 0 ≤ M := by
  by_cases h : i < xs.length
  · have := hx xs[i] (List.getElem_mem h)
    simpa [List.getD, List.getElem?_eq_getElem h] using this
  · simp [List.getD, List.getElem?_eq_none (show xs.length ≤ i by omega), hM]
theorem got_small {M : Int} (hM : 0 ≤ M) {xs : List Int} (hx : ∀ x ∈ xs, 0 ≤ x ∧ x ≤ M) (k i : Nat) : 0 ≤ got xs k i ∧ got xs k i ≤ M := by
  unfold got
  split
  · exact getD_small hM hx i
  · omega

def comp (s : S4) : Nat → Int
  | 0 => s.a
  | 1 => s.b
  | 2 => s.c
  | _ => s.d
def cellsK (s : S4) (xs : List Int) (k : Nat) : Array Value := #[.int .i64 (s.a + got xs k 0), .int .i64 (s.b + got xs k 1), .int .i64 (s.c + got xs k 2), .int .i64 (s.d + got xs k 3)]
theorem cellsK_get (s : S4) (xs : List Int) (k : Nat) (h : k < 4) : (cellsK s xs k)[k]? = some (.int .i64 (comp s k)) := by
  have hk4 : k = 0 ∨ k = 1 ∨ k = 2 ∨ k = 3 := by omega
  rcases hk4 with rfl | rfl | rfl | rfl <;> simp [cellsK, comp, got]
theorem cellsK_set (s : S4) (xs : List Int) (k : Nat) (h : k < 4) (hl : k < xs.length) : (cellsK s xs k).setIfInBounds k (.int .i64 (comp s k + xs[k])) = cellsK s xs (k + 1) := by
  have hg : xs[k] = xs.getD k 0 := by simp [List.getD, List.getElem?_eq_getElem hl]
  rw [hg]
  have hk4 : k = 0 ∨ k = 1 ∨ k = 2 ∨ k = 3 := by omega
  rcases hk4 with rfl | rfl | rfl | rfl <;> simp [cellsK, comp, got]
theorem comp_small {M : Int} {s : S4} (hs : Small M s) (k : Nat) : 0 ≤ comp s k ∧ comp s k ≤ M := by
  obtain ⟨h1, h2, h3, h4⟩ := hs
  match k with
  | 0 => exact h1
  | 1 => exact h2
  | 2 => exact h3
  | _ + 3 => exact h4

set_option maxRecDepth 100000 in
set_option maxHeartbeats 1000000 in
theorem plus_any (s : S4) (A : Option Addr) (c : Nat) (xs : List Int) (w : World) (hs : Small 1000000 s) (h : IsInts w w.heap.size A xs) (hl : xs.length ≤ 4) (hx : ∀ x ∈ xs, 0 ≤ x ∧ x ≤ 1000000) :
    Calls Tryz.prog 30 #[.agg #[.int .i64 s.a, .int .i64 s.b, .int .i64 s.c, .int .i64 s.d], .slice A xs.length c] w fun e w' =>
      e = .returned (.agg #[.int .i64 (plusS s xs).a, .int .i64 (plusS s xs).b, .int .i64 (plusS s xs).c, .int .i64 (plusS s xs).d]) ∧ Below w.heap.size w w' := by
  go_enter Tryz.func30, Tryz.ntmps30
  go_wp2
  go_loopw [9] (fun i wr => ∃ k : Nat, k ≤ xs.length ∧ i = .int .i64 k ∧ Below w.heap.size w wr ∧
      Blk wr w.heap.size 98 (cellsK s xs k) ∧
      Blk wr (w.heap.size + 1) 98 #[.int .i64 0, .int .i64 0, .int .i64 0, .int .i64 0]) (fun i _ => xs.length - (intOf i).toNat)
  case atStart =>
    refine ⟨0, Nat.zero_le _, rfl, ((Below.refl _ _).alloc (Nat.le_refl _) _).alloc (by simp) _, ?_, ?_⟩
    · simp only [cellsK, got_zero, Int.add_zero]
      exact (Blk.new _ _ _).alloc _
    · have := Blk.new (w.alloc (.cells #[.int .i64 s.a, .int .i64 s.b, .int .i64 s.c, .int .i64 s.d] 98)) 98 #[.int .i64 0, .int .i64 0, .int .i64 0, .int .i64 0]
      rwa [World.size_alloc] at this
  case round =>
    obtain ⟨k, hk, rfl, hbr, hB1, hB2⟩ := hrel
    by_cases hlt : k < xs.length
    · obtain ⟨a, rfl, hb, hc⟩ := h.below hbr k xs[k] (List.getElem?_eq_getElem hlt)
      have hk4 : k < 4 := by omega
      have hf := hB1.frozen k
      have hcK := (hB1.cell k).trans (cellsK_get s xs k hk4)
      obtain ⟨hx1, hx2⟩ := hx xs[k] (List.getElem_mem hlt)
      obtain ⟨hg1, hg2⟩ := comp_small hs k
      have H1 := hid hB1
      clear hs h hx hB1
      go_wp2
      go_roundw
      case rel =>
        refine ⟨k + 1, by omega, by go_num, hbr.setCell (by simp) _, ?_, hB2.far (by simp) _⟩
        rw [← cellsK_set s xs k hk4 hlt]
        exact H1.out.set_ k _
      case measure => simp [intOf]; omega
    · obtain rfl : k = xs.length := by omega
      have hB1' : Blk wr w.heap.size 98 #[.int .i64 (plusS s xs).a, .int .i64 (plusS s xs).b, .int .i64 (plusS s xs).c, .int .i64 (plusS s xs).d] := by
        have : cellsK s xs xs.length = #[.int .i64 (plusS s xs).a, .int .i64 (plusS s xs).b, .int .i64 (plusS s xs).c, .int .i64 (plusS s xs).d] := by simp only [cellsK, plusS, got_all]
        rwa [this] at hB1
      obtain ⟨c0, c1, c2, c3⟩ := hB1'.c4
      obtain ⟨d0, d1, d2, d3⟩ := hB2.c4
      have hf := hB2.frozen
      clear h hx hB1 hB1' hB2
      go_wp2
      exact bodyPost_ret (v := .agg #[.int .i64 (plusS s xs).a, .int .i64 (plusS s xs).b, .int .i64 (plusS s xs).c, .int .i64 (plusS s xs).d]) (by simp [results, Tryz.results30, go_sem, d0, d1, d2, d3]) rfl ⟨rfl, (((hbr.setCell (by simp) _).setCell (by simp) _).setCell (by simp) _).setCell (by simp) _⟩

theorem Small.mono {M N : Int} {s : S4} (h : Small M s) (hMN : M ≤ N) : Small N s := by
  obtain ⟨⟨a1, a2⟩, ⟨a3, a4⟩, ⟨a5, a6⟩, ⟨a7, a8⟩⟩ := h
  exact ⟨⟨a1, by omega⟩, ⟨a3, by omega⟩, ⟨a5, by omega⟩, ⟨a7, by omega⟩⟩

/-- the sums of all rows -/
def addedS (rows : List (List Int)) : S4 := rows.foldl plusS ⟨0, 0, 0, 0⟩
theorem added_succ (rows : List (List Int)) (k : Nat) (h : k < rows.length) : addedS (rows.take (k + 1)) = plusS (addedS (rows.take k)) rows[k] := by
  unfold addedS
  rw [List.take_succ_eq_append_getElem h, List.foldl_append]; rfl
theorem added_small (rows : List (List Int)) (hx : ∀ r ∈ rows, ∀ x ∈ r, 0 ≤ x ∧ x ≤ 10100) (k : Nat) (hk : k ≤ rows.length) : Small (k * 10100) (addedS (rows.take k)) := by
  induction k with
  | zero => exact ⟨⟨Int.le_refl _, by simp [addedS]⟩, ⟨Int.le_refl _, by simp [addedS]⟩, ⟨Int.le_refl _, by simp [addedS]⟩, ⟨Int.le_refl _, by simp [addedS]⟩⟩
  | succ k ih =>
    obtain ⟨⟨a1, a2⟩, ⟨a3, a4⟩, ⟨a5, a6⟩, ⟨a7, a8⟩⟩ := ih (by omega)
    rw [added_succ rows k (by omega)]
    have hr := hx rows[k] (List.getElem_mem _)
    obtain ⟨b1, b2⟩ := getD_small (by omega) hr 0
    obtain ⟨b3, b4⟩ := getD_small (by omega) hr 1
    obtain ⟨b5, b6⟩ := getD_small (by omega) hr 2
    obtain ⟨b7, b8⟩ := getD_small (by omega) hr 3
    refine ⟨⟨?_, ?_⟩, ⟨?_, ?_⟩, ⟨?_, ?_⟩, ⟨?_, ?_⟩⟩ <;> simp only [plusS] <;> omega

set_option maxRecDepth 100000 in
set_option maxHeartbeats 1000000 in
theorem added_any (A : Option Addr) (c : Nat) (rows : List (List Int)) (w : World) (h : IsRows w w.heap.size A rows) (hn : rows.length ≤ 8) (hl : ∀ r ∈ rows, r.length ≤ 4) (hx : ∀ r ∈ rows, ∀ x ∈ r, 0 ≤ x ∧ x ≤ 10100) :
    Calls Tryz.prog 93 #[.slice A rows.length c] w fun e w' =>
      e = .returned (.agg #[.int .i64 (addedS rows).a, .int .i64 (addedS rows).b, .int .i64 (addedS rows).c, .int .i64 (addedS rows).d]) ∧ Below w.heap.size w w' := by
  go_enter Tryz.func93, Tryz.ntmps93
  go_wp2
  go_loopw [7] (fun i wr => ∃ k : Nat, k ≤ rows.length ∧ i = .int .i64 k ∧ Below w.heap.size w wr ∧
      ∃ s, s = addedS (rows.take k) ∧ Blk wr w.heap.size 98 #[.int .i64 s.a, .int .i64 s.b, .int .i64 s.c, .int .i64 s.d]) (fun i _ => rows.length - (intOf i).toNat)
  case atStart =>
    exact ⟨0, Nat.zero_le _, rfl, (Below.refl _ _).alloc (Nat.le_refl _) _, ⟨0, 0, 0, 0⟩, rfl, Blk.new _ _ _⟩
  case round =>
    obtain ⟨k, hk, rfl, hbr, s, hs, hB⟩ := hrel
    obtain ⟨c0, c1, c2, c3⟩ := hB.c4
    have hf := hB.frozen
    have HS := hid hs
    have HB := hid hB
    by_cases hlt : k < rows.length
    · have hsm := added_small rows hx k hk
      rw [← hs] at hsm
      obtain ⟨a, A', c', rfl, hb, hc, h1, h2, h3⟩ := h.below hbr k rows[k] (List.getElem?_eq_getElem hlt)
      have h4 := hl rows[k] (List.getElem_mem hlt)
      have h5 := hx rows[k] (List.getElem_mem hlt)
      have HM := hid hsm
      have hsz := hbr.size
      have H3 := hid h3
      have H5 := hid h5
      clear hs hB h hx hl hsm h3 h5
      go_wp2_with fail
      refine (plus_any s A' c' rows[k] wr (HM.out.mono (by omega)) (H3.out.more hsz) h4 (fun x hm => ⟨(H5.out x hm).1, by have := (H5.out x hm).2; omega⟩)).mono ?_
      rintro e w2 ⟨rfl, hb2⟩
      have HB2 := HB.out.keep hb2
      have hf2 := HB2.frozen
      have HB3 := hid HB2
      clear hf HB HB2
      obtain ⟨d0, d1, d2, d3⟩ := HB3.out.c4
      generalize hq : plusS s rows[k] = q
      have HQ := hid hq
      clear hq c0 c1 c2 c3
      go_wp2
      go_roundw
      case rel =>
        refine ⟨k + 1, by omega, by go_num, ?_, q, ?_, ?_⟩
        · exact ((((hbr.trans (hb2.mono hsz)).setCell (by simp) _).setCell (by simp) _).setCell (by simp) _).setCell (by simp) _
        · rw [added_succ rows k hlt, ← HS.out, HQ.out]
        · exact (((HB3.out.set_ 0 _).set_ 1 _).set_ 2 _).set_ 3 _
      case measure => simp [intOf]; omega
    · obtain rfl : k = rows.length := by omega
      rw [List.take_length] at hs
      clear h hl hx HS HB hB
      subst hs
      go_wp2
      exact bodyPost_ret (v := .agg #[.int .i64 (addedS rows).a, .int .i64 (addedS rows).b, .int .i64 (addedS rows).c, .int .i64 (addedS rows).d]) (by simp [results, Tryz.results93, go_sem, c0, c1, c2, c3]) rfl ⟨rfl, (((hbr.setCell (by simp) _).setCell (by simp) _).setCell (by simp) _).setCell (by simp) _⟩
end Go.Proofs.YtlnamjhgbdacbaaGreat
/- closes: whether sums of columns, and their total, are neighbours of those of a table: for every valid table. -/
namespace Go.Proofs.YtlnamjhgbdacbaaGreat
open Go.RowKit

/-- what the proofs below ask of a table: it is one that CheckTable lets by, but for its fixes -/
structure Okc (b : Int) (cs : List (List Int)) : Prop where
  b1 : 2 ≤ b
  b2 : b ≤ 100
  n1 : 1 ≤ cs.length
  n2 : cs.length ≤ 5
  c1 : 1 ≤ colsOf cs
  c2 : colsOf cs ≤ 4
  row : ∀ r ∈ cs, r.length = colsOf cs
  cell : ∀ r ∈ cs, ∀ x ∈ r, 0 ≤ x ∧ x ≤ 10000

def sumS (s : S4) : Int := [s.a, s.b, s.c, s.d].sum
theorem sumS_small {M : Int} {s : S4} (h : Small M s) : (0 ≤ sumS s ∧ sumS s ≤ 4 * M) ∧ ∀ x ∈ [s.a, s.b, s.c, s.d], 0 ≤ x ∧ x ≤ M := by
  obtain ⟨⟨a1, a2⟩, ⟨a3, a4⟩, ⟨a5, a6⟩, ⟨a7, a8⟩⟩ := h
  refine ⟨⟨by simp [sumS]; omega, by simp [sumS]; omega⟩, fun x hx => ?_⟩
  simp at hx
  rcases hx with rfl | rfl | rfl | rfl <;> omega
def closesTo (b : Int) (cs : List (List Int)) (s : S4) (k : Nat) : Bool := (List.range k).all fun c => nearB b (comp s c) (comp (addedS cs) c)
def closesB (b : Int) (cs : List (List Int)) (s : S4) : Bool := closesTo b cs s (colsOf cs) && nearB b (sumS s) (sumS (addedS cs))
theorem closesTo_succ (b : Int) (cs : List (List Int)) (s : S4) (k : Nat) : closesTo b cs s (k + 1) = (closesTo b cs s k && nearB b (comp s k) (comp (addedS cs) k)) := by
  simp [closesTo, List.range_succ]
theorem closesTo_false {b : Int} {cs : List (List Int)} {s : S4} {k m : Nat} (h : k < m) (hk : nearB b (comp s k) (comp (addedS cs) k) = false) : closesTo b cs s m = false := by
  unfold closesTo
  rw [List.all_eq_false]
  exact ⟨k, List.mem_range.2 h, by simp [hk]⟩

theorem s4_cell {w : World} {g : Nat} {t : TypeId} {s : S4} (h : Blk w g t #[.int .i64 s.a, .int .i64 s.b, .int .i64 s.c, .int .i64 s.d]) (k : Nat) (hk : k < 4) : w.cell? ⟨g, k, none⟩ = some (.int .i64 (comp s k)) := by
  rw [h.cell]
  have hk4 : k = 0 ∨ k = 1 ∨ k = 2 ∨ k = 3 := by omega
  rcases hk4 with rfl | rfl | rfl | rfl <;> rfl
theorem s4_ints {w : World} {g n : Nat} {t : TypeId} {s : S4} (h : Blk w g t #[.int .i64 s.a, .int .i64 s.b, .int .i64 s.c, .int .i64 s.d]) (hg : g < n) : IsInts w n (some ⟨g, 0, none⟩) [s.a, s.b, s.c, s.d] := by
  intro k x hk
  refine ⟨_, rfl, hg, ?_⟩
  have hk4 : k < 4 := by
    rcases Nat.lt_or_ge k 4 with h | h
    · exact h
    · rw [List.getElem?_eq_none (by simpa using h)] at hk; cases hk
  have hx : x = comp s k := by
    have hk5 : k = 0 ∨ k = 1 ∨ k = 2 ∨ k = 3 := by omega
    rcases hk5 with rfl | rfl | rfl | rfl <;> simp at hk <;> exact hk.symm
  have ha : (⟨g, 0, none⟩ : Addr).add k = ⟨g, k, none⟩ := by unfold Addr.add; split <;> simp_all
  rw [ha, hx]
  exact s4_cell h k hk4

set_option maxRecDepth 100000 in
set_option maxHeartbeats 1000000 in
theorem closes_any (b : Int) (A : Option Addr) (c : Nat) (cs : List (List Int)) (f : Value) (s : S4) (w : World) (ok : Okc b cs) (h : IsRows w w.heap.size A cs) (hs : Small 200000 s) :
    Calls Tryz.prog 59 #[.agg #[.int .i64 b, .slice A cs.length c, f], .agg #[.int .i64 s.a, .int .i64 s.b, .int .i64 s.c, .int .i64 s.d]] w fun e w' =>
      e = .returned (.bool (closesB b cs s)) ∧ Below w.heap.size w w' := by
  have hcol : ∀ r ∈ cs, r.length ≤ 4 := fun r hr => by have := ok.row r hr; have := ok.c2; omega
  have hcel : ∀ r ∈ cs, ∀ x ∈ r, 0 ≤ x ∧ x ≤ 10100 := fun r hr x hx => by have := ok.cell r hr x hx; omega
  have hn8 : cs.length ≤ 8 := by have := ok.n2; omega
  have hdue : Small 200000 (addedS cs) := by
    have := added_small cs hcel cs.length (Nat.le_refl _)
    rw [List.take_length] at this
    exact this.mono (by have := ok.n2; omega)
  have HO := hid ok; have HC := hid hcol; have HX := hid hcel; have HH := hid h; have HD := hid hdue; have HS := hid hs
  have hb1 := ok.b1; have hb2 := ok.b2; have hk1 := ok.c1; have hk2 := ok.c2
  clear ok hcol hcel h hdue hs
  generalize hdu : addedS cs = u
  rw [hdu] at HD
  have HU := hid hdu
  clear hdu
  go_enter Tryz.func59, Tryz.ntmps59
  go_wp2_with fail
  refine (added_any A c cs _ (HH.out.at_ ?_) hn8 HC.out HX.out).mono ?_
  · exact ((Below.refl _ _).alloc (Nat.le_refl _) _).alloc (by simp) _
  rintro e w1 ⟨rfl, hw1⟩
  rw [HU.out]
  have B2 := Blk.keep ((Blk.new w 41 #[.int .i64 b, .slice A cs.length c, f]).alloc (.cells #[.int .i64 s.a, .int .i64 s.b, .int .i64 s.c, .int .i64 s.d] 98)) hw1
  have B3 : Blk w1 (w.heap.size + 1) 98 #[.int .i64 s.a, .int .i64 s.b, .int .i64 s.c, .int .i64 s.d] := by
    have := (Blk.new (w.alloc (.cells #[.int .i64 b, .slice A cs.length c, f] 41)) 98 #[.int .i64 s.a, .int .i64 s.b, .int .i64 s.c, .int .i64 s.d]).keep hw1
    rwa [World.size_alloc] at this
  have hall : Below w.heap.size w w1 := (((Below.refl _ _).alloc (Nat.le_refl _) _).alloc (by simp) _).trans (hw1.mono (by simp; omega))
  have hz : w.heap.size + 1 < w1.heap.size := by have := hw1.size; simp at this; omega
  have hz0 : w.heap.size < w1.heap.size := by omega
  obtain ⟨c0, c1, c2⟩ := B2.c3
  have H1 := hid hw1; clear hw1
  go_wp2_with fail
  refine (columns_any _ _ _ _ cs _ (HH.out.at_ ?_)).mono ?_
  · exact hall.alloc hall.size _
  rintro e w2 ⟨rfl, hw2⟩
  have hall2 : Below w.heap.size w w2 := (hall.alloc hall.size _).trans (hw2.mono (by simp; omega))
  have C2 := (B2.alloc (.cells #[.int .i64 u.a, .int .i64 u.b, .int .i64 u.c, .int .i64 u.d] 98)).keep hw2
  have C3 := (B3.alloc (.cells #[.int .i64 u.a, .int .i64 u.b, .int .i64 u.c, .int .i64 u.d] 98)).keep hw2
  have C5 := (Blk.new w1 98 #[.int .i64 u.a, .int .i64 u.b, .int .i64 u.c, .int .i64 u.d]).keep hw2
  clear B2 B3 c0 c1 c2 hw2 H1 hz hz0 hall
  go_wp2
  go_loopw [12] (fun i wr => ∃ k : Nat, k ≤ colsOf cs ∧ i = .int .i64 k ∧ Below w2.heap.size w2 wr ∧ closesTo b cs s k = true) (fun i _ => colsOf cs - (intOf i).toNat)
  case atStart => exact ⟨0, Nat.zero_le _, rfl, Below.refl _ _, rfl⟩
  case round =>
    obtain ⟨k, hk, rfl, hbr, hcl⟩ := hrel
    have D2 := C2.keep hbr
    have D3 := C3.keep hbr
    have D5 := C5.keep hbr
    have HCL := hid hcl; clear hcl
    obtain ⟨e1, e2, e3⟩ := xt_c3 D2
    by_cases hlt : k < colsOf cs
    · have hk4 : k < 4 := by omega
      have hk5 : (k : Int) < 4 := by omega
      have f3 := xt_cell (s4_cell D3 k hk4)
      have f5 := xt_cell (s4_cell D5 k hk4)
      obtain ⟨g1, g2⟩ := comp_small HD.out k
      clear C2 C3 C5
      cases hnr : nearB b (comp s k) (comp u k)
      all_goals
        have HN := hid hnr
        clear hnr
        go_wp2
        refine wp_region_quiet_xt (by kernel_rfl) (by kernel_rfl) ?_
        repeat (go_big_quiet_step ((go_at_call 94; exact Calls.xt (near_any b (comp s k) (comp u k) _ _ _ hb1 hb2 g1 (by omega)))))
        refine wpQuiet_nil ?_
        intro w3 hw3
        replace hw3 := of_xt hw3
        rw [HN.out]
        go_wp2
      · go_ret
        refine ⟨?_, hall2.trans ((hbr.trans (hw3.mono hbr.size)).mono hall2.size)⟩
        rw [closesB, closesTo_false hlt (by rw [HU.out]; exact HN.out)]; rfl
      · go_roundw
        case rel =>
          refine ⟨k + 1, by omega, by go_num, hbr.trans (hw3.mono hbr.size), ?_⟩
          rw [closesTo_succ, HCL.out, HU.out, HN.out]; rfl
        case measure => simp [intOf]; omega
    · obtain rfl : k = colsOf cs := by omega
      obtain ⟨⟨q1, q2⟩, q3⟩ := sumS_small HS.out
      obtain ⟨⟨q4, q5⟩, q6⟩ := sumS_small HD.out
      have i3 := fun q => s4_ints (D3.keep (below_xt wr q)) (D3.keep (below_xt wr q)).lt
      have i5 := fun q => s4_ints (D5.keep (below_xt wr q)) (D5.keep (below_xt wr q)).lt
      have T1 := hid (show ∀ q, Calls Tryz.prog 83 #[.slice (some ⟨w.heap.size + 1, 0, none⟩) 4 4] (xt wr q) fun e w' => e = .returned (.int .i64 (sumS s)) ∧ Below (xt wr q).heap.size (xt wr q) w' from
        fun q => Calls.same_below (total_any _ 4 [s.a, s.b, s.c, s.d] _ (i3 q) (by simp) (fun x hx => by have := q3 x hx; omega)))
      have T2 := hid (show ∀ q, Calls Tryz.prog 83 #[.slice (some ⟨w1.heap.size, 0, none⟩) 4 4] (xt wr q) fun e w' => e = .returned (.int .i64 (sumS u)) ∧ Below (xt wr q).heap.size (xt wr q) w' from
        fun q => Calls.same_below (total_any _ 4 [u.a, u.b, u.c, u.d] _ (i5 q) (by simp) (fun x hx => by have := q6 x hx; omega)))
      clear i3 i5 q3 q6 C2 C3 C5
      go_wp2
      refine wp_region_quiet_xt (by kernel_rfl) (by kernel_rfl) ?_
      repeat (go_big_quiet_step ((first | (go_at_call 94; exact Calls.xt (near_any b _ _ _ _ _ hb1 hb2 q4 (by omega))) | (go_at_call 83; with_reducible exact Calls.xt (T1.out _)) | (go_at_call 83; with_reducible exact Calls.xt (T2.out _)))))
      refine wpQuiet_nil ?_
      intro w3 hw3
      replace hw3 := of_xt hw3
      go_wp2
      go_ret
      refine ⟨?_, hall2.trans ((hbr.trans (hw3.mono hbr.size)).mono hall2.size)⟩
      rw [closesB, HCL.out, HU.out]; rfl
end Go.Proofs.YtlnamjhgbdacbaaGreat
/- holds: whether all fixes of a row do. -/
namespace Go.Proofs.YtlnamjhgbdacbaaGreat
open Go.RowKit

def fixB (row : Int) (xs : List Int) (f : Fx) : Bool := f.row == row && xs.getD f.col.toNat 0 != f.val
def holdsB (fs : List Fx) (row : Int) (xs : List Int) : Bool := fs.all fun f => !fixB row xs f

theorem holdsB_take (fs : List Fx) (row : Int) (xs : List Int) (k : Nat) (h : k < fs.length) : holdsB (fs.take (k + 1)) row xs = (holdsB (fs.take k) row xs && !fixB row xs fs[k]) := by
  unfold holdsB
  rw [List.take_succ_eq_append_getElem h, List.all_append]; simp
theorem holdsB_false {fs : List Fx} {row : Int} {xs : List Int} {k : Nat} (h : k < fs.length) (hf : fixB row xs fs[k] = true) : holdsB fs row xs = false := by
  unfold holdsB
  rw [List.all_eq_false]
  exact ⟨fs[k], List.getElem_mem h, by simp [hf]⟩

set_option maxRecDepth 100000 in
set_option maxHeartbeats 1000000 in
theorem holds_any (b c : Value) (A : Option Addr) (cf : Nat) (fs : List Fx) (row : Int) (A2 : Option Addr) (c2 : Nat) (xs : List Int) (w : World) (h : IsFixes w w.heap.size A fs) (hx : IsInts w w.heap.size A2 xs)
    (hn : fs.length ≤ 100) (_ : xs.length ≤ 100) (hc : ∀ f ∈ fs, 0 ≤ f.col ∧ f.col < xs.length) :
    Calls Tryz.prog 97 #[.agg #[b, c, .slice A fs.length cf], .int .i64 row, .slice A2 xs.length c2] w fun e w' =>
      e = .returned (.bool (holdsB fs row xs)) ∧ Below w.heap.size w w' := by
  go_enter Tryz.func97, Tryz.ntmps97
  go_wp2
  go_step3
  go_wp2
  go_step3
  go_wp2
  go_loopw [7, 13] (fun is i wr => ∃ k : Nat, k ≤ fs.length ∧ i = .int .i64 k ∧ is = .bool true ∧ Below w.heap.size w wr ∧ holdsB (fs.take k) row xs = true) (fun _ i _ => fs.length - (intOf i).toNat)
  case atStart => exact ⟨0, Nat.zero_le _, rfl, rfl, (Below.refl _ _).alloc (Nat.le_refl _) _, rfl⟩
  case round =>
    obtain ⟨k, hk, rfl, rfl, hbr, hh⟩ := hrel
    have HH := hid hh; clear hh
    by_cases hlt : k < fs.length
    · obtain ⟨a, rfl, hb, f0, f1, f2⟩ := h.below hbr k fs[k] (List.getElem?_eq_getElem hlt)
      obtain ⟨p1, p2⟩ := hc fs[k] (List.getElem_mem hlt)
      have HT := hid (holdsB_take fs row xs k hlt)
      have HF := hid (@holdsB_false fs row xs k hlt)
      generalize fs[k] = g at *
      obtain ⟨m, hm⟩ := Int.eq_ofNat_of_zero_le p1
      obtain ⟨gr, gc, gv⟩ := g
      simp only at hm f0 f1 f2 p1 p2
      subst hm
      have hmx : m < xs.length := by omega
      obtain ⟨a2, rfl, hb2, hx2⟩ := hx.below hbr m xs[m] (List.getElem?_eq_getElem hmx)
      have HX := hid (show xs.getD (m : Int).toNat 0 = xs[m] by simp [List.getD, List.getElem?_eq_getElem hmx])
      clear h hx hc
      go_wp2
      refine gen (p := Code.wp _ _ _ _) (fun W => Below wr.heap.size wr W ∧ Blk W wr.heap.size 176 #[.int .i64 gr, .int .i64 m, .int .i64 gv]) ⟨(Below.refl _ _).alloc (Nat.le_refl _) _, Blk.new _ _ _⟩ ?_
      rintro W ⟨hbW, hBW⟩
      obtain ⟨e1, e2, e3⟩ := xt_c3 hBW
      have e4 := xt_cell ((hbW.cell (p := a2.add m) (by rw [block_of_add]; have := hbr.size; omega)).trans hx2)
      have hall : Below w.heap.size w W := hbr.trans (hbW.mono hbr.size)
      have hmI : (m : Int) < (xs.length : Int) := by omega
      clear hbW hBW hbr hx2 f0 f1 f2
      generalize hxm : xs[m] = xm at *
      have HXM := hid hxm; clear hxm
      cases hgr : (gr == row)
      · refine wp_region_quiet_xt (by kernel_rfl) (by kernel_rfl) ?_
        repeat (go_big_quiet_step (fail))
        refine wpQuiet_nil ?_
        intro w3 hw3
        replace hw3 := of_xt hw3
        have HG := hid hgr; clear hgr
        go_wp2
        go_roundw
        case rel =>
          refine ⟨k + 1, by omega, by go_num, rfl, hall.trans (hw3.mono hall.size), ?_⟩
          rw [HT.out, HH.out]; simp [fixB, HG.out]
        case measure => simp [intOf]; omega
      · cases hne : (xm != gv)
        · refine wp_region_quiet_xt (by kernel_rfl) (by kernel_rfl) ?_
          repeat (go_big_quiet_step (fail))
          refine wpQuiet_nil ?_
          intro w3 hw3
          replace hw3 := of_xt hw3
          have HG := hid hgr; clear hgr
          have HN := hid hne; clear hne
          go_wp2
          go_roundw
          case rel =>
            refine ⟨k + 1, by omega, by go_num, rfl, hall.trans (hw3.mono hall.size), ?_⟩
            rw [HT.out, HH.out]; simp only [fixB, HX.out, HN.out]; simp
          case measure => simp [intOf]; omega
        · refine wp_region_quiet_xt (by kernel_rfl) (by kernel_rfl) ?_
          repeat (go_big_quiet_step (fail))
          refine wpQuiet_nil ?_
          intro w3 hw3
          replace hw3 := of_xt hw3
          have HG := hid hgr; clear hgr
          have HN := hid hne; clear hne
          go_wp2
          rw [Exit.noGoto_ret]
          go_ret
          refine ⟨?_, hall.trans (hw3.mono hall.size)⟩
          rw [HF.out (by simp only [fixB, HX.out, HG.out, HN.out]; rfl)]; rfl
    · obtain rfl : k = fs.length := by omega
      rw [List.take_length] at HH
      clear h hx hc
      go_wp2
      rw [Exit.noGoto_ret]
      go_ret
      exact ⟨by rw [HH.out]; rfl, hbr⟩
end Go.Proofs.YtlnamjhgbdacbaaGreat
/- all: whether each element of a list passes a test, for the package's three element types. -/
namespace Go.Proofs.YtlnamjhgbdacbaaGreat
open Go.RowKit Go.Shelf

def idxOf {α : Type} (q : α → Bool) (xs : List α) : Int := if xs.any q then (xs.findIdx q : Int) else -1
theorem idxOf_hit {α : Type} {q : α → Bool} {xs : List α} {k : Nat} (hk : k < xs.length) (h0 : (xs.take k).any q = false) (h1 : q xs[k] = true) : idxOf q xs = k := by
  have hany : xs.any q = true := List.any_eq_true.2 ⟨xs[k], List.getElem_mem hk, h1⟩
  unfold idxOf
  rw [if_pos hany]
  congr 1
  rw [List.findIdx_eq hk]
  refine ⟨h1, fun j hj => ?_⟩
  rw [List.any_eq_false] at h0
  have hm : xs[j] ∈ xs.take k := by
    rw [List.mem_take_iff_getElem]
    exact ⟨j, by omega, rfl⟩
  simpa using h0 _ hm
theorem idxOf_miss {α : Type} {q : α → Bool} {xs : List α} (h0 : xs.any q = false) : idxOf q xs = -1 := by
  unfold idxOf; rw [if_neg (by simp [h0])]
theorem any_take {α : Type} (q : α → Bool) (xs : List α) (k : Nat) (hk : k < xs.length) : (xs.take (k + 1)).any q = ((xs.take k).any q || q xs[k]) := by
  rw [List.take_succ_eq_append_getElem hk, List.any_append]; simp
theorem idxOf_nonneg {α : Type} (q : α → Bool) (xs : List α) : decide (0 ≤ idxOf q xs) = xs.any q := by
  unfold idxOf
  cases h : xs.any q <;> simp

/-- a test of numbers: what it says, in each world that has only grown -/
def PredI (g : Nat) (bnd cap : Array Value) (p : Int → Bool) (xs : List Int) (w : World) : Prop :=
  ∀ W x, Below w.heap.size w W → x ∈ xs → Calls Tryz.prog g (bnd.push (.int .i64 x) ++ cap) W fun e W' => e = .returned (.bool (p x)) ∧ Below W.heap.size W W'

set_option maxRecDepth 10000 in
set_option maxHeartbeats 400000 in
theorem all_int1 (g : Nat) (bnd cap : Array Value) (B : Nat) (t : Bool) (x : Int) (W : World) (eg : ∀ args w, (callFunc g args).run Tryz.prog w = .ok (.enter g args) w) (hB : Blk W B 105 #[.func (.func g) bnd cap])
    (hp : Calls Tryz.prog g (bnd.push (.int .i64 x) ++ cap) W fun e W' => e = .returned (.bool t) ∧ Below W.heap.size W W') :
    Calls Tryz.prog 113 #[.int .i64 x, .pointer (some ⟨B, 0, none⟩)] W fun e W' => e = .returned (.bool (!t)) ∧ Below W.heap.size W W' := by
  have c0 := hB.c1
  have HP := hid hp
  clear hp hB
  go_enter Tryz.func113, Tryz.ntmps113
  go_wp2_with fail
  refine HP.out.mono ?_
  rintro e w2 ⟨rfl, hb2⟩
  go_wp2
  go_ret
  exact ⟨rfl, hb2⟩

set_option maxRecDepth 10000 in
set_option maxHeartbeats 400000 in
theorem idx_int (f : Value) (q : Int → Bool) (A : Option Addr) (c : Nat) (xs : List Int) (w : World) (h : IsInts w w.heap.size A xs) (hl : xs.length ≤ c) (hm : c ≤ maxLen)
    (g : Nat) (bnd cap : Array Value) (hf : f = .func (.func g) bnd cap) (eg : ∀ args w, (callFunc g args).run Tryz.prog w = .ok (.enter g args) w) (hp : PredI g bnd cap q xs w) :
    Calls Tryz.prog 110 #[.slice A xs.length c, f] w fun e w' => e = .returned (.int .i64 (idxOf q xs)) ∧ Below w.heap.size w w' := by
  subst hf
  unfold maxLen at hm
  have HP := hid hp
  clear hp
  go_enter Tryz.func110, Tryz.ntmps110
  go_wp2
  go_loopw [8] (fun i wr => ∃ k : Nat, k ≤ xs.length ∧ i = .int .i64 k ∧ Below w.heap.size w wr ∧ (xs.take k).any q = false) (fun i _ => xs.length - (intOf i).toNat)
  case atStart => exact ⟨0, Nat.zero_le _, rfl, Below.refl _ _, rfl⟩
  case round =>
    obtain ⟨k, hk, rfl, hbr, hno⟩ := hrel
    have HN := hid hno; clear hno
    by_cases hlt : k < xs.length
    · obtain ⟨a, rfl, hb, hc⟩ := h.below hbr k xs[k] (List.getElem?_eq_getElem hlt)
      have HC := hid (HP.out wr xs[k] hbr (List.getElem_mem hlt))
      have HH := hid (@idxOf_hit Int q xs k hlt)
      have HT := hid (any_take q xs k hlt)
      generalize xs[k] = x at *
      cases hq : q x
      all_goals
        have HQ := hid hq
        clear hq
        go_wp2_with fail
        refine HC.out.mono ?_
        rintro e w2 ⟨rfl, hb2⟩
        rw [HQ.out]
        go_wp2
      · go_roundw
        case rel => exact ⟨k + 1, by omega, by go_num, hbr.trans (hb2.mono hbr.size), by rw [HT.out, HN.out, HQ.out]; rfl⟩
        case measure => simp [intOf]; omega
      · go_ret
        exact ⟨by rw [HH.out HN.out HQ.out]; rfl, hbr.trans (hb2.mono hbr.size)⟩
    · obtain rfl : k = xs.length := by omega
      rw [List.take_length] at HN
      have HM := hid (idxOf_miss HN.out)
      go_wp2
      go_ret
      exact ⟨by rw [HM.out]; rfl, hbr⟩

set_option maxHeartbeats 400000 in
theorem has_int (q : Int → Bool) (A : Option Addr) (c : Nat) (xs : List Int) (w : World) (h : IsInts w w.heap.size A xs) (hl : xs.length ≤ c) (hm : c ≤ maxLen)
    (g : Nat) (bnd cap : Array Value) (eg : ∀ args w, (callFunc g args).run Tryz.prog w = .ok (.enter g args) w) (hp : PredI g bnd cap q xs w) :
    Calls Tryz.prog 72 #[.slice A xs.length c, .func (.func g) bnd cap] w fun e w' => e = .returned (.bool (xs.any q)) ∧ Below w.heap.size w w' := by
  have HI := hid (idx_int _ q A c xs w h hl hm g bnd cap rfl eg hp)
  have HN := hid (idxOf_nonneg q xs)
  clear hp h eg
  go_enter Tryz.func72, Tryz.ntmps72
  go_wp2_with fail
  refine HI.out.mono ?_
  rintro e w2 ⟨rfl, hb2⟩
  go_wp2
  go_ret
  exact ⟨by rw [← HN.out]; rfl, hb2⟩

set_option maxHeartbeats 400000 in
theorem all_int (p : Int → Bool) (A : Option Addr) (c : Nat) (xs : List Int) (w : World) (h : IsInts w w.heap.size A xs) (hl : xs.length ≤ c) (hm : c ≤ maxLen)
    (g : Nat) (bnd cap : Array Value) (eg : ∀ args w, (callFunc g args).run Tryz.prog w = .ok (.enter g args) w) (hp : PredI g bnd cap p xs w) :
    Calls Tryz.prog 81 #[.slice A xs.length c, .func (.func g) bnd cap] w fun e w' => e = .returned (.bool (xs.all p)) ∧ Below w.heap.size w w' := by
  have hB : Below w.heap.size w (w.alloc (.cells #[.func (.func g) bnd cap] 105)) := (Below.refl _ _).alloc (Nat.le_refl _) _
  have HI := hid (has_int (fun x => !p x) A c xs _ (h.at_ hB) hl hm 113 #[] #[.pointer (some ⟨w.heap.size, 0, none⟩)] (enters_of Tryz.func113 (by kernel_rfl) rfl)
    (fun W x hW hx => all_int1 g bnd cap w.heap.size (p x) x W eg ((Blk.new _ _ _).keep hW) (hp W x (hB.trans (hW.mono hB.size)) hx)))
  have HN : Hid ((!xs.any fun x => !p x) = xs.all p) := hid (by simp [List.all_eq_not_any_not])
  clear hp h eg
  go_enter Tryz.func81, Tryz.ntmps81
  go_wp2_with fail
  refine HI.out.mono ?_
  rintro e w2 ⟨rfl, hb2⟩
  go_wp2
  go_ret
  exact ⟨by rw [← HN.out]; rfl, hB.trans (hb2.mono hB.size)⟩
end Go.Proofs.YtlnamjhgbdacbaaGreat
/- all, for rows: as for numbers. -/
namespace Go.Proofs.YtlnamjhgbdacbaaGreat
open Go.RowKit Go.Shelf

/-- a test of rows: what it says, in each world that has only grown -/
def PredR (g : Nat) (bnd cap : Array Value) (p : List Int → Bool) (xs : List (List Int)) (w : World) : Prop :=
  ∀ W x A' c', Below w.heap.size w W → x ∈ xs → x.length ≤ c' → c' ≤ maxLen → IsInts W W.heap.size A' x → Calls Tryz.prog g (bnd.push (.slice A' x.length c') ++ cap) W fun e W' => e = .returned (.bool (p x)) ∧ Below W.heap.size W W'

set_option maxRecDepth 10000 in
set_option maxHeartbeats 400000 in
theorem all_row1 (g : Nat) (bnd cap : Array Value) (B : Nat) (t : Bool) (A' : Option Addr) (n c' : Nat) (W : World) (eg : ∀ args w, (callFunc g args).run Tryz.prog w = .ok (.enter g args) w) (hB : Blk W B 129 #[.func (.func g) bnd cap])
    (hp : Calls Tryz.prog g (bnd.push (.slice A' n c') ++ cap) W fun e W' => e = .returned (.bool t) ∧ Below W.heap.size W W') :
    Calls Tryz.prog 116 #[.slice A' n c', .pointer (some ⟨B, 0, none⟩)] W fun e W' => e = .returned (.bool (!t)) ∧ Below W.heap.size W W' := by
  have c0 := hB.c1
  have HP := hid hp
  clear hp hB
  go_enter Tryz.func116, Tryz.ntmps116
  go_wp2_with fail
  refine HP.out.mono ?_
  rintro e w2 ⟨rfl, hb2⟩
  go_wp2
  go_ret
  exact ⟨rfl, hb2⟩

set_option maxRecDepth 10000 in
set_option maxHeartbeats 400000 in
theorem idx_row (f : Value) (q : List Int → Bool) (A : Option Addr) (c : Nat) (xs : List (List Int)) (w : World) (h : IsRows w w.heap.size A xs) (hl : xs.length ≤ c) (hm : c ≤ maxLen)
    (g : Nat) (bnd cap : Array Value) (hf : f = .func (.func g) bnd cap) (eg : ∀ args w, (callFunc g args).run Tryz.prog w = .ok (.enter g args) w) (hp : PredR g bnd cap q xs w) :
    Calls Tryz.prog 126 #[.slice A xs.length c, f] w fun e w' => e = .returned (.int .i64 (idxOf q xs)) ∧ Below w.heap.size w w' := by
  subst hf
  unfold maxLen at hm
  have HP := hid hp
  clear hp
  go_enter Tryz.func126, Tryz.ntmps126
  go_wp2
  go_loopw [8] (fun i wr => ∃ k : Nat, k ≤ xs.length ∧ i = .int .i64 k ∧ Below w.heap.size w wr ∧ (xs.take k).any q = false) (fun i _ => xs.length - (intOf i).toNat)
  case atStart => exact ⟨0, Nat.zero_le _, rfl, Below.refl _ _, rfl⟩
  case round =>
    obtain ⟨k, hk, rfl, hbr, hno⟩ := hrel
    have HN := hid hno; clear hno
    by_cases hlt : k < xs.length
    · obtain ⟨a, A', c', rfl, hb, hc, h1, h2, h3⟩ := h.below hbr k xs[k] (List.getElem?_eq_getElem hlt)
      have HC := hid (HP.out wr xs[k] A' c' hbr (List.getElem_mem hlt) h1 h2 (h3.more hbr.size))
      have HH := hid (@idxOf_hit (List Int) q xs k hlt)
      have HT := hid (any_take q xs k hlt)
      clear h3
      generalize xs[k] = x at *
      cases hq : q x
      all_goals
        have HQ := hid hq
        clear hq
        go_wp2_with fail
        refine HC.out.mono ?_
        rintro e w2 ⟨rfl, hb2⟩
        rw [HQ.out]
        go_wp2
      · go_roundw
        case rel => exact ⟨k + 1, by omega, by go_num, hbr.trans (hb2.mono hbr.size), by rw [HT.out, HN.out, HQ.out]; rfl⟩
        case measure => simp [intOf]; omega
      · go_ret
        exact ⟨by rw [HH.out HN.out HQ.out]; rfl, hbr.trans (hb2.mono hbr.size)⟩
    · obtain rfl : k = xs.length := by omega
      rw [List.take_length] at HN
      have HM := hid (idxOf_miss HN.out)
      go_wp2
      go_ret
      exact ⟨by rw [HM.out]; rfl, hbr⟩

set_option maxHeartbeats 400000 in
theorem has_row (q : List Int → Bool) (A : Option Addr) (c : Nat) (xs : List (List Int)) (w : World) (h : IsRows w w.heap.size A xs) (hl : xs.length ≤ c) (hm : c ≤ maxLen)
    (g : Nat) (bnd cap : Array Value) (eg : ∀ args w, (callFunc g args).run Tryz.prog w = .ok (.enter g args) w) (hp : PredR g bnd cap q xs w) :
    Calls Tryz.prog 115 #[.slice A xs.length c, .func (.func g) bnd cap] w fun e w' => e = .returned (.bool (xs.any q)) ∧ Below w.heap.size w w' := by
  have HI := hid (idx_row _ q A c xs w h hl hm g bnd cap rfl eg hp)
  have HN := hid (idxOf_nonneg q xs)
  clear hp h eg
  go_enter Tryz.func115, Tryz.ntmps115
  go_wp2_with fail
  refine HI.out.mono ?_
  rintro e w2 ⟨rfl, hb2⟩
  go_wp2
  go_ret
  exact ⟨by rw [← HN.out]; rfl, hb2⟩

set_option maxHeartbeats 400000 in
theorem all_row (p : List Int → Bool) (A : Option Addr) (c : Nat) (xs : List (List Int)) (w : World) (h : IsRows w w.heap.size A xs) (hl : xs.length ≤ c) (hm : c ≤ maxLen)
    (g : Nat) (bnd cap : Array Value) (eg : ∀ args w, (callFunc g args).run Tryz.prog w = .ok (.enter g args) w) (hp : PredR g bnd cap p xs w) :
    Calls Tryz.prog 89 #[.slice A xs.length c, .func (.func g) bnd cap] w fun e w' => e = .returned (.bool (xs.all p)) ∧ Below w.heap.size w w' := by
  have hB : Below w.heap.size w (w.alloc (.cells #[.func (.func g) bnd cap] 129)) := (Below.refl _ _).alloc (Nat.le_refl _) _
  have HI := hid (has_row (fun x => !p x) A c xs _ (h.at_ hB) hl hm 116 #[] #[.pointer (some ⟨w.heap.size, 0, none⟩)] (enters_of Tryz.func116 (by kernel_rfl) rfl)
    (fun W x A' c' hW hx h1 h2 h3 => all_row1 g bnd cap w.heap.size (p x) A' x.length c' W eg ((Blk.new _ _ _).keep hW) (hp W x A' c' (hB.trans (hW.mono hB.size)) hx h1 h2 h3)))
  have HN : Hid ((!xs.any fun x => !p x) = xs.all p) := hid (by simp [List.all_eq_not_any_not])
  clear hp h eg
  go_enter Tryz.func89, Tryz.ntmps89
  go_wp2_with fail
  refine HI.out.mono ?_
  rintro e w2 ⟨rfl, hb2⟩
  go_wp2
  go_ret
  exact ⟨by rw [← HN.out]; rfl, hB.trans (hb2.mono hB.size)⟩
end Go.Proofs.YtlnamjhgbdacbaaGreat
/- all, for fixes: as for numbers. -/
namespace Go.Proofs.YtlnamjhgbdacbaaGreat
open Go.RowKit Go.Shelf

/-- a test of fixes: what it says, in each world that has only grown -/
def PredF (g : Nat) (bnd cap : Array Value) (p : Fx → Bool) (xs : List Fx) (w : World) : Prop :=
  ∀ W x, Below w.heap.size w W → x ∈ xs → Calls Tryz.prog g (bnd.push (.agg #[.int .i64 x.row, .int .i64 x.col, .int .i64 x.val]) ++ cap) W fun e W' => e = .returned (.bool (p x)) ∧ Below W.heap.size W W'

set_option maxRecDepth 10000 in
set_option maxHeartbeats 400000 in
theorem all_fix1 (g : Nat) (bnd cap : Array Value) (B : Nat) (t : Bool) (x : Fx) (W : World) (eg : ∀ args w, (callFunc g args).run Tryz.prog w = .ok (.enter g args) w) (hB : Blk W B 171 #[.func (.func g) bnd cap])
    (hp : ∀ W1, Below W.heap.size W W1 → Calls Tryz.prog g (bnd.push (.agg #[.int .i64 x.row, .int .i64 x.col, .int .i64 x.val]) ++ cap) W1 fun e W' => e = .returned (.bool t) ∧ Below W1.heap.size W1 W') :
    Calls Tryz.prog 118 #[.agg #[.int .i64 x.row, .int .i64 x.col, .int .i64 x.val], .pointer (some ⟨B, 0, none⟩)] W fun e W' => e = .returned (.bool (!t)) ∧ Below W.heap.size W W' := by
  have c0 := hB.c1
  have hlt := hB.lt
  have hbW : Below W.heap.size W (W.alloc (.cells #[.int .i64 x.row, .int .i64 x.col, .int .i64 x.val] 176)) := (Below.refl _ _).alloc (Nat.le_refl _) _
  have HP := hid (hp _ hbW)
  clear hp hB
  go_enter Tryz.func118, Tryz.ntmps118
  go_wp2_with fail
  refine HP.out.mono ?_
  rintro e w2 ⟨rfl, hb2⟩
  go_wp2
  go_ret
  exact ⟨rfl, hbW.trans (hb2.mono hbW.size)⟩

set_option maxRecDepth 10000 in
set_option maxHeartbeats 400000 in
theorem idx_fix (f : Value) (q : Fx → Bool) (A : Option Addr) (c : Nat) (xs : List Fx) (w : World) (h : IsFixes w w.heap.size A xs) (hl : xs.length ≤ c) (hm : c ≤ maxLen)
    (g : Nat) (bnd cap : Array Value) (hf : f = .func (.func g) bnd cap) (eg : ∀ args w, (callFunc g args).run Tryz.prog w = .ok (.enter g args) w) (hp : PredF g bnd cap q xs w) :
    Calls Tryz.prog 127 #[.slice A xs.length c, f] w fun e w' => e = .returned (.int .i64 (idxOf q xs)) ∧ Below w.heap.size w w' := by
  subst hf
  unfold maxLen at hm
  have HP := hid hp
  clear hp
  go_enter Tryz.func127, Tryz.ntmps127
  go_wp2
  go_loopw [8] (fun i wr => ∃ k : Nat, k ≤ xs.length ∧ i = .int .i64 k ∧ Below w.heap.size w wr ∧ (xs.take k).any q = false) (fun i _ => xs.length - (intOf i).toNat)
  case atStart => exact ⟨0, Nat.zero_le _, rfl, Below.refl _ _, rfl⟩
  case round =>
    obtain ⟨k, hk, rfl, hbr, hno⟩ := hrel
    have HN := hid hno; clear hno
    by_cases hlt : k < xs.length
    · obtain ⟨a, rfl, hb, f0, f1, f2⟩ := h.below hbr k xs[k] (List.getElem?_eq_getElem hlt)
      have HC := hid (HP.out wr xs[k] hbr (List.getElem_mem hlt))
      have HH := hid (@idxOf_hit Fx q xs k hlt)
      have HT := hid (any_take q xs k hlt)
      generalize xs[k] = x at *
      cases hq : q x
      all_goals
        have HQ := hid hq
        clear hq
        go_wp2_with fail
        refine HC.out.mono ?_
        rintro e w2 ⟨rfl, hb2⟩
        rw [HQ.out]
        go_wp2
      · go_roundw
        case rel => exact ⟨k + 1, by omega, by go_num, hbr.trans (hb2.mono hbr.size), by rw [HT.out, HN.out, HQ.out]; rfl⟩
        case measure => simp [intOf]; omega
      · go_ret
        exact ⟨by rw [HH.out HN.out HQ.out]; rfl, hbr.trans (hb2.mono hbr.size)⟩
    · obtain rfl : k = xs.length := by omega
      rw [List.take_length] at HN
      have HM := hid (idxOf_miss HN.out)
      go_wp2
      go_ret
      exact ⟨by rw [HM.out]; rfl, hbr⟩

set_option maxHeartbeats 400000 in
theorem has_fix (q : Fx → Bool) (A : Option Addr) (c : Nat) (xs : List Fx) (w : World) (h : IsFixes w w.heap.size A xs) (hl : xs.length ≤ c) (hm : c ≤ maxLen)
    (g : Nat) (bnd cap : Array Value) (eg : ∀ args w, (callFunc g args).run Tryz.prog w = .ok (.enter g args) w) (hp : PredF g bnd cap q xs w) :
    Calls Tryz.prog 117 #[.slice A xs.length c, .func (.func g) bnd cap] w fun e w' => e = .returned (.bool (xs.any q)) ∧ Below w.heap.size w w' := by
  have HI := hid (idx_fix _ q A c xs w h hl hm g bnd cap rfl eg hp)
  have HN := hid (idxOf_nonneg q xs)
  clear hp h eg
  go_enter Tryz.func117, Tryz.ntmps117
  go_wp2_with fail
  refine HI.out.mono ?_
  rintro e w2 ⟨rfl, hb2⟩
  go_wp2
  go_ret
  exact ⟨by rw [← HN.out]; rfl, hb2⟩

set_option maxHeartbeats 400000 in
theorem all_fix (p : Fx → Bool) (A : Option Addr) (c : Nat) (xs : List Fx) (w : World) (h : IsFixes w w.heap.size A xs) (hl : xs.length ≤ c) (hm : c ≤ maxLen)
    (g : Nat) (bnd cap : Array Value) (eg : ∀ args w, (callFunc g args).run Tryz.prog w = .ok (.enter g args) w) (hp : PredF g bnd cap p xs w) :
    Calls Tryz.prog 92 #[.slice A xs.length c, .func (.func g) bnd cap] w fun e w' => e = .returned (.bool (xs.all p)) ∧ Below w.heap.size w w' := by
  have hB : Below w.heap.size w (w.alloc (.cells #[.func (.func g) bnd cap] 171)) := (Below.refl _ _).alloc (Nat.le_refl _) _
  have HI := hid (has_fix (fun x => !p x) A c xs _ (h.at_ hB) hl hm 118 #[] #[.pointer (some ⟨w.heap.size, 0, none⟩)] (enters_of Tryz.func118 (by kernel_rfl) rfl)
    (fun W x hW hx => all_fix1 g bnd cap w.heap.size (p x) x W eg ((Blk.new _ _ _).keep hW) (fun W1 h1 => hp W1 x (hB.trans ((hW.trans (h1.mono hW.size)).mono hB.size)) hx)))
  have HN : Hid ((!xs.any fun x => !p x) = xs.all p) := hid (by simp [List.all_eq_not_any_not])
  clear hp h eg
  go_enter Tryz.func92, Tryz.ntmps92
  go_wp2_with fail
  refine HI.out.mono ?_
  rintro e w2 ⟨rfl, hb2⟩
  go_wp2
  go_ret
  exact ⟨by rw [← HN.out]; rfl, hB.trans (hb2.mono hB.size)⟩
end Go.Proofs.YtlnamjhgbdacbaaGreat
