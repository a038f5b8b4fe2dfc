/- The walks and the plain laws of this part of the program, part 13: what each computes. Conditions stand at each theorem. -/
import Derived.Deep.AppendSrc
import Derived.Deep.Upon
import Derived.Test.YtoeabajigfdkaaaG1
import Derived.Test.YtoeabajigfdkaaaG4
import Derived.Test.YtoeabajigfdkaaaG6
import Derived.Test.YtoeabajigfdkaaaG9
import Derived.Test.YtoeabajigfdkaaaG10
import Derived.Test.YtoeabajigfdkaaaG12
/- The reference's search of connected streets, in plain words. No condition. -/
namespace Go.Proofs.Ytoeabajigfdkaaa

def one (b : Bool) : Int := if b then 1 else 0
/-- how many of the first k lie in a set -/
def cnt (R : Nat → Bool) (k : Nat) : Int := sumN (fun i => one (R i)) k
theorem one_b (b : Bool) : 0 ≤ one b ∧ one b ≤ 1 := by cases b <;> simp [one]
theorem cnt_bounds (R : Nat → Bool) (k : Nat) : 0 ≤ cnt R k ∧ cnt R k ≤ k := by
  refine ⟨sumN_nonneg fun i _ => (one_b _).1, ?_⟩
  have := sumN_bound (f := fun i => one (R i)) (k := k) (M := 1) fun i _ => (one_b _).2
  unfold cnt; omega
def addR (R : Nat → Bool) (k : Nat) : Nat → Bool := fun i => if i = k then true else R i
theorem cnt_add {R : Nat → Bool} {n k : Nat} (hk : k < n) (hR : R k = false) : cnt (addR R k) n = cnt R n + 1 := by
  unfold cnt
  rw [sumN_set (g := fun i => one (R i)) hk fun i _ hne => by simp [addR, hne]]
  simp [addR, hR, one]
theorem sumN_lt {f g : Nat → Int} {j k : Nat} (hj : j < k) (h : ∀ i, i < k → f i ≤ g i) (hlt : f j < g j) : sumN f k < sumN g k := by
  have := sumN_le (f := fun i => if i = j then f j + 1 else f i) (g := g) (k := k) fun i hi => by
    split
    · rename_i e; subst e; omega
    · exact h i hi
  have e := sumN_set (f := fun i => if i = j then f j + 1 else f i) (g := f) hj fun i _ hne => by simp [hne]
  simp at e
  omega
theorem mem_cnt (l : Nat → Int) (d : Int) : ∀ k, ((mem l d k).length : Int) = cnt (inD l d) k
  | 0 => rfl
  | k + 1 => by
    have ih := mem_cnt l d k
    unfold cnt at *
    rw [sumN_succ, ← ih]
    by_cases h : l k = d
    · rw [mem_succ_in h]; simp [inD, h, one]
    · rw [mem_succ_out h]; simp [inD, h, one]
/-- the state of the search: the set that is reached -/
structure CQ (m : MapD) (l : Nat → Int) (d : Int) (n : Nat) (f : Int) (R : Nat → Bool) (found : Int) : Prop where
  rch : ∀ i, R i = true → i < n ∧ l i = d ∧ Rch m (mem l d n) f (i : Int)
  fst : ∀ i : Nat, f = (i : Int) → R i = true
  num : found = cnt R n
/-- within a pass, ahead of the pair i, k -/
structure CP (m : MapD) (l : Nat → Int) (d : Int) (n : Nat) (f : Int) (found0 : Int) (i k : Nat) (R : Nat → Bool) (found : Int) (again : Bool) : Prop extends CQ m l d n f R found where
  up : again = true → found0 < found
  eq : again = false → found = found0
  cl : again = false → ∀ i' k', i' < n → k' < n → (i' < i ∨ (i' = i ∧ k' < k)) → R i' = true → l k' = d → meet m (i' : Int) (k' : Int) = true → R k' = true
section
variable {m : MapD} {l : Nat → Int} {d : Int} {n : Nat} {f : Int} {found0 found : Int} {i k : Nat} {R : Nat → Bool} {again : Bool}
theorem CP.start (h : CQ m l d n f R found) : CP m l d n f found 0 0 R found false := ⟨h, (fun e => by cases e), (fun _ => rfl), (fun _ i' k' _ _ h => by omega)⟩
theorem CP.miss (h : CP m l d n f found0 i k R found again) (hm : ¬ (R i = true ∧ R k = false ∧ l k = d ∧ meet m (i : Int) (k : Int) = true)) : CP m l d n f found0 i (k + 1) R found again :=
  ⟨h.toCQ, h.up, h.eq, fun ha i' k' h1 h2 h3 hr hl hmm => by
    by_cases e : i' = i ∧ k' = k
    · obtain ⟨rfl, rfl⟩ := e
      cases hk : R k' with
      | true => rfl
      | false => exact absurd ⟨hr, hk, hl, hmm⟩ hm
    · exact h.cl ha i' k' h1 h2 (by omega) hr hl hmm⟩
theorem CP.hit (h : CP m l d n f found0 i k R found again) (hk : k < n) (h1 : R i = true) (h2 : R k = false) (h3 : l k = d) (h4 : meet m (i : Int) (k : Int) = true) : CP m l d n f found0 i (k + 1) (addR R k) (found + 1) true := by
  refine ⟨⟨fun j hj => ?_, fun j hj => ?_, ?_⟩, fun _ => ?_, (fun e => by cases e), (fun e => by cases e)⟩
  · unfold addR at hj
    by_cases e : j = k
    · subst e
      exact ⟨hk, h3, .step (h.rch i h1).2.2 (mem_iff.2 ⟨j, hk, h3, rfl⟩) h4⟩
    · rw [if_neg e] at hj
      exact h.rch j hj
  · unfold addR
    split
    · rfl
    · exact h.fst j hj
  · rw [cnt_add hk h2, h.num]
  · cases again with
    | true => have := h.up rfl; omega
    | false => have := h.eq rfl; omega
theorem CP.row (h : CP m l d n f found0 i n R found again) : CP m l d n f found0 (i + 1) 0 R found again :=
  ⟨h.toCQ, h.up, h.eq, fun ha i' k' h1 h2 h3 => h.cl ha i' k' h1 h2 (by omega)⟩
/-- what holds at the head of a pass, and behind the last one -/
structure CR (m : MapD) (l : Nat → Int) (d : Int) (n : Nat) (f : Int) (R : Nat → Bool) (found : Int) (again : Bool) : Prop extends CQ m l d n f R found where
  cl : again = false → ∀ i' k', i' < n → k' < n → R i' = true → l k' = d → meet m (i' : Int) (k' : Int) = true → R k' = true
theorem CP.done (h : CP m l d n f found0 n k R found again) : CR m l d n f R found again := ⟨h.toCQ, fun ha i' k' h1 h2 => h.cl ha i' k' h1 h2 (.inl h1)⟩
theorem CR.ends {t : List Int} (h : CR m l d n f R found false) (hm : mem l d n = f :: t) : (found == ((mem l d n).length : Int)) = conL m (mem l d n) := by
  rw [Bool.eq_iff_iff, beq_iff_eq, conL_iff, mem_cnt, h.num]
  have hle : ∀ i, i < n → one (R i) ≤ one (inD l d i) := fun i _ => by
    cases hR : R i
    · have := (one_b (inD l d i)).1; simpa [one] using this
    · have := (h.rch i hR).2.1
      simp [inD, this]
  constructor
  · intro e
    refine ⟨f, t, hm, fun y hy => ?_⟩
    obtain ⟨i, hi, hl, rfl⟩ := mem_iff.1 hy
    cases hR : R i with
    | true => exact (h.rch i hR).2.2
    | false =>
      exfalso
      have := sumN_lt (f := fun i => one (R i)) (g := fun i => one (inD l d i)) hi hle (by simp [hR, inD, hl, one])
      unfold cnt at e
      omega
  · rintro ⟨f', t', e, hall⟩
    rw [hm] at e
    cases e
    refine Int.le_antisymm (sumN_le hle) ?_
    refine sumN_le fun i hi => ?_
    by_cases hl : l i = d
    · have hr := hall (i : Int) (mem_iff.2 ⟨i, hi, hl, rfl⟩)
      have hR : ∃ j : Nat, (i : Int) = (j : Int) ∧ j < n ∧ R j = true := by
        have hfm : f ∈ mem l d n := by rw [hm]; simp
        obtain ⟨j0, hj0, _, ef⟩ := mem_iff.1 hfm
        refine rch_in (fun y => ∃ j : Nat, y = (j : Int) ∧ j < n ∧ R j = true) ⟨j0, ef, hj0, h.fst j0 ef⟩ ?_ hr
        rintro x y ⟨j, rfl, hj, hRj⟩ hy hmm
        obtain ⟨k, hk, hlk, rfl⟩ := mem_iff.1 hy
        exact ⟨k, rfl, hk, h.cl rfl j k hj hk hRj hlk hmm⟩
      obtain ⟨j, e1, _, hRj⟩ := hR
      have : j = i := by omega
      subst this
      rw [hRj]
      exact (one_b _).2
    · have : inD l d i = false := by simp [inD, hl]
      rw [this]
      have := (one_b (R i)).1
      simpa [one] using this
end
/-- the set with the first street of a district among the first k -/
def R0 (l : Nat → Int) (d : Int) (k : Nat) : Nat → Bool := fun i => (mem l d k).head? == some (i : Int)
theorem R0_zero (l : Nat → Int) (d : Int) : R0 l d 0 = fun _ => false := by
  funext i; simp [R0, mem]
theorem R0_skip {l : Nat → Int} {d : Int} {k : Nat} (h : l k ≠ d) : R0 l d (k + 1) = R0 l d k := by
  funext i; unfold R0; rw [mem_succ_out h]
theorem R0_first {l : Nat → Int} {d : Int} {k : Nat} (h : l k = d) (h0 : mem l d k = []) : R0 l d (k + 1) = addR (R0 l d k) k := by
  funext i
  unfold R0 addR
  rw [mem_succ_in h, h0]
  simp only [List.nil_append, List.head?_cons, List.head?_nil]
  by_cases e : i = k
  · subst e; simp
  · rw [if_neg e]
    have : ¬ (k : Int) = (i : Int) := by omega
    simp [this]
theorem R0_more {l : Nat → Int} {d : Int} {k : Nat} (h : l k = d) (h0 : mem l d k ≠ []) : R0 l d (k + 1) = R0 l d k := by
  funext i
  unfold R0
  rw [mem_succ_in h]
  cases hm : mem l d k with
  | nil => exact absurd hm h0
  | cons a t => rfl
theorem CQ.first {m : MapD} {l : Nat → Int} {d : Int} {n : Nat} {f : Int} {t : List Int} (hm : mem l d n = f :: t) : CQ m l d n f (R0 l d n) 1 := by
  have hf : ∃ j : Nat, j < n ∧ l j = d ∧ f = (j : Int) := mem_iff.1 (by rw [hm]; simp)
  obtain ⟨j, hj, hl, rfl⟩ := hf
  have hR : ∀ i, R0 l d n i = true ↔ i = j := fun i => by
    unfold R0
    rw [hm]
    simp only [List.head?_cons]
    constructor
    · intro h
      have : (j : Int) = (i : Int) := by simpa using h
      omega
    · rintro rfl; simp
  refine ⟨fun i hi => ?_, fun i hi => (hR i).2 (by omega), ?_⟩
  · obtain rfl := (hR i).1 hi
    exact ⟨hj, hl, .base⟩
  · unfold cnt
    rw [sumN_one (f := fun i => one (R0 l d n i)) hj fun i _ hne => by
      have : R0 l d n i = false := by
        rw [Bool.eq_false_iff]
        exact fun h => hne ((hR i).1 h)
      rw [this]; rfl]
    rw [(hR j).2 rfl]; rfl
/-- the search within a pass, where there may be no street at all -/
structure XP (m : MapD) (l : Nat → Int) (d : Int) (n : Nat) (found0 : Int) (i k : Nat) (R : Nat → Bool) (found : Int) (again : Bool) : Prop where
  nil : mem l d n = [] → R = (fun _ => false) ∧ found = 0 ∧ again = false ∧ found0 = 0
  con : ∀ f t, mem l d n = f :: t → CP m l d n f found0 i k R found again
structure XR (m : MapD) (l : Nat → Int) (d : Int) (n : Nat) (R : Nat → Bool) (found : Int) (again : Bool) : Prop where
  nil : mem l d n = [] → R = (fun _ => false) ∧ found = 0
  con : ∀ f t, mem l d n = f :: t → CR m l d n f R found again
section
variable {m : MapD} {l : Nat → Int} {d : Int} {n : Nat} {found0 found : Int} {i k : Nat} {R : Nat → Bool} {again : Bool}
theorem XR.first : XR m l d n (R0 l d n) (one (!(mem l d n).isEmpty)) true :=
  ⟨fun h => ⟨by funext i; simp [R0, h], by rw [h]; rfl⟩, fun f t h => ⟨by rw [h]; exact CQ.first h, (fun e => by cases e)⟩⟩
theorem XR.bound (h : XR m l d n R found again) : 0 ≤ found ∧ found ≤ n := by
  cases hm : mem l d n with
  | nil => have := (h.nil hm).2; omega
  | cons f t =>
    have := (h.con f t hm).num
    have := cnt_bounds R n
    omega
theorem XP.bound (h : XP m l d n found0 i k R found again) : 0 ≤ found ∧ found ≤ n := by
  cases hm : mem l d n with
  | nil => have := (h.nil hm).2.1; omega
  | cons f t =>
    have := (h.con f t hm).num
    have := cnt_bounds R n
    omega
theorem XP.up (h : XP m l d n found0 i k R found again) : again = true → found0 < found := fun ha => by
  cases hm : mem l d n with
  | nil => rw [(h.nil hm).2.2.1] at ha; cases ha
  | cons f t => exact (h.con f t hm).up ha
theorem XP.eq (h : XP m l d n found0 i k R found again) : again = false → found = found0 := fun ha => by
  cases hm : mem l d n with
  | nil => have := h.nil hm; omega
  | cons f t => exact (h.con f t hm).eq ha
theorem XP.start (h : XR m l d n R found again) : XP m l d n found 0 0 R found false := ⟨fun e => ⟨(h.nil e).1, (h.nil e).2, rfl, (h.nil e).2⟩, fun f t e => CP.start (h.con f t e).toCQ⟩
theorem XP.miss (h : XP m l d n found0 i k R found again) (hm : ¬ (R i = true ∧ R k = false ∧ l k = d ∧ meet m (i : Int) (k : Int) = true)) : XP m l d n found0 i (k + 1) R found again := ⟨h.nil, fun f t e => (h.con f t e).miss hm⟩
theorem XP.hit (h : XP m l d n found0 i k R found again) (hk : k < n) (h1 : R i = true) (h2 : R k = false) (h3 : l k = d) (h4 : meet m (i : Int) (k : Int) = true) : XP m l d n found0 i (k + 1) (addR R k) (found + 1) true :=
  ⟨(fun e => by rw [(h.nil e).1] at h1; cases h1), fun f t e => (h.con f t e).hit hk h1 h2 h3 h4⟩
theorem XP.row (h : XP m l d n found0 i n R found again) : XP m l d n found0 (i + 1) 0 R found again := ⟨h.nil, fun f t e => (h.con f t e).row⟩
theorem XP.done (h : XP m l d n found0 n k R found again) : XR m l d n R found again := ⟨fun e => ⟨(h.nil e).1, (h.nil e).2.1⟩, fun f t e => (h.con f t e).done⟩
theorem XR.ends (h : XR m l d n R found false) : (decide (0 < ((mem l d n).length : Int)) && (found == ((mem l d n).length : Int))) = conL m (mem l d n) := by
  cases hm : mem l d n with
  | nil => rfl
  | cons f t =>
    have := (h.con f t hm).ends hm
    rw [hm] at this
    rw [this]
    simp
end
end Go.Proofs.Ytoeabajigfdkaaa
/- The reference of layer 11: whether two streets meet, and whether a new district is connected. Conditions stand at each theorem. -/
namespace Go.Proofs.Ytoeabajigfdkaaa
open Go.RowKit Go.Shelf

def jm (j : Jn) (a b : Int) : Bool := (j.a == a && j.b == b) || (j.a == b && j.b == a)
theorem meet_no {m : MapD} {a b : Int} {k : Nat} {j : Jn} (h : m.js[k]? = some j) (h0 : (m.js.take k).any (fun j => jm j a b) = false) (hj : jm j a b = false) : (m.js.take (k + 1)).any (fun j => jm j a b) = false := by
  obtain ⟨hk, e⟩ := List.getElem?_eq_some_iff.1 h
  rw [List.take_succ_eq_append_getElem hk, List.any_append, h0, e]
  simp [hj]
theorem meet_yes {m : MapD} {a b : Int} {k : Nat} {j : Jn} (h : m.js[k]? = some j) (hj : jm j a b = true) : meet m a b = true := by
  unfold meet
  rw [List.any_eq_true]
  exact ⟨j, List.mem_of_getElem? h, hj⟩
set_option maxRecDepth 100000 in
set_option maxHeartbeats 2000000 in
theorem qmeets_any (m : MapD) (a b : Int) (A : Option Addr) (c : Nat) (A2 : Option Addr) (c2 : Nat) (A3 : Option Addr) (c3 : Nat) (w : World) (h : MIn m A c A2 c2 A3 c3 w) :
    Calls Try.prog 83 #[.agg #[.slice A m.old.length c, .int .i64 m.nw, .slice A2 m.ss.length c2, .slice A3 m.js.length c3], .int .i64 a, .int .i64 b] w fun e w' => e = .returned (.bool (meet m a b)) ∧ Below w.heap.size w w' := by
  have hm3 := h.m3
  have hl3 := h.l3
  unfold maxLen at hm3
  have hB := below_box (w := w) #[.slice A m.old.length c, .int .i64 m.nw, .slice A2 m.ss.length c2, .slice A3 m.js.length c3] 26
  have hT := Blk.new w 26 #[.slice A m.old.length c, .int .i64 m.nw, .slice A2 m.ss.length c2, .slice A3 m.js.length c3]
  have HT := hid hT
  have HA := hid h
  have HB0 := hid hB
  clear hB hT h
  go_enter Try.func83, Try.ntmps83
  go_wp2
  generalize hW1 : w.alloc (.cells #[.slice A m.old.length c, .int .i64 m.nw, .slice A2 m.ss.length c2, .slice A3 m.js.length c3] 26) = w1 at *
  clear hW1
  go_loopw [7] (fun i W => ∃ k : Nat, k ≤ m.js.length ∧ i = .int .i64 k ∧ (m.js.take k).any (fun j => jm j a b) = false ∧ Below w1.heap.size w1 W) (fun i _ => m.js.length - (intOf i).toNat)
  case atStart => exact ⟨0, Nat.zero_le _, rfl, rfl, Below.refl _ _⟩
  case round =>
    obtain ⟨k, hk, rfl, hno, hbr⟩ := hrel
    have hbt := HT.out.keep hbr
    obtain ⟨t0, t1, t2, t3⟩ := hbt.c4
    have htl := hbt.lt
    have HR := hid (And.intro hno hbr)
    clear hno hbr hbt
    by_cases hlt : k < m.js.length
    · have hkI : (k : Int) < (m.js.length : Int) := by omega
      obtain ⟨j, hj⟩ : ∃ j, m.js[k]? = some j := ⟨_, List.getElem?_eq_getElem hlt⟩
      obtain ⟨aa, eA, g1, f0, f1⟩ := (HA.out.at_ (HB0.out.trans (HR.out.2.mono HB0.out.size))).ij k j hj
      subst eA
      have HJ := hid hj
      have HX := hid (HR.out.2.trans ((below_box (w := wr) #[.int .i64 j.a, .int .i64 j.b] 63).mono HR.out.2.size))
      have HB := hid (HB0.out.trans (HX.out.mono HB0.out.size))
      clear hj g1
      cases c1 : (j.a == a) <;> cases c2' : (j.b == b) <;> cases c3' : (j.a == b) <;> cases c4 : (j.b == a)
      all_goals
        first
          | (have HE := hid (show meet m a b = true from meet_yes HJ.out (by unfold jm; rw [c1, c2', c3', c4]; rfl))
             go_wp2
             go_ret
             exact ⟨by rw [HE.out]; rfl, HB.out⟩)
          | (have HNX := hid (meet_no HJ.out HR.out.1 (a := a) (b := b) (by unfold jm; rw [c1, c2', c3', c4]; rfl))
             go_wp2
             go_roundw
             case rel => exact ⟨k + 1, by omega, by go_num, HNX.out, HX.out⟩
             case measure => first | (simp [intOf]; done) | (simp [intOf]; omega))
    · have hkI : decide ((k : Int) < (m.js.length : Int)) = false := by simp; omega
      obtain rfl : k = m.js.length := by omega
      have HE := hid (show meet m a b = false by have := HR.out.1; rw [List.take_length] at this; exact this)
      have HB := hid (HB0.out.trans (HR.out.2.mono HB0.out.size))
      go_wp2
      go_ret
      exact ⟨by rw [HE.out]; rfl, HB.out⟩

def boC (R : Nat → Bool) : Array Value := #[.bool (R 0), .bool (R 1), .bool (R 2), .bool (R 3), .bool (R 4), .bool (R 5), .bool (R 6), .bool (R 7)]
theorem boC_get (R : Nat → Bool) {i : Nat} (h : i < 8) : (boC R)[i]? = some (.bool (R i)) := by
  match i, h with
  | 0, _ => rfl
  | 1, _ => rfl
  | 2, _ => rfl
  | 3, _ => rfl
  | 4, _ => rfl
  | 5, _ => rfl
  | 6, _ => rfl
  | 7, _ => rfl
theorem boC_set (R : Nat → Bool) {k : Nat} (hk : k < 8) : (boC R).setIfInBounds k (.bool true) = boC (addR R k) := by
  apply Array.ext_getElem?
  intro i
  have hs : (boC R).size = 8 := rfl
  by_cases hi : i < 8
  · rw [boC_get _ hi]
    by_cases e : i = k
    · subst e
      rw [Array.getElem?_setIfInBounds_self_of_lt (by rw [hs]; exact hk)]
      simp [addR]
    · rw [Array.getElem?_setIfInBounds_ne (fun h => e h.symm), boC_get _ hi]
      simp [addR, e]
  · rw [Array.getElem?_eq_none (xs := boC (addR R k)) (by show 8 ≤ i; omega), Array.getElem?_eq_none (by simp [hs]; omega)]
def boolN : Value → Nat
  | .bool true => 1
  | _ => 0
/-- what of memory the search keeps -/
structure CnI (m : MapD) (A : Option Addr) (c : Nat) (A2 : Option Addr) (c2 : Nat) (A3 : Option Addr) (c3 : Nat) (B1 : Option Addr) (bs : List Int) (w : World) (R : Nat → Bool) (W : World) : Prop where
  bt : Blk W w.heap.size 26 #[.slice A m.old.length c, .int .i64 m.nw, .slice A2 m.ss.length c2, .slice A3 m.js.length c3]
  br : Blk W (w.heap.size + 1) 119 (boC R)
  bl : Below w.heap.size w W
section
variable {m : MapD} {A : Option Addr} {c : Nat} {A2 : Option Addr} {c2 : Nat} {A3 : Option Addr} {c3 : Nat} {B1 : Option Addr} {bs : List Int} {w W W' : World} {R : Nat → Bool}
theorem CnI.at_ (h : CnI m A c A2 c2 A3 c3 B1 bs w R W) (hb : Below W.heap.size W W') : CnI m A c A2 c2 A3 c3 B1 bs w R W' := ⟨h.bt.keep hb, h.br.keep hb, h.bl.trans (hb.mono h.bl.size)⟩
theorem CnI.add (h : CnI m A c A2 c2 A3 c3 B1 bs w R W) {k : Nat} (hk : k < 8) : CnI m A c A2 c2 A3 c3 B1 bs w (addR R k) (W.setCell ⟨w.heap.size + 1, k, none⟩ (.bool true)) := by
  refine ⟨h.bt.far (p := ⟨w.heap.size + 1, k, none⟩) (show w.heap.size ≠ w.heap.size + 1 by omega) _, ?_, h.bl.setCell (p := ⟨w.heap.size + 1, k, none⟩) (show w.heap.size ≤ w.heap.size + 1 by omega) _⟩
  have := h.br.set_ k (.bool true)
  rwa [boC_set R hk] at this
end
set_option maxRecDepth 100000 in
set_option maxHeartbeats 4000000 in
theorem qconn_any (m : MapD) (d : Int) (A : Option Addr) (c : Nat) (A2 : Option Addr) (c2 : Nat) (A3 : Option Addr) (c3 : Nat) (B1 : Option Addr) (d1 : Nat) (bs : List Int) (w : World) (h : MIn m A c A2 c2 A3 c3 w) (hbs : IsInts w w.heap.size B1 bs) (hl : bs.length = m.ss.length) (h8 : m.ss.length ≤ 8) :
    Calls Try.prog 33 #[.agg #[.slice A m.old.length c, .int .i64 m.nw, .slice A2 m.ss.length c2, .slice A3 m.js.length c3], .slice B1 bs.length d1, .int .i64 d] w fun e w' => e = .returned (.bool (conB m (fnO bs) d)) ∧ Below w.heap.size w w' := by
  have hb0 := (below_box (w := w) #[.slice A m.old.length c, .int .i64 m.nw, .slice A2 m.ss.length c2, .slice A3 m.js.length c3] 26).alloc (below_box (w := w) #[.slice A m.old.length c, .int .i64 m.nw, .slice A2 m.ss.length c2, .slice A3 m.js.length c3] 26).size (.cells (boC fun _ => false) 119)
  have hT := (Blk.new w 26 #[.slice A m.old.length c, .int .i64 m.nw, .slice A2 m.ss.length c2, .slice A3 m.js.length c3]).alloc (.cells (boC fun _ => false) 119)
  have hR := Blk.new (w.alloc (.cells #[.slice A m.old.length c, .int .i64 m.nw, .slice A2 m.ss.length c2, .slice A3 m.js.length c3] 26)) 119 (boC fun _ => false)
  rw [World.size_alloc] at hR
  obtain ⟨n, hn⟩ : ∃ n, m.ss.length = n := ⟨_, rfl⟩
  rw [hn] at hl h8
  have HN := hid hn
  have HCB := hid (show conB m (fnO bs) d = conL m (mem (fnO bs) d n) by unfold conB; rw [hn])
  rw [hl]
  have HS := hid (show CnI m A c A2 c2 A3 c3 B1 bs w (R0 (fnO bs) d 0) _ from ⟨hT, by rw [R0_zero]; exact hR, hb0⟩)
  have HA := hid (And.intro h hbs)
  have HL := hid hl
  clear h hbs hb0 hT hR hl hn
  go_enter Try.func33, Try.ntmps33
  go_wp2
  go_loopw [8, 9, 10] (fun v u i W => ∃ k : Nat, k ≤ n ∧ i = .int .i64 k ∧ v = .int .i64 ((mem (fnO bs) d k).length : Int) ∧ u = .int .i64 (one (!(mem (fnO bs) d k).isEmpty)) ∧ CnI m A c A2 c2 A3 c3 B1 bs w (R0 (fnO bs) d k) W) (fun _ _ i _ => n - (intOf i).toNat)
  case atStart => exact ⟨0, Nat.zero_le _, rfl, rfl, rfl, HS.out⟩
  case round =>
    clear HS
    obtain ⟨k, hk, rfl, rfl, rfl, hi⟩ := hrel
    have HI := hid hi
    have hmk := mem_len (l := fnO bs) (d := d) k
    have rl := hi.br.lt
    by_cases hlt : k < n
    · have hkI : (k : Int) < (n : Int) := by omega
      have hk8 : k < 8 := by omega
      have hk8I : (k : Int) < 8 := by omega
      obtain ⟨x, hx⟩ : ∃ x, bs[k]? = some x := ⟨_, List.getElem?_eq_getElem (by rw [HL.out]; exact hlt)⟩
      obtain ⟨ab, eb, g1, g2⟩ := (HA.out.2.at_ hi.bl) k x hx
      subst eb
      have hf : fnO bs k = x := fnO_get hx
      have yc := hi.br.cell k
      rw [boC_get _ hk8] at yc
      have yf := hi.br.frozen k
      by_cases he : x = d
      · have heB : (x == d) = true := by simp [he]
        by_cases h0 : mem (fnO bs) d k = []
        · have HNX := hid (show (mem (fnO bs) d (k + 1)).length = 1 ∧ one (!(mem (fnO bs) d (k + 1)).isEmpty) = 1 ∧ R0 (fnO bs) d (k + 1) = addR (R0 (fnO bs) d k) k from ⟨by rw [mem_succ_in (by rw [hf, he]), h0]; rfl, by rw [mem_succ_in (by rw [hf, he]), h0]; rfl, R0_first (by rw [hf, he]) h0⟩)
          have HAD := hid (HI.out.add hk8)
          rw [h0]
          have hz : ((0 : Nat) : Int) = 0 := rfl
          have hlz : (([] : List Int).length : Int) = 0 := rfl
          clear he hx hf h0 g1 hi hmk
          go_wp2
          go_roundw
          case rel => exact ⟨k + 1, by omega, by go_num, by rw [HNX.out.1]; rfl, by rw [HNX.out.2.1], by rw [HNX.out.2.2]; exact HAD.out⟩
          case measure => first | (simp [intOf]; done) | (simp [intOf]; omega)
        · have HNX := hid (show (mem (fnO bs) d (k + 1)).length = (mem (fnO bs) d k).length + 1 ∧ one (!(mem (fnO bs) d (k + 1)).isEmpty) = one (!(mem (fnO bs) d k).isEmpty) ∧ R0 (fnO bs) d (k + 1) = R0 (fnO bs) d k from ⟨by rw [mem_succ_in (by rw [hf, he])]; simp, by
            rw [mem_succ_in (by rw [hf, he])]
            cases hm : mem (fnO bs) d k with
            | nil => exact absurd hm h0
            | cons a t => rfl, R0_more (by rw [hf, he]) h0⟩)
          have hnz : (((mem (fnO bs) d k).length : Int) == 0) = false := by
            cases hm : mem (fnO bs) d k with
            | nil => exact absurd hm h0
            | cons a t => simp; omega
          obtain ⟨L, hL⟩ : ∃ L, (mem (fnO bs) d k).length = L := ⟨_, rfl⟩
          rw [hL] at HNX hnz hmk ⊢
          obtain ⟨T, hT⟩ : ∃ T, one (!(mem (fnO bs) d k).isEmpty) = T := ⟨_, rfl⟩
          rw [hT] at HNX ⊢
          clear he hx hf h0 g1 hi hL hT
          go_wp2
          go_roundw
          case rel => exact ⟨k + 1, by omega, by go_num, by rw [HNX.out.1]; go_num, by rw [HNX.out.2.1], by rw [HNX.out.2.2]; exact HI.out⟩
          case measure => first | (simp [intOf]; done) | (simp [intOf]; omega)
      · have heB : (x == d) = false := by simp [he]
        have HNX := hid (show mem (fnO bs) d (k + 1) = mem (fnO bs) d k ∧ R0 (fnO bs) d (k + 1) = R0 (fnO bs) d k from ⟨mem_succ_out (by rw [hf]; exact he), R0_skip (by rw [hf]; exact he)⟩)
        clear he hx hf g1 hi hmk
        go_wp2
        go_roundw
        case rel => exact ⟨k + 1, by omega, by go_num, by rw [HNX.out.1], by rw [HNX.out.1], by rw [HNX.out.2]; exact HI.out⟩
        case measure => first | (simp [intOf]; done) | (simp [intOf]; omega)
    · have hkI : decide ((k : Int) < (n : Int)) = false := by simp; omega
      obtain rfl : k = n := by omega
      have hmk2 := mem_len (l := fnO bs) (d := d) k
      have H5 := hid (show XR m (fnO bs) d k (R0 (fnO bs) d k) (one (!(mem (fnO bs) d k).isEmpty)) true ∧ CnI m A c A2 c2 A3 c3 B1 bs w (R0 (fnO bs) d k) wr from ⟨XR.first, hi⟩)
      clear hi HI rl hmk
      obtain ⟨L, hL⟩ : ∃ L, (mem (fnO bs) d k).length = L := ⟨_, rfl⟩
      rw [hL] at hmk2 ⊢
      have HLL := hid hL
      clear hL
      generalize one (!(mem (fnO bs) d k).isEmpty) = F0 at *
      generalize R0 (fnO bs) d k = R0' at *
      generalize wr = w5 at *
      go_wp2
      go_loopw [9, 11] (fun u a W => ∃ (R : Nat → Bool) (found : Int) (again : Bool), u = .int .i64 found ∧ a = .bool again ∧ XR m (fnO bs) d k R found again ∧ CnI m A c A2 c2 A3 c3 B1 bs w R W) (fun u a _ => 2 * (k - (intOf u).toNat) + boolN a)
      case atStart => exact ⟨_, _, _, rfl, rfl, H5.out⟩
      case round =>
        clear H5
        obtain ⟨R, found, again, rfl, rfl, hx, hi⟩ := hrel
        obtain ⟨fb1, fb2⟩ := hx.bound
        have HX := hid (And.intro hx hi)
        clear hx hi
        cases again
        · have hends := HX.out.1.ends
          rw [HLL.out] at hends
          have HE := hid (hends.trans HCB.out.symm)
          have HB := hid HX.out.2.bl
          clear hends
          by_cases hp : 0 < L
          · have hpB : decide ((0 : Int) < (L : Int)) = true := by simp; omega
            cases hq : (found == (L : Int))
            all_goals
              rw [hpB, hq] at HE
              go_wp2
              go_ret
              exact ⟨by rw [← HE.out]; rfl, HB.out⟩
          · have hpB : decide ((0 : Int) < (L : Int)) = false := by simp; omega
            rw [hpB] at HE
            have hpN : decide (0 < L) = false := by simp; omega
            clear hp
            go_wp2
            go_ret
            exact ⟨by rw [← HE.out]; rfl, HB.out⟩
        · generalize wr = w6 at *
          have H6 := hid (And.intro (XP.start HX.out.1) HX.out.2)
          clear HX
          go_wp2
          go_loopw [9, 11, 12] (fun u a i W => ∃ (i' : Nat) (R : Nat → Bool) (fo : Int) (again : Bool), i = .int .i64 (i' : Int) ∧ i' ≤ k ∧ u = .int .i64 fo ∧ a = .bool again ∧ XP m (fnO bs) d k found i' 0 R fo again ∧ CnI m A c A2 c2 A3 c3 B1 bs w R W) (fun _ _ i _ => k - (intOf i).toNat)
          case atStart => exact ⟨0, _, _, _, rfl, Nat.zero_le _, rfl, rfl, H6.out⟩
          case round =>
            clear H6
            obtain ⟨i, R, fo, again, rfl, hik, rfl, rfl, hx, hi⟩ := hrel
            have HX := hid (And.intro hx hi)
            have hbd := hx.bound
            clear hx hi
            by_cases hlt : i < k
            · have hiI : (i : Int) < (k : Int) := by omega
              have hi8 : i < 8 := by omega
              have hi8I : (i : Int) < 8 := by omega
              generalize wr = w7 at *
              go_wp2
              go_loopw [9, 11, 13] (fun u a j W => ∃ (k' : Nat) (R : Nat → Bool) (fo : Int) (again : Bool), j = .int .i64 (k' : Int) ∧ k' ≤ k ∧ u = .int .i64 fo ∧ a = .bool again ∧ XP m (fnO bs) d k found i k' R fo again ∧ CnI m A c A2 c2 A3 c3 B1 bs w R W) (fun _ _ j _ => k - (intOf j).toNat)
              case atStart => exact ⟨0, _, _, _, rfl, Nat.zero_le _, rfl, rfl, HX.out⟩
              case round =>
                clear HX hbd
                obtain ⟨j, R, fo, again, rfl, hjk, rfl, rfl, hx, hi⟩ := hrel
                have HX := hid (And.intro hx hi)
                obtain ⟨fb3, fb4⟩ := hx.bound
                have rl := hi.br.lt
                by_cases hlj : j < k
                · have hjI : (j : Int) < (k : Int) := by omega
                  have hj8 : j < 8 := by omega
                  have hj8I : (j : Int) < 8 := by omega
                  obtain ⟨x, hxx⟩ : ∃ x, bs[j]? = some x := ⟨_, List.getElem?_eq_getElem (by rw [HL.out]; exact hlj)⟩
                  obtain ⟨ab, eb, g1, g2⟩ := (HA.out.2.at_ hi.bl) j x hxx
                  subst eb
                  have hf : fnO bs j = x := fnO_get hxx
                  have yi := hi.br.cell i
                  rw [boC_get _ hi8] at yi
                  have yj := hi.br.cell j
                  rw [boC_get _ hj8] at yj
                  have yf := hi.br.frozen j
                  obtain ⟨t0, t1, t2, t3⟩ := hi.bt.c4
                  clear hx hi hxx g1
                  cases hRi : R i
                  · have HNX := hid (HX.out.1.miss (by rw [hRi]; simp))
                    rw [hRi] at yi
                    clear hRi hf yj
                    go_wp2
                    go_roundw
                    case rel => exact ⟨j + 1, _, _, _, by go_num, by omega, rfl, rfl, HNX.out, HX.out.2⟩
                    case measure => first | (simp [intOf]; done) | (simp [intOf]; omega)
                  · rw [hRi] at yi
                    cases hRj : R j
                    · rw [hRj] at yj
                      by_cases he : x = d
                      · have heB : (x == d) = true := by simp [he]
                        have KM := qmeets_any m (i : Int) (j : Int) A c A2 c2 A3 c3 wr (HA.out.1.at_ HX.out.2.bl)
                        cases hmt : meet m (i : Int) (j : Int)
                        · rw [hmt] at KM
                          have KM := hid KM
                          have HNX := hid (HX.out.1.miss (by rw [hmt]; simp))
                          clear hmt he hf hRi hRj
                          go_wp2_with fail
                          refine KM.out.mono ?_
                          rintro e w9 ⟨rfl, hb⟩
                          have H9 := hid (HX.out.2.at_ hb)
                          clear hb KM t0 t1 t2 t3 yi yj yf g2
                          go_wp2
                          go_roundw
                          case rel => exact ⟨j + 1, _, _, _, by go_num, by omega, rfl, rfl, HNX.out, H9.out⟩
                          case measure => first | (simp [intOf]; done) | (simp [intOf]; omega)
                        · rw [hmt] at KM
                          have KM := hid KM
                          have HNX := hid (HX.out.1.hit hlj hRi hRj (by rw [hf, he]) hmt)
                          clear hmt he hf hRi hRj
                          go_wp2_with fail
                          refine KM.out.mono ?_
                          rintro e w9 ⟨rfl, hb⟩
                          have h9 := HX.out.2.at_ hb
                          have H9 := hid (h9.add hj8)
                          have zc := h9.br.cell j
                          rw [boC_get _ hj8] at zc
                          have zf := h9.br.frozen j
                          have zl := h9.br.lt
                          clear hb KM t0 t1 t2 t3 yi yj yf g2 h9
                          go_wp2
                          go_roundw
                          case rel => exact ⟨j + 1, _, _, _, by go_num, by omega, rfl, rfl, HNX.out, H9.out⟩
                          case measure => first | (simp [intOf]; done) | (simp [intOf]; omega)
                      · have heB : (x == d) = false := by simp [he]
                        have HNX := hid (HX.out.1.miss (by rw [hf]; simp [he]))
                        clear hRi hRj he hf
                        go_wp2
                        go_roundw
                        case rel => exact ⟨j + 1, _, _, _, by go_num, by omega, rfl, rfl, HNX.out, HX.out.2⟩
                        case measure => first | (simp [intOf]; done) | (simp [intOf]; omega)
                    · have HNX := hid (HX.out.1.miss (by rw [hRj]; simp))
                      rw [hRj] at yj
                      clear hRi hRj hf
                      go_wp2
                      go_roundw
                      case rel => exact ⟨j + 1, _, _, _, by go_num, by omega, rfl, rfl, HNX.out, HX.out.2⟩
                      case measure => first | (simp [intOf]; done) | (simp [intOf]; omega)
                · have hjI : decide ((j : Int) < (k : Int)) = false := by simp; omega
                  obtain rfl : j = k := by omega
                  have HNX := hid HX.out.1.row
                  clear hx hi
                  go_wp2
                  go_roundw
                  case rel => exact ⟨i + 1, _, _, _, by go_num, by omega, rfl, rfl, HNX.out, HX.out.2⟩
                  case measure => first | (simp [intOf]; done) | (simp [intOf]; omega)
            · have hiI : decide ((i : Int) < (k : Int)) = false := by simp; omega
              obtain rfl : i = k := by omega
              have HNX := hid (And.intro HX.out.1.done (And.intro HX.out.1.up HX.out.1.eq))
              go_wp2
              go_roundw
              case rel => exact ⟨_, _, _, rfl, rfl, HNX.out.1, HX.out.2⟩
              case measure =>
                cases again
                · have := HNX.out.2.2 rfl
                  simp [intOf, boolN]; omega
                · have := HNX.out.2.1 rfl
                  simp [intOf, boolN]; omega
end Go.Proofs.Ytoeabajigfdkaaa
/- The reference of layer 11: the bounds of a part. Conditions stand at the theorem. -/
namespace Go.Proofs.Ytoeabajigfdkaaa
open Go.RowKit Go.Shelf

/-- the streets that lists of borders put into a district -/
def atB (bs : List Int) (nw : Int) : Nat → Bool := fun i => bs.getD i 0 == nw
theorem sumO_other {m : MapD} {d : Nat} {p : Nat → Bool} {g : Stt → Int} {k : Nat} (hp : p k = true) : sumO m d (nt p) g (k + 1) = sumO m d (nt p) g k := sumO_drop (by simp [nt, hp])

set_option maxRecDepth 100000 in
set_option maxHeartbeats 4000000 in
theorem qpart_any (m : MapD) (d : Nat) (nw : Int) (bs : List Int) (A4 : Option Addr) (c4 : Nat) (A : Option Addr) (c : Nat) (A2 : Option Addr) (c2 : Nat) (A3 : Option Addr) (c3 : Nat) (w : World) (h : MIn m A c A2 c2 A3 c3 w) (ok : OkM m) (hd : d < m.old.length) (hbs : IsInts w w.heap.size A4 bs) (hbl : bs.length = m.ss.length) (hb4 : bs.length ≤ c4) (hb5 : c4 ≤ maxLen) :
    Calls Try.prog 48 #[.agg #[.slice A m.old.length c, .int .i64 m.nw, .slice A2 m.ss.length c2, .slice A3 m.js.length c3], .slice A4 bs.length c4, .int .i64 (d : Int), .int .i64 nw] w fun e w' => e = .returned (.agg #[.int .i64 (partLo m (atB bs nw) d), .int .i64 (partHi m (atB bs nw) d)]) ∧ Below w.heap.size w w' := by
  have hm1 := h.m2
  have hl1 := h.l2
  have hm0 := h.m1
  have hl0 := h.l1
  unfold maxLen at hm1 hb5 hm0
  have hb : Below w.heap.size w ((((w.alloc (.cells #[.slice A m.old.length c, .int .i64 m.nw, .slice A2 m.ss.length c2, .slice A3 m.js.length c3] 26)).alloc (.cells #[.int .i64 0, .int .i64 0] 43)).alloc (.cells #[.int .i64 0, .int .i64 0] 43)).alloc (.cells #[.int .i64 0, .int .i64 0] 43)) := (((((Below.refl w.heap.size w).alloc (Nat.le_refl _) (.cells #[.slice A m.old.length c, .int .i64 m.nw, .slice A2 m.ss.length c2, .slice A3 m.js.length c3] 26)).alloc (by simp) (.cells #[.int .i64 0, .int .i64 0] 43)).alloc (by simp; omega) (.cells #[.int .i64 0, .int .i64 0] 43)).alloc (by simp; omega) (.cells #[.int .i64 0, .int .i64 0] 43))
  have k1 := ((((Blk.new w 26 #[.slice A m.old.length c, .int .i64 m.nw, .slice A2 m.ss.length c2, .slice A3 m.js.length c3]).alloc (.cells #[.int .i64 0, .int .i64 0] 43)).alloc (.cells #[.int .i64 0, .int .i64 0] 43)).alloc (.cells #[.int .i64 0, .int .i64 0] 43))
  have k2 := (((Blk.new (w.alloc (.cells #[.slice A m.old.length c, .int .i64 m.nw, .slice A2 m.ss.length c2, .slice A3 m.js.length c3] 26)) 43 #[.int .i64 0, .int .i64 0]).alloc (.cells #[.int .i64 0, .int .i64 0] 43)).alloc (.cells #[.int .i64 0, .int .i64 0] 43))
  have k3 := ((Blk.new ((w.alloc (.cells #[.slice A m.old.length c, .int .i64 m.nw, .slice A2 m.ss.length c2, .slice A3 m.js.length c3] 26)).alloc (.cells #[.int .i64 0, .int .i64 0] 43)) 43 #[.int .i64 0, .int .i64 0]).alloc (.cells #[.int .i64 0, .int .i64 0] 43))
  have k4 := (Blk.new (((w.alloc (.cells #[.slice A m.old.length c, .int .i64 m.nw, .slice A2 m.ss.length c2, .slice A3 m.js.length c3] 26)).alloc (.cells #[.int .i64 0, .int .i64 0] 43)).alloc (.cells #[.int .i64 0, .int .i64 0] 43)) 43 #[.int .i64 0, .int .i64 0])
  simp only [World.size_alloc] at k2 k3 k4
  have HS := hid (show Below w.heap.size w ((((w.alloc (.cells #[.slice A m.old.length c, .int .i64 m.nw, .slice A2 m.ss.length c2, .slice A3 m.js.length c3] 26)).alloc (.cells #[.int .i64 0, .int .i64 0] 43)).alloc (.cells #[.int .i64 0, .int .i64 0] 43)).alloc (.cells #[.int .i64 0, .int .i64 0] 43)) ∧ Blk ((((w.alloc (.cells #[.slice A m.old.length c, .int .i64 m.nw, .slice A2 m.ss.length c2, .slice A3 m.js.length c3] 26)).alloc (.cells #[.int .i64 0, .int .i64 0] 43)).alloc (.cells #[.int .i64 0, .int .i64 0] 43)).alloc (.cells #[.int .i64 0, .int .i64 0] 43)) w.heap.size 26 #[.slice A m.old.length c, .int .i64 m.nw, .slice A2 m.ss.length c2, .slice A3 m.js.length c3] ∧ Blk ((((w.alloc (.cells #[.slice A m.old.length c, .int .i64 m.nw, .slice A2 m.ss.length c2, .slice A3 m.js.length c3] 26)).alloc (.cells #[.int .i64 0, .int .i64 0] 43)).alloc (.cells #[.int .i64 0, .int .i64 0] 43)).alloc (.cells #[.int .i64 0, .int .i64 0] 43)) (w.heap.size + 1) 43 #[.int .i64 0, .int .i64 0] ∧ Blk ((((w.alloc (.cells #[.slice A m.old.length c, .int .i64 m.nw, .slice A2 m.ss.length c2, .slice A3 m.js.length c3] 26)).alloc (.cells #[.int .i64 0, .int .i64 0] 43)).alloc (.cells #[.int .i64 0, .int .i64 0] 43)).alloc (.cells #[.int .i64 0, .int .i64 0] 43)) (w.heap.size + 1 + 1) 43 #[.int .i64 (sumO m d (atB bs nw) Stt.lo 0), .int .i64 (sumO m d (atB bs nw) Stt.hi 0)] ∧ Blk ((((w.alloc (.cells #[.slice A m.old.length c, .int .i64 m.nw, .slice A2 m.ss.length c2, .slice A3 m.js.length c3] 26)).alloc (.cells #[.int .i64 0, .int .i64 0] 43)).alloc (.cells #[.int .i64 0, .int .i64 0] 43)).alloc (.cells #[.int .i64 0, .int .i64 0] 43)) (w.heap.size + 1 + 1 + 1) 43 #[.int .i64 (sumO m d (nt (atB bs nw)) Stt.lo 0), .int .i64 (sumO m d (nt (atB bs nw)) Stt.hi 0)] from ⟨hb, k1, k2, k3, k4⟩)
  obtain ⟨t0, t1, t2, t3⟩ := k1.c4
  have HH := hid h
  have OK := hid ok
  have HX := hid hbs
  have hs8 := ok.s8
  clear h ok hb k1 k2 k3 k4 hbs
  go_enter Try.func48, Try.ntmps48
  go_wp2
  go_loopw [11] (fun i W => ∃ k : Nat, k ≤ m.ss.length ∧ i = .int .i64 k ∧ Below w.heap.size w W ∧ Blk W w.heap.size 26 #[.slice A m.old.length c, .int .i64 m.nw, .slice A2 m.ss.length c2, .slice A3 m.js.length c3] ∧ Blk W (w.heap.size + 1) 43 #[.int .i64 0, .int .i64 0] ∧ Blk W (w.heap.size + 1 + 1) 43 #[.int .i64 (sumO m d (atB bs nw) Stt.lo k), .int .i64 (sumO m d (atB bs nw) Stt.hi k)] ∧ Blk W (w.heap.size + 1 + 1 + 1) 43 #[.int .i64 (sumO m d (nt (atB bs nw)) Stt.lo k), .int .i64 (sumO m d (nt (atB bs nw)) Stt.hi k)]) (fun i _ => m.ss.length - (intOf i).toNat)
  case atStart => exact ⟨0, Nat.zero_le _, rfl, HS.out⟩
  case round =>
    obtain ⟨k, hk, rfl, hb, k1, k2, k3, k4⟩ := hrel
    clear HS t0 t1 t2 t3
    obtain ⟨t0, t1, t2, t3⟩ := k1.c4
    obtain ⟨r0, r1⟩ := k3.c2
    obtain ⟨u0, u1⟩ := k4.c2
    have HK := hid (And.intro hb (And.intro k1 (And.intro k2 (And.intro k3 k4))))
    have sb : ∀ (g : Stt → Int) (r : Nat → Bool) (j : Nat), j ≤ m.ss.length → (g = Stt.lo ∨ g = Stt.hi) → 0 ≤ sumO m d r g j ∧ sumO m d r g j ≤ 80000 := fun g r j hj hg => by
      obtain ⟨b1, b2⟩ := sumO_bounds (m := m) (g := g) (M := 10000) (by omega) d r j (fun i hi => by have := OK.out.sAt (i := i) (by omega); rcases hg with rfl | rfl <;> omega)
      omega
    have a1 := sb Stt.lo (atB bs nw) k hk (.inl rfl)
    have a2 := sb Stt.hi (atB bs nw) k hk (.inr rfl)
    have a3 := sb Stt.lo (nt (atB bs nw)) k hk (.inl rfl)
    have a4 := sb Stt.hi (nt (atB bs nw)) k hk (.inr rfl)
    clear sb
    by_cases hlt : k < m.ss.length
    · have hkI : (k : Int) < (m.ss.length : Int) := by omega
      obtain ⟨s, hs⟩ : ∃ s, m.ss[k]? = some s := ⟨_, List.getElem?_eq_getElem hlt⟩
      obtain ⟨x, hx⟩ : ∃ x, bs[k]? = some x := ⟨_, List.getElem?_eq_getElem (by omega)⟩
      obtain ⟨a, rfl, hab, f0, f1, f2, f3, f4⟩ := (HH.out.at_ hb).is k s hs
      obtain ⟨b, rfl, hbb, g0⟩ := (HX.out.at_ hb) k x hx
      have hbc := World.block_lt_of_cell? _ _ g0
      have g0' : ∀ o, (wr.alloc o).cell? (b.add k) = some (.int .i64 x) := fun o => ((Below.refl wr.heap.size wr).alloc (Nat.le_refl _) o |>.cell hbc).trans g0
      have hsB := OK.out.sAt (i := k) hlt
      rw [MapD.S_eq hs] at hsB
      have yl := k3.lt
      have yf := k3.frozen 0
      have yf1 := k3.frozen 1
      have zl := k4.lt
      have zf := k4.frozen 0
      have zf1 := k4.frozen 1
      clear hb k1 k2 k3 k4
      by_cases hod : s.o = (d : Int)
      · have hoB : (s.o != (d : Int)) = false := by simp [hod]
        have hAT : (atB bs nw) k = (x == nw) := by unfold atB; rw [List.getD_eq_getElem?_getD, hx]; rfl
        cases hxn : (x == nw)
        · have hp : (atB bs nw) k = false := hAT.trans hxn
          have HSUM := hid (And.intro (sumO_take (m := m) (d := d) (p := nt (atB bs nw)) (g := Stt.lo) hs hod (by simp [nt, hp])) (And.intro (sumO_take (m := m) (d := d) (p := nt (atB bs nw)) (g := Stt.hi) hs hod (by simp [nt, hp])) (And.intro (sumO_drop (m := m) (d := d) (g := Stt.lo) hp) (sumO_drop (m := m) (d := d) (g := Stt.hi) hp))))
          clear hAT hp hs hx
          go_wp2
          go_roundw
          case rel =>
            obtain ⟨hb, k1, k2, k3, k4⟩ := HK.out
            have n_k1 : w.heap.size ≠ w.heap.size + 1 + 1 + 1 := by omega
            have n_k2 : w.heap.size + 1 ≠ w.heap.size + 1 + 1 + 1 := by omega
            have n_k3 : w.heap.size + 1 + 1 ≠ w.heap.size + 1 + 1 + 1 := by omega
            refine ⟨k + 1, by omega, by go_num, ?_, ?_, ?_, ?_, ?_⟩
            · have qb := fun x y => (hb.setCell (p := ⟨w.heap.size + 1 + 1 + 1, 0, none⟩) (by show w.heap.size ≤ w.heap.size + 1 + 1 + 1; omega) x).setCell (p := ⟨w.heap.size + 1 + 1 + 1, 1, none⟩) (by show w.heap.size ≤ w.heap.size + 1 + 1 + 1; omega) y
              exact (qb _ _).alloc (qb _ _).size _
            · exact ((k1.far (p := ⟨w.heap.size + 1 + 1 + 1, 0, none⟩) n_k1 _).far (p := ⟨w.heap.size + 1 + 1 + 1, 1, none⟩) n_k1 _).alloc _
            · exact ((k2.far (p := ⟨w.heap.size + 1 + 1 + 1, 0, none⟩) n_k2 _).far (p := ⟨w.heap.size + 1 + 1 + 1, 1, none⟩) n_k2 _).alloc _
            · rw [HSUM.out.2.2.1, HSUM.out.2.2.2]
              exact ((k3.far (p := ⟨w.heap.size + 1 + 1 + 1, 0, none⟩) n_k3 _).far (p := ⟨w.heap.size + 1 + 1 + 1, 1, none⟩) n_k3 _).alloc _
            · rw [HSUM.out.1, HSUM.out.2.1]
              exact ((k4.set_ 0 _).set_ 1 _).alloc _
          case measure => first | (simp [intOf]; done) | (simp [intOf]; omega)
        · have hp : (atB bs nw) k = true := hAT.trans hxn
          have HSUM := hid (And.intro (sumO_take (m := m) (d := d) (p := (atB bs nw)) (g := Stt.lo) hs hod hp) (And.intro (sumO_take (m := m) (d := d) (p := (atB bs nw)) (g := Stt.hi) hs hod hp) (And.intro (sumO_other (m := m) (d := d) (g := Stt.lo) hp) (sumO_other (m := m) (d := d) (g := Stt.hi) hp))))
          clear hAT hp hs hx
          go_wp2
          go_roundw
          case rel =>
            obtain ⟨hb, k1, k2, k3, k4⟩ := HK.out
            have n_k1 : w.heap.size ≠ w.heap.size + 1 + 1 := by omega
            have n_k2 : w.heap.size + 1 ≠ w.heap.size + 1 + 1 := by omega
            have n_k4 : w.heap.size + 1 + 1 + 1 ≠ w.heap.size + 1 + 1 := by omega
            refine ⟨k + 1, by omega, by go_num, ?_, ?_, ?_, ?_, ?_⟩
            · have qb := fun x y => (hb.setCell (p := ⟨w.heap.size + 1 + 1, 0, none⟩) (by show w.heap.size ≤ w.heap.size + 1 + 1; omega) x).setCell (p := ⟨w.heap.size + 1 + 1, 1, none⟩) (by show w.heap.size ≤ w.heap.size + 1 + 1; omega) y
              exact (qb _ _).alloc (qb _ _).size _
            · exact ((k1.far (p := ⟨w.heap.size + 1 + 1, 0, none⟩) n_k1 _).far (p := ⟨w.heap.size + 1 + 1, 1, none⟩) n_k1 _).alloc _
            · exact ((k2.far (p := ⟨w.heap.size + 1 + 1, 0, none⟩) n_k2 _).far (p := ⟨w.heap.size + 1 + 1, 1, none⟩) n_k2 _).alloc _
            · rw [HSUM.out.1, HSUM.out.2.1]
              exact ((k3.set_ 0 _).set_ 1 _).alloc _
            · rw [HSUM.out.2.2.1, HSUM.out.2.2.2]
              exact ((k4.far (p := ⟨w.heap.size + 1 + 1, 0, none⟩) n_k4 _).far (p := ⟨w.heap.size + 1 + 1, 1, none⟩) n_k4 _).alloc _
          case measure => first | (simp [intOf]; done) | (simp [intOf]; omega)
      · have hoB : (s.o != (d : Int)) = true := by simp [hod]
        have HSK := hid (fun (p : Nat → Bool) (g : Stt → Int) => sumO_skip (p := p) (g := g) hs hod)
        clear hs hx hod
        go_wp2
        go_roundw
        case rel =>
          obtain ⟨hb, k1, k2, k3, k4⟩ := HK.out
          refine ⟨k + 1, by omega, by go_num, hb.alloc hb.size _, k1.alloc _, k2.alloc _, ?_, ?_⟩
          · rw [HSK.out, HSK.out]; exact k3.alloc _
          · rw [HSK.out, HSK.out]; exact k4.alloc _
        case measure => first | (simp [intOf]; done) | (simp [intOf]; omega)
    · have hkI : decide ((k : Int) < (m.ss.length : Int)) = false := by simp; omega
      obtain rfl : k = m.ss.length := by omega
      obtain ⟨x, hx⟩ : ∃ x, m.old[d]? = some x := ⟨_, List.getElem?_eq_getElem hd⟩
      obtain ⟨aa, rfl, g1, g2⟩ := (HH.out.at_ hb).io d x hx
      have hxb := OK.out.cnt x (List.mem_of_getElem? hx)
      have hdI : (d : Int) < (m.old.length : Int) := by omega
      have HKM := hid k1
      have HKR := hid k2
      have J9 := hid k3
      have J10 := hid k4
      have HBW := hid hb
      have HXA := hid g2
      have HRES := hid (show partLo m (atB bs nw) d = max (sumO m d (atB bs nw) Stt.lo m.ss.length) (x - sumO m d (nt (atB bs nw)) Stt.hi m.ss.length) ∧ partHi m (atB bs nw) d = min (sumO m d (atB bs nw) Stt.hi m.ss.length) (x - sumO m d (nt (atB bs nw)) Stt.lo m.ss.length) by
        unfold partLo partHi
        rw [MapD.at_eq hx]
        exact ⟨rfl, rfl⟩)
      generalize sumO m d (atB bs nw) Stt.lo m.ss.length = S at *
      generalize sumO m d (atB bs nw) Stt.hi m.ss.length = S2 at *
      generalize sumO m d (nt (atB bs nw)) Stt.lo m.ss.length = T at *
      generalize sumO m d (nt (atB bs nw)) Stt.hi m.ss.length = T2 at *
      have hw2 : IntKind.i64.wrap (x - T2) = x - T2 := IntWalk.i64_in _ (by omega)
      have hw3 : IntKind.i64.wrap (x - T) = x - T := IntWalk.i64_in _ (by omega)
      clear hb k1 k2 k3 k4 hx g1 g2 HK
      go_wp2
      refine (wpIn_wide (n := 0)).1 ?_
      refine wpIn_region_each 23 (fun i v W' => match i with | 0 => v = .pointer (some ⟨w.heap.size + 1 + 1, 0, none⟩) | 1 => v = .int .i64 S | 2 => v = .pointer (some ⟨w.heap.size, 0, none⟩) | 3 => v = .slice (some aa) m.old.length c | 4 => v = .int .i64 (d : Int) | 5 => v = .pointer (some (aa.add d)) | 6 => v = .int .i64 x | 7 => v = .pointer (some ⟨w.heap.size + 1 + 1 + 1, 1, none⟩) | 8 => v = .int .i64 T2 | 9 => v = .int .i64 (x - T2) | 10 => v = .int .i64 (max S (x - T2)) | 11 => v = .pointer (some ⟨w.heap.size + 1 + 1, 1, none⟩) | 12 => v = .int .i64 S2 | 13 => v = .pointer (some ⟨w.heap.size, 0, none⟩) | 14 => v = .slice (some aa) m.old.length c | 15 => v = .int .i64 (d : Int) | 16 => v = .pointer (some (aa.add d)) | 17 => v = .int .i64 x | 18 => v = .pointer (some ⟨w.heap.size + 1 + 1 + 1, 0, none⟩) | 19 => v = .int .i64 T | 20 => v = .int .i64 (x - T) | 21 => v = .int .i64 (min S2 (x - T)) | 22 => v = .agg #[.int .i64 (max S (x - T2)), .int .i64 (min S2 (x - T))] | _ => True) (fun A B => Below A.heap.size A B) (fun _ _ => True) (by kernel_rfl) (by kernel_rfl) ?_ (fun h k => h.trans (k.mono h.size)) ⟨rfl, rfl, rfl, Nat.le_refl _, fun _ _ => rfl⟩ trivial (by kernel_rfl) ?_ ?_
      · intro i v W1 W2 hb h
        match i, h with
        | 0, h => exact h
        | 1, h => exact h
        | 2, h => exact h
        | 3, h => exact h
        | 4, h => exact h
        | 5, h => exact h
        | 6, h => exact h
        | 7, h => exact h
        | 8, h => exact h
        | 9, h => exact h
        | 10, h => exact h
        | 11, h => exact h
        | 12, h => exact h
        | 13, h => exact h
        | 14, h => exact h
        | 15, h => exact h
        | 16, h => exact h
        | 17, h => exact h
        | 18, h => exact h
        | 19, h => exact h
        | 20, h => exact h
        | 21, h => exact h
        | 22, h => exact h
        | i + 23, h => trivial
      · refine ⟨?_, ?_, ?_, ?_, ?_, ?_, ?_, ?_, ?_, ?_, ?_, ?_, ?_, ?_, ?_, ?_, ?_, ?_, ?_, ?_, ?_, ?_, ?_, trivial⟩
        · -- 0
          intro li a1 W2 hA K hK
          have e9 := hA.par 9 (by kernel_rfl)
          refine opStep none 0 rfl rfl (fun c hc => by cases hc) ?_
          go_simp
          exact hK _ _ rfl (Below.refl _ _) trivial
        · -- 1
          intro li a1 W2 hA K hK
          have e61 : a1.tmps.getD 61 undef = .pointer (some ⟨w.heap.size + 1 + 1, 0, none⟩) := hA.val 0 61 (by kernel_rfl) (by kernel_rfl)
          obtain ⟨q1, q2⟩ := (J9.out.keep hA.st).c2
          refine opStep none 0 rfl rfl (fun c hc => by cases hc) ?_
          go_simp
          exact hK _ _ rfl (Below.refl _ _) trivial
        · -- 2
          intro li a1 W2 hA K hK
          have e4 := hA.par 4 (by kernel_rfl)
          refine opStep none 0 rfl rfl (fun c hc => by cases hc) ?_
          go_simp
          exact hK _ _ rfl (Below.refl _ _) trivial
        · -- 3
          intro li a1 W2 hA K hK
          have e63 : a1.tmps.getD 63 undef = .pointer (some ⟨w.heap.size, 0, none⟩) := hA.val 2 63 (by kernel_rfl) (by kernel_rfl)
          obtain ⟨q1, _⟩ := (HKM.out.keep hA.st).c4
          refine opStep none 0 rfl rfl (fun c hc => by cases hc) ?_
          go_simp
          exact hK _ _ rfl (Below.refl _ _) trivial
        · -- 4
          intro li a1 W2 hA K hK
          have e2 := hA.par 2 (by kernel_rfl)
          refine opStep none 0 rfl rfl (fun c hc => by cases hc) ?_
          go_simp
          exact hK _ _ rfl (Below.refl _ _) trivial
        · -- 5
          intro li a1 W2 hA K hK
          have e64 : a1.tmps.getD 64 undef = .slice (some aa) m.old.length c := hA.val 3 64 (by kernel_rfl) (by kernel_rfl)
          have e65 : a1.tmps.getD 65 undef = .int .i64 (d : Int) := hA.val 4 65 (by kernel_rfl) (by kernel_rfl)
          refine opStep none 0 rfl rfl (fun c hc => by cases hc) ?_
          go_simp
          exact hK _ _ (by first | rfl | exact congrArg (fun q => Value.pointer (some q)) (add_blk _ _)) (Below.refl _ _) trivial
        · -- 6
          intro li a1 W2 hA K hK
          have e66 : a1.tmps.getD 66 undef = .pointer (some (aa.add d)) := hA.val 5 66 (by kernel_rfl) (by kernel_rfl)
          have q1 := (hA.st.cell (World.block_lt_of_cell? _ _ HXA.out)).trans HXA.out
          refine opStep none 0 rfl rfl (fun c hc => by cases hc) ?_
          go_simp
          exact hK _ _ rfl (Below.refl _ _) trivial
        · -- 7
          intro li a1 W2 hA K hK
          have e10 := hA.par 10 (by kernel_rfl)
          refine opStep none 0 rfl rfl (fun c hc => by cases hc) ?_
          go_simp
          exact hK _ _ rfl (Below.refl _ _) trivial
        · -- 8
          intro li a1 W2 hA K hK
          have e68 : a1.tmps.getD 68 undef = .pointer (some ⟨w.heap.size + 1 + 1 + 1, 1, none⟩) := hA.val 7 68 (by kernel_rfl) (by kernel_rfl)
          obtain ⟨q1, q2⟩ := (J10.out.keep hA.st).c2
          refine opStep none 0 rfl rfl (fun c hc => by cases hc) ?_
          go_simp
          exact hK _ _ rfl (Below.refl _ _) trivial
        · -- 9
          intro li a1 W2 hA K hK
          have e67 : a1.tmps.getD 67 undef = .int .i64 x := hA.val 6 67 (by kernel_rfl) (by kernel_rfl)
          have e69 : a1.tmps.getD 69 undef = .int .i64 T2 := hA.val 8 69 (by kernel_rfl) (by kernel_rfl)
          refine opStep none 0 rfl rfl (fun c hc => by cases hc) ?_
          go_simp
          exact hK _ _ (by first | rfl | exact congrArg (Value.int .i64) hw2 | (simp [hw2])) (Below.refl _ _) trivial
        · -- 10
          intro li a1 W2 hA K hK
          have e62 : a1.tmps.getD 62 undef = .int .i64 S := hA.val 1 62 (by kernel_rfl) (by kernel_rfl)
          have e70 : a1.tmps.getD 70 undef = .int .i64 (x - T2) := hA.val 9 70 (by kernel_rfl) (by kernel_rfl)
          refine opStep none 0 rfl rfl (fun c hc => by cases hc) ?_
          go_simp
          exact hK _ _ (congrArg (Value.int .i64) (by split <;> omega)) (Below.refl _ _) trivial
        · -- 11
          intro li a1 W2 hA K hK
          have e9 := hA.par 9 (by kernel_rfl)
          refine opStep none 0 rfl rfl (fun c hc => by cases hc) ?_
          go_simp
          exact hK _ _ rfl (Below.refl _ _) trivial
        · -- 12
          intro li a1 W2 hA K hK
          have e72 : a1.tmps.getD 72 undef = .pointer (some ⟨w.heap.size + 1 + 1, 1, none⟩) := hA.val 11 72 (by kernel_rfl) (by kernel_rfl)
          obtain ⟨q1, q2⟩ := (J9.out.keep hA.st).c2
          refine opStep none 0 rfl rfl (fun c hc => by cases hc) ?_
          go_simp
          exact hK _ _ rfl (Below.refl _ _) trivial
        · -- 13
          intro li a1 W2 hA K hK
          have e4 := hA.par 4 (by kernel_rfl)
          refine opStep none 0 rfl rfl (fun c hc => by cases hc) ?_
          go_simp
          exact hK _ _ rfl (Below.refl _ _) trivial
        · -- 14
          intro li a1 W2 hA K hK
          have e74 : a1.tmps.getD 74 undef = .pointer (some ⟨w.heap.size, 0, none⟩) := hA.val 13 74 (by kernel_rfl) (by kernel_rfl)
          obtain ⟨q1, _⟩ := (HKM.out.keep hA.st).c4
          refine opStep none 0 rfl rfl (fun c hc => by cases hc) ?_
          go_simp
          exact hK _ _ rfl (Below.refl _ _) trivial
        · -- 15
          intro li a1 W2 hA K hK
          have e2 := hA.par 2 (by kernel_rfl)
          refine opStep none 0 rfl rfl (fun c hc => by cases hc) ?_
          go_simp
          exact hK _ _ rfl (Below.refl _ _) trivial
        · -- 16
          intro li a1 W2 hA K hK
          have e75 : a1.tmps.getD 75 undef = .slice (some aa) m.old.length c := hA.val 14 75 (by kernel_rfl) (by kernel_rfl)
          have e76 : a1.tmps.getD 76 undef = .int .i64 (d : Int) := hA.val 15 76 (by kernel_rfl) (by kernel_rfl)
          refine opStep none 0 rfl rfl (fun c hc => by cases hc) ?_
          go_simp
          exact hK _ _ (by first | rfl | exact congrArg (fun q => Value.pointer (some q)) (add_blk _ _)) (Below.refl _ _) trivial
        · -- 17
          intro li a1 W2 hA K hK
          have e77 : a1.tmps.getD 77 undef = .pointer (some (aa.add d)) := hA.val 16 77 (by kernel_rfl) (by kernel_rfl)
          have q1 := (hA.st.cell (World.block_lt_of_cell? _ _ HXA.out)).trans HXA.out
          refine opStep none 0 rfl rfl (fun c hc => by cases hc) ?_
          go_simp
          exact hK _ _ rfl (Below.refl _ _) trivial
        · -- 18
          intro li a1 W2 hA K hK
          have e10 := hA.par 10 (by kernel_rfl)
          refine opStep none 0 rfl rfl (fun c hc => by cases hc) ?_
          go_simp
          exact hK _ _ rfl (Below.refl _ _) trivial
        · -- 19
          intro li a1 W2 hA K hK
          have e79 : a1.tmps.getD 79 undef = .pointer (some ⟨w.heap.size + 1 + 1 + 1, 0, none⟩) := hA.val 18 79 (by kernel_rfl) (by kernel_rfl)
          obtain ⟨q1, q2⟩ := (J10.out.keep hA.st).c2
          refine opStep none 0 rfl rfl (fun c hc => by cases hc) ?_
          go_simp
          exact hK _ _ rfl (Below.refl _ _) trivial
        · -- 20
          intro li a1 W2 hA K hK
          have e78 : a1.tmps.getD 78 undef = .int .i64 x := hA.val 17 78 (by kernel_rfl) (by kernel_rfl)
          have e80 : a1.tmps.getD 80 undef = .int .i64 T := hA.val 19 80 (by kernel_rfl) (by kernel_rfl)
          refine opStep none 0 rfl rfl (fun c hc => by cases hc) ?_
          go_simp
          exact hK _ _ (by first | rfl | exact congrArg (Value.int .i64) hw3 | (simp [hw3])) (Below.refl _ _) trivial
        · -- 21
          intro li a1 W2 hA K hK
          have e73 : a1.tmps.getD 73 undef = .int .i64 S2 := hA.val 12 73 (by kernel_rfl) (by kernel_rfl)
          have e81 : a1.tmps.getD 81 undef = .int .i64 (x - T) := hA.val 20 81 (by kernel_rfl) (by kernel_rfl)
          refine opStep none 0 rfl rfl (fun c hc => by cases hc) ?_
          go_simp
          exact hK _ _ (congrArg (Value.int .i64) (by split <;> omega)) (Below.refl _ _) trivial
        · -- 22
          intro li a1 W2 hA K hK
          have e71 : a1.tmps.getD 71 undef = .int .i64 (max S (x - T2)) := hA.val 10 71 (by kernel_rfl) (by kernel_rfl)
          have e82 : a1.tmps.getD 82 undef = .int .i64 (min S2 (x - T)) := hA.val 21 82 (by kernel_rfl) (by kernel_rfl)
          have e71' := e71
          have e82' := e82
          rw [Array.getD_eq_getD_getElem?] at e71' e82'
          refine opStep none 0 rfl rfl (fun c hc => by cases hc) ?_
          go_simp
          exact hK _ _ rfl (Below.refl _ _) trivial
      · intro li a1 W2 hD
        have ev : a1.tmps.getD 83 undef = .agg #[.int .i64 (max S (x - T2)), .int .i64 (min S2 (x - T))] := hD.val 22 83 (by kernel_rfl) (by kernel_rfl)
        have ep := hD.par 8 (by kernel_rfl)
        have hst := hD.st
        have hbx := HKR.out.keep hst
        obtain ⟨y0, y1⟩ := hbx.c2
        have yf := hbx.frozen 0
        have yf1 := hbx.frozen 1
        have yl := hbx.lt
        have hkp := hD.keeps (ds := [61, 62, 63, 64, 65, 66, 67, 68, 69, 70, 71, 72, 73, 74, 75, 76, 77, 78, 79, 80, 81, 82, 83]) (by kernel_rfl)
        have hds := hD.size
        have hdd := hD.defers
        refine tail_store (i := 23) (W' := ((W2.setCell ⟨w.heap.size + 1, 0, none⟩ (.int .i64 (max S (x - T2)))).setCell ⟨w.heap.size + 1, 1, none⟩ (.int .i64 (min S2 (x - T))))) none 0 rfl rfl rfl (fun c hc => by cases hc) (by go_simp) ?_
        have e := act_mix [61, 62, 63, 64, 65, 66, 67, 68, 69, 70, 71, 72, 73, 74, 75, 76, 77, 78, 79, 80, 81, 82, 83] hds hdd (fun i _ hc => hkp i hc)
        generalize (fun i => a1.tmps.getD i undef) = g' at e
        refine wpListIn_nil ?_
        rw [e]
        have hb6 : Blk ((W2.setCell ⟨w.heap.size + 1, 0, none⟩ (.int .i64 (max S (x - T2)))).setCell ⟨w.heap.size + 1, 1, none⟩ (.int .i64 (min S2 (x - T)))) (w.heap.size + 1) 43 #[.int .i64 (max S (x - T2)), .int .i64 (min S2 (x - T))] := (hbx.set_ 0 _).set_ 1 _
        have hbe : Below w.heap.size w ((W2.setCell ⟨w.heap.size + 1, 0, none⟩ (.int .i64 (max S (x - T2)))).setCell ⟨w.heap.size + 1, 1, none⟩ (.int .i64 (min S2 (x - T)))) := ((HBW.out.trans (hst.mono HBW.out.size)).setCell (p := ⟨w.heap.size + 1, 0, none⟩) (by show w.heap.size ≤ w.heap.size + 1; omega) _).setCell (p := ⟨w.heap.size + 1, 1, none⟩) (by show w.heap.size ≤ w.heap.size + 1; omega) _
        have HFIN := hid (And.intro hb6 hbe)
        clear e hD hkp ev ep hds hdd y0 y1 yf yf1 yl hst hbx hb6 hbe
        simp only [mix, List.contains_cons, List.contains_nil, Nat.reduceAdd, Nat.reduceBEq, Bool.or_false, Bool.or_true, cond_true, cond_false]
        generalize ((W2.setCell ⟨w.heap.size + 1, 0, none⟩ (.int .i64 (max S (x - T2)))).setCell ⟨w.heap.size + 1, 1, none⟩ (.int .i64 (min S2 (x - T)))) = W8 at *
        go_wp2
        obtain ⟨c0, c1⟩ := HFIN.out.1.c2
        exact bodyPost_ret (v := .agg #[.int .i64 (max S (x - T2)), .int .i64 (min S2 (x - T))]) (by simp [results, Try.results48, go_sem, c0, c1]) rfl ⟨by rw [HRES.out.1, HRES.out.2], HFIN.out.2⟩
end Go.Proofs.Ytoeabajigfdkaaa
/- The reference of layer 11: the bounds of a size. Conditions stand at the theorem. -/
namespace Go.Proofs.Ytoeabajigfdkaaa
open Go.RowKit Go.Shelf

set_option maxRecDepth 100000 in
set_option maxHeartbeats 4000000 in
theorem qsize_any (m : MapD) (nw : Int) (bs : List Int) (A4 : Option Addr) (c4 : Nat) (A : Option Addr) (c : Nat) (A2 : Option Addr) (c2 : Nat) (A3 : Option Addr) (c3 : Nat) (w : World) (h : MIn m A c A2 c2 A3 c3 w) (ok : OkM m) (hbs : IsInts w w.heap.size A4 bs) (hbl : bs.length = m.ss.length) (hb4 : bs.length ≤ c4) (hb5 : c4 ≤ maxLen) :
    Calls Try.prog 35 #[.agg #[.slice A m.old.length c, .int .i64 m.nw, .slice A2 m.ss.length c2, .slice A3 m.js.length c3], .slice A4 bs.length c4, .int .i64 nw] w fun e w' => e = .returned (.agg #[.int .i64 (sizeLo m (atB bs nw) m.old.length), .int .i64 (sizeHi m (atB bs nw) m.old.length)]) ∧ Below w.heap.size w w' := by
  have hm1 := h.m1
  have hl1 := h.l1
  unfold maxLen at hm1
  have hb : Below w.heap.size w (((w.alloc (.cells #[.slice A m.old.length c, .int .i64 m.nw, .slice A2 m.ss.length c2, .slice A3 m.js.length c3] 26)).alloc (.cells #[.int .i64 0, .int .i64 0] 43)).alloc (.cells #[.int .i64 0, .int .i64 0] 43)) := ((((Below.refl w.heap.size w).alloc (Nat.le_refl _) (.cells #[.slice A m.old.length c, .int .i64 m.nw, .slice A2 m.ss.length c2, .slice A3 m.js.length c3] 26)).alloc (by simp) (.cells #[.int .i64 0, .int .i64 0] 43)).alloc (by simp; omega) (.cells #[.int .i64 0, .int .i64 0] 43))
  have k1 := (((Blk.new w 26 #[.slice A m.old.length c, .int .i64 m.nw, .slice A2 m.ss.length c2, .slice A3 m.js.length c3]).alloc (.cells #[.int .i64 0, .int .i64 0] 43)).alloc (.cells #[.int .i64 0, .int .i64 0] 43))
  have k2 := ((Blk.new (w.alloc (.cells #[.slice A m.old.length c, .int .i64 m.nw, .slice A2 m.ss.length c2, .slice A3 m.js.length c3] 26)) 43 #[.int .i64 0, .int .i64 0]).alloc (.cells #[.int .i64 0, .int .i64 0] 43))
  have k3 := (Blk.new ((w.alloc (.cells #[.slice A m.old.length c, .int .i64 m.nw, .slice A2 m.ss.length c2, .slice A3 m.js.length c3] 26)).alloc (.cells #[.int .i64 0, .int .i64 0] 43)) 43 #[.int .i64 0, .int .i64 0])
  simp only [World.size_alloc] at k2 k3
  have HS := hid (show Below w.heap.size w (((w.alloc (.cells #[.slice A m.old.length c, .int .i64 m.nw, .slice A2 m.ss.length c2, .slice A3 m.js.length c3] 26)).alloc (.cells #[.int .i64 0, .int .i64 0] 43)).alloc (.cells #[.int .i64 0, .int .i64 0] 43)) ∧ Blk (((w.alloc (.cells #[.slice A m.old.length c, .int .i64 m.nw, .slice A2 m.ss.length c2, .slice A3 m.js.length c3] 26)).alloc (.cells #[.int .i64 0, .int .i64 0] 43)).alloc (.cells #[.int .i64 0, .int .i64 0] 43)) w.heap.size 26 #[.slice A m.old.length c, .int .i64 m.nw, .slice A2 m.ss.length c2, .slice A3 m.js.length c3] ∧ Blk (((w.alloc (.cells #[.slice A m.old.length c, .int .i64 m.nw, .slice A2 m.ss.length c2, .slice A3 m.js.length c3] 26)).alloc (.cells #[.int .i64 0, .int .i64 0] 43)).alloc (.cells #[.int .i64 0, .int .i64 0] 43)) (w.heap.size + 1) 43 #[.int .i64 0, .int .i64 0] ∧ Blk (((w.alloc (.cells #[.slice A m.old.length c, .int .i64 m.nw, .slice A2 m.ss.length c2, .slice A3 m.js.length c3] 26)).alloc (.cells #[.int .i64 0, .int .i64 0] 43)).alloc (.cells #[.int .i64 0, .int .i64 0] 43)) (w.heap.size + 1 + 1) 43 #[.int .i64 (sizeLo m (atB bs nw) 0), .int .i64 (sizeHi m (atB bs nw) 0)] from ⟨hb, k1, k2, k3⟩)
  obtain ⟨t0, t1, t2, t3⟩ := k1.c4
  have HH := hid h
  have OK := hid ok
  have HX := hid hbs
  have H5 := hid hb5
  have HBL := hid hbl
  have hd4 := ok.d4
  clear h ok hb k1 k2 k3 hbs hb5 hbl
  go_enter Try.func35, Try.ntmps35
  go_wp2
  go_loopw [8] (fun i W => ∃ k : Nat, k ≤ m.old.length ∧ i = .int .i64 k ∧ Below w.heap.size w W ∧ Blk W w.heap.size 26 #[.slice A m.old.length c, .int .i64 m.nw, .slice A2 m.ss.length c2, .slice A3 m.js.length c3] ∧ Blk W (w.heap.size + 1) 43 #[.int .i64 0, .int .i64 0] ∧ Blk W (w.heap.size + 1 + 1) 43 #[.int .i64 (sizeLo m (atB bs nw) k), .int .i64 (sizeHi m (atB bs nw) k)]) (fun i _ => m.old.length - (intOf i).toNat)
  case atStart => exact ⟨0, Nat.zero_le _, rfl, HS.out⟩
  case round =>
    obtain ⟨k, hk, rfl, hb, k1, k2, k3⟩ := hrel
    clear HS t0 t1 t2 t3
    obtain ⟨t0, t1, t2, t3⟩ := k1.c4
    obtain ⟨r0, r1⟩ := k3.c2
    by_cases hlt : k < m.old.length
    · have hkI : (k : Int) < (m.old.length : Int) := by omega
      have HP := hid (qpart_any m k nw bs A4 c4 A c A2 c2 A3 c3 wr (HH.out.at_ hb) OK.out hlt (HX.out.at_ hb) HBL.out hb4 H5.out)
      obtain ⟨b1, b2, b3, b4⟩ := size_bounds OK.out (atB bs nw) k (by omega)
      obtain ⟨b5, b6, b7, b8⟩ := part_bounds OK.out (atB bs nw) hlt
      have HST := hid (show sizeLo m (atB bs nw) (k + 1) = sizeLo m (atB bs nw) k + partLo m (atB bs nw) k ∧ sizeHi m (atB bs nw) (k + 1) = sizeHi m (atB bs nw) k + partHi m (atB bs nw) k from ⟨rfl, rfl⟩)
      generalize sizeLo m (atB bs nw) k = S at *
      generalize sizeHi m (atB bs nw) k = T at *
      generalize partLo m (atB bs nw) k = P at *
      generalize partHi m (atB bs nw) k = Q at *
      have HK := hid (And.intro hb (And.intro k1 (And.intro k2 k3)))
      clear hb k1 k2 k3
      go_wp2_with fail
      refine HP.out.mono ?_
      rintro e w2 ⟨rfl, hb2⟩
      obtain ⟨hb, k1, k2, k3⟩ := HK.out
      have H2 := hid (And.intro (hb.trans (hb2.mono hb.size)) (And.intro (k1.keep hb2) (And.intro (k2.keep hb2) (k3.keep hb2))))
      have k5 := k3.keep hb2
      clear t0 t1 t2 t3 r0 r1 hb k1 k2 k3 hb2 HP HK
      obtain ⟨r0, r1⟩ := k5.c2
      have rl := k5.lt
      have rf := k5.frozen 0
      have rf1 := k5.frozen 1
      clear k5
      go_wp2
      go_roundw
      case rel =>
        obtain ⟨hb, k1, k2, k3⟩ := H2.out
        have hne1 : w.heap.size ≠ w.heap.size + 1 + 1 := by omega
        have hne2 : w.heap.size + 1 ≠ w.heap.size + 1 + 1 := by omega
        refine ⟨k + 1, by omega, by go_num, ?_, ?_, ?_, ?_⟩
        · have q := (hb.setCell (p := ⟨w.heap.size + 1 + 1, 0, none⟩) (by show w.heap.size ≤ w.heap.size + 1 + 1; omega) (.int .i64 (S + P))).setCell (p := ⟨w.heap.size + 1 + 1, 1, none⟩) (by show w.heap.size ≤ w.heap.size + 1 + 1; omega) (.int .i64 (T + Q))
          exact q.alloc q.size _
        · exact ((k1.far (p := ⟨w.heap.size + 1 + 1, 0, none⟩) hne1 _).far (p := ⟨w.heap.size + 1 + 1, 1, none⟩) hne1 _).alloc _
        · exact ((k2.far (p := ⟨w.heap.size + 1 + 1, 0, none⟩) hne2 _).far (p := ⟨w.heap.size + 1 + 1, 1, none⟩) hne2 _).alloc _
        · rw [HST.out.1, HST.out.2]
          exact ((k3.set_ 0 _).set_ 1 _).alloc _
      case measure => first | (simp [intOf]; done) | (simp [intOf]; omega)
    · have hkI : decide ((k : Int) < (m.old.length : Int)) = false := by simp; omega
      obtain rfl : k = m.old.length := by omega
      have rl := k2.lt
      have rf := k2.frozen 0
      have rf1 := k2.frozen 1
      have HBW := hid hb
      have K2 := hid k2
      obtain ⟨s0, s1⟩ := k2.c2
      clear k1 k2 k3 hb
      obtain ⟨S, hS⟩ : ∃ S, sizeLo m (atB bs nw) m.old.length = S := ⟨_, rfl⟩
      obtain ⟨T, hT⟩ : ∃ T, sizeHi m (atB bs nw) m.old.length = T := ⟨_, rfl⟩
      rw [hS] at r0
      rw [hT] at r1
      have HV := hid (And.intro hS hT)
      clear hS hT
      go_wp2
      have k5 : Blk ((wr.setCell ⟨w.heap.size + 1, 0, none⟩ (.int .i64 S)).setCell ⟨w.heap.size + 1, 1, none⟩ (.int .i64 T)) (w.heap.size + 1) 43 #[.int .i64 S, .int .i64 T] := (K2.out.set_ 0 _).set_ 1 _
      have hbe : Below w.heap.size w ((wr.setCell ⟨w.heap.size + 1, 0, none⟩ (.int .i64 S)).setCell ⟨w.heap.size + 1, 1, none⟩ (.int .i64 T)) := (HBW.out.setCell (p := ⟨w.heap.size + 1, 0, none⟩) (by show w.heap.size ≤ w.heap.size + 1; omega) _).setCell (p := ⟨w.heap.size + 1, 1, none⟩) (by show w.heap.size ≤ w.heap.size + 1; omega) _
      generalize (wr.setCell ⟨w.heap.size + 1, 0, none⟩ (.int .i64 S)).setCell ⟨w.heap.size + 1, 1, none⟩ (.int .i64 T) = W9 at *
      obtain ⟨c0, c1⟩ := k5.c2
      exact bodyPost_ret (v := .agg #[.int .i64 S, .int .i64 T]) (by simp [results, Try.results35, go_sem, c0, c1]) rfl ⟨by rw [HV.out.1, HV.out.2], hbe⟩
end Go.Proofs.Ytoeabajigfdkaaa
/- More words for the statements. No condition. -/
namespace Go.Proofs.Ytoeabajigfdkaaa
open Go.RowKit Go.Shelf

theorem cst_bad {m : MapD} (h : chkM m ≠ 0) : cstM m = chkM m := by rw [cst_of, if_neg h]
section
variable {m : MapD} {A : Option Addr} {c : Nat} {A2 : Option Addr} {c2 : Nat} {A3 : Option Addr} {c3 : Nat} {w : World}
theorem off_bad (h : MIn m A c A2 c2 A3 c3 w) (hc : cstM m ≠ 0) : Calls Try.prog 31 #[.agg #[.slice A m.old.length c, .int .i64 m.nw, .slice A2 m.ss.length c2, .slice A3 m.js.length c3]] w fun e w' => e = .returned (.tuple #[.slice none 0 0, .int .i64 (cstM m)]) ∧ Below w.heap.size w w' := by
  have := off_any m A c A2 c2 A3 c3 w h
  simp only [if_pos hc] at this
  exact this
def GivesI0 (xs : List Int) (w : World) (e : Ending) (w' : World) : Prop := ∃ y : Option Addr × Nat, e = .returned (.tuple #[.slice y.1 xs.length y.2, .int .i64 0]) ∧ IntsAt y xs w' ∧ Below w.heap.size w w'
theorem off_good (h : MIn m A c A2 c2 A3 c3 w) (hc : cstM m = 0) : Calls Try.prog 31 #[.agg #[.slice A m.old.length c, .int .i64 m.nw, .slice A2 m.ss.length c2, .slice A3 m.js.length c3]] w (GivesI0 (offL m) w) := by
  have := off_any m A c A2 c2 A3 c3 w h
  simp only [if_neg (show ¬ cstM m ≠ 0 by simp [hc])] at this
  exact this.mono fun e w' ⟨A, c, h1, h2, h3, h4, h5⟩ => ⟨(A, c), h1, ⟨h2, h3, h4⟩, h5⟩
theorem apart_bad (h : MIn m A c A2 c2 A3 c3 w) (hc : chkM m ≠ 0) : Calls Try.prog 32 #[.agg #[.slice A m.old.length c, .int .i64 m.nw, .slice A2 m.ss.length c2, .slice A3 m.js.length c3]] w fun e w' => e = .returned (.tuple #[.slice none 0 0, .int .i64 (chkM m)]) ∧ Below w.heap.size w w' := by
  have := apart_any m A c A2 c2 A3 c3 w h
  simp only [if_pos hc] at this
  exact this
theorem apart_good (h : MIn m A c A2 c2 A3 c3 w) (hc : chkM m = 0) : Calls Try.prog 32 #[.agg #[.slice A m.old.length c, .int .i64 m.nw, .slice A2 m.ss.length c2, .slice A3 m.js.length c3]] w (GivesI0 (apL m) w) := by
  have := apart_any m A c A2 c2 A3 c3 w h
  simp only [if_neg (show ¬ chkM m ≠ 0 by simp [hc])] at this
  exact this.mono fun e w' ⟨A, c, h1, h2, h3, h4, h5⟩ => ⟨(A, c), h1, ⟨h2, h3, h4⟩, h5⟩
theorem conn_own (h : MIn m A c A2 c2 A3 c3 w) (ok : OkM m) (d : Int) {y : Option Addr × Nat} (hy : IntsAt y (lst m (ownL m)) w) {b : Bool} (hb : conB m (ownL m) d = b) : Calls Try.prog 33 #[.agg #[.slice A m.old.length c, .int .i64 m.nw, .slice A2 m.ss.length c2, .slice A3 m.js.length c3], .slice y.1 (lst m (ownL m)).length y.2, .int .i64 d] w fun e w' => e = .returned (.bool b) ∧ Below w.heap.size w w' := by
  have := qconn_any m d A c A2 c2 A3 c3 y.1 y.2 (lst m (ownL m)) w h hy.1 (lst_len _ _) ok.s8
  rwa [conB_congr (l' := ownL m) (fun i hi => fnO_lst hi), hb] at this
theorem size_own (h : MIn m A c A2 c2 A3 c3 w) (ok : OkM m) (d : Nat) {y : Option Addr × Nat} (hy : IntsAt y (lst m (ownL m)) w) : Calls Try.prog 35 #[.agg #[.slice A m.old.length c, .int .i64 m.nw, .slice A2 m.ss.length c2, .slice A3 m.js.length c3], .slice y.1 (lst m (ownL m)).length y.2, .int .i64 (d : Int)] w fun e w' => e = .returned (.agg #[.int .i64 (bndOne m d).1, .int .i64 (bndOne m d).2]) ∧ Below w.heap.size w w' := by
  have := qsize_any m (d : Int) (lst m (ownL m)) y.1 y.2 A c A2 c2 A3 c3 w h ok hy.1 (lst_len _ _) hy.2.1 hy.2.2
  have e : ∀ i, i < m.ss.length → atB (lst m (ownL m)) (d : Int) i = inD (ownL m) (d : Int) i := fun i hi => by
    have := fnO_lst (l := ownL m) hi
    unfold fnO at this
    simp only [atB, inD, this]
  rw [sizeLo_congr e, sizeHi_congr e] at this
  exact this
end
end Go.Proofs.Ytoeabajigfdkaaa
/- A copy of a map's streets, in a block of the call's own, and its changes. Conditions stand at each theorem. -/
namespace Go.Proofs.Ytoeabajigfdkaaa
open Go.RowKit Go.Shelf

theorem stts_cells {W : World} {n : Nat} {a : Addr} {ss : List Stt} (h : IsStts W n (some a) ss) : ∀ (j : Nat) (u : Value), (sttsL ss)[j]? = some u → W.cell? (a.add j) = some u := by
  intro j u hj
  obtain ⟨k, r, hk, hr⟩ : ∃ k r, j = k * 5 + r ∧ r < 5 := ⟨j / 5, j % 5, by omega, by omega⟩
  subst hk
  have hlt : k < ss.length := by
    have := (List.getElem?_eq_some_iff.1 hj).1
    rw [sttsL_len] at this
    omega
  have hf := List.getElem?_eq_getElem hlt
  obtain ⟨a', e, _, c0, c1, c2, c3, c4⟩ := h k _ hf
  injection e with e
  subst e
  obtain ⟨d0, d1, d2, d3, d4⟩ := sttsL_at hf
  have hr5 : r = 0 ∨ r = 1 ∨ r = 2 ∨ r = 3 ∨ r = 4 := by omega
  rcases hr5 with rfl | rfl | rfl | rfl | rfl
  · rw [Nat.add_zero, d0] at hj
    injection hj with hj
    subst hj
    exact c0
  · rw [d1] at hj
    injection hj with hj
    subst hj
    rw [add_next a (k * 5) 1 (by decide)]; exact c1
  · rw [d2] at hj
    injection hj with hj
    subst hj
    rw [add_next a (k * 5) 2 (by decide)]; exact c2
  · rw [d3] at hj
    injection hj with hj
    subst hj
    rw [add_next a (k * 5) 3 (by decide)]; exact c3
  · rw [d4] at hj
    injection hj with hj
    subst hj
    rw [add_next a (k * 5) 4 (by decide)]; exact c4
theorem qstt_info : (Try.prog.info? 45).map (fun i => (i.zero, i.size, i.bytes)) = some (some (.agg #[.int .i64 0, .int .i64 0, .int .i64 0, .int .i64 0, .int .i64 0]), 5, 40) := by kernel_rfl
/-- a step that appends, by what its run gives -/
theorem wpList_run_append {ops : Array Oper} {rest : List Oper} {o : Oper} {a : Act} {w : World} {Q : Exit → Act → World → Prop} {R : Value → World → Prop} (hgd : o.guard = none) (s x : Operand) (t : TypeId)
    (ho : o.op = .call { callee := .builtin .append, args := #[s, x], argTypes := #[t, t] }) {v u : Value} (hs : a.eval s = v) (hx : a.eval x = u)
    (hr : ∃ v' w', (Builtin.append_ #[t, t] o.type #[v, u]).run Try.prog w = .ok v' w' ∧ R v' w') (h : ∀ v' w', R v' w' → wpList Try.prog ops Q rest (a.put o.dst v') w') : wpList Try.prog ops Q (o :: rest) a w := by
  refine wpList_plain hgd fun K hK => ?_
  obtain ⟨v', w', hr, h2⟩ := hr
  unfold Oper.wp execOp
  simp only [ho, resolve, invoke, builtin, Sem.run_bind, Sem.run_pure, Result.andThen_ok, List.map_toArray, List.map_cons, List.map_nil, hs, hx, hr]
  exact hK _ _ (h v' w' h2)
/-- the streets behind an empty list of the call's own: only new memory -/
theorem copy_stts {W : World} {base g0 : Nat} {A2 : Option Addr} {c2 : Nat} {ss : List Stt} (hx : IsStts W W.heap.size A2 ss) (hg : Blk W g0 45 #[]) (h0 : base ≤ g0) (h1 : 1 ≤ ss.length) (hs : ss.length ≤ 1000) :
    ∃ v' w', (Builtin.append_ #[23, 23] 23 #[.slice (some ⟨g0, 0, none⟩) 0 0, .slice A2 ss.length c2]).run Try.prog W = .ok v' w' ∧ w'.ownsRow base 45 5 v' ss.length (sttsL ss) ∧ Below W.heap.size W w' := by
  obtain ⟨i0, hi0, hz0, hz1, hz2⟩ := info_parts qstt_info
  have hown : W.ownsRow base 45 5 (.slice (some ⟨g0, 0, none⟩) 0 0) 0 [] := ⟨rfl, .inr ⟨g0, 0, #[], rfl, h0, hg, Nat.le_refl _, Nat.zero_le _, rfl, rfl⟩⟩
  cases A2 with
  | none =>
    obtain ⟨a, e, _⟩ := hx 0 _ (List.getElem?_eq_getElem (by omega))
    cases e
  | some a =>
    have hcells := stts_cells hx
    have hlen : (sttsL ss).length = ss.length * i0.size := by rw [hz1]; exact sttsL_len ss
    obtain ⟨v', w', hrun, hown', _, _, _⟩ := run_append_own_at (P := Try.prog) W base 23 23 45 i0 (.agg #[.int .i64 0, .int .i64 0, .int .i64 0, .int .i64 0, .int .i64 0]) 5 40 Try.underlying23 hi0 hz0 hz1 hz2 rfl (by decide) _ 0 [] hown a ss.length c2 (sttsL ss) (sttsL_len ss) hcells (sttsL_one ss) (by simp only [maxLen]; omega) (by omega) (by have := hg.lt; omega)
    have hr2 := run_append_grow (P := Try.prog) W 23 23 45 i0 (.agg #[.int .i64 0, .int .i64 0, .int .i64 0, .int .i64 0, .int .i64 0]) Try.underlying23 hi0 hz0 ⟨g0, 0, none⟩ 0 0 [] (by simp) (fun j v h => by simp at h) a ss.length c2 (sttsL ss) hlen hcells (by omega) (by omega) (by
      rw [hz2, nextslicecap_zero (by omega)]
      omega)
    rw [hrun] at hr2
    injection hr2 with e1 e2
    rw [Nat.zero_add, List.nil_append] at hown'
    refine ⟨v', w', hrun, hown', ?_⟩
    rw [e2]
    exact ((Below.refl _ _).drew).alloc (Nat.le_refl _) _
def Stt.f (s : Stt) : Nat → Int
  | 0 => s.o
  | 1 => s.n
  | 2 => s.wt
  | 3 => s.lo
  | _ => s.hi
/-- a block whose first cells are these streets -/
def SttB (W : World) (g : Nat) (cur : Array Value) (ss : List Stt) : Prop :=
  Blk W g 45 cur ∧ ∀ k s, ss[k]? = some s → ∀ r, r < 5 → cur[k * 5 + r]? = some (.int .i64 (s.f r))
theorem SttB.keep {W W' : World} {g : Nat} {cur : Array Value} {ss : List Stt} (h : SttB W g cur ss) (hb : Below W.heap.size W W') : SttB W' g cur ss := ⟨h.1.keep hb, h.2⟩
theorem SttB.is {W : World} {g : Nat} {cur : Array Value} {ss : List Stt} (h : SttB W g cur ss) : IsStts W W.heap.size (some ⟨g, 0, none⟩) ss := fun k s hk => by
  refine ⟨_, rfl, h.1.lt, ?_⟩
  rw [add_blk]
  exact ⟨(h.1.cell _).trans (h.2 k s hk 0 (by omega)), (h.1.cell _).trans (h.2 k s hk 1 (by omega)), (h.1.cell _).trans (h.2 k s hk 2 (by omega)), (h.1.cell _).trans (h.2 k s hk 3 (by omega)), (h.1.cell _).trans (h.2 k s hk 4 (by omega))⟩
theorem SttB.of_row {W : World} {base : Nat} {v : Value} {ss : List Stt} (h : W.ownsRow base 45 5 v ss.length (sttsL ss)) (h1 : 1 ≤ ss.length) : ∃ g cap cur, v = .slice (some ⟨g, 0, none⟩) ss.length cap ∧ SttB W g cur ss ∧ base ≤ g ∧ ss.length ≤ cap ∧ cap ≤ maxLen := by
  rcases h.2 with ⟨e, h0⟩ | ⟨z, cap, cur, e, hb, hg, hl, hm, _⟩
  · omega
  · refine ⟨z, cap, cur, e, ⟨hg, fun k s hk r hr => ?_⟩, hb, hl, hm⟩
    have hc := h.cells (g := z) (by rw [e]; rfl) (k * 5 + r)
    obtain ⟨d0, d1, d2, d3, d4⟩ := sttsL_at hk
    have hr5 : r = 0 ∨ r = 1 ∨ r = 2 ∨ r = 3 ∨ r = 4 := by omega
    rw [← Blk.cell (show Blk W z 45 cur from hg)]
    rcases hr5 with rfl | rfl | rfl | rfl | rfl
    · have := hc _ d0; rwa [add_blk] at this
    · have := hc _ d1; rwa [add_blk] at this
    · have := hc _ d2; rwa [add_blk] at this
    · have := hc _ d3; rwa [add_blk] at this
    · have := hc _ d4; rwa [add_blk] at this
/-- the first k streets changed -/
def updTo (f : Stt → Stt) (ss : List Stt) (k : Nat) : List Stt := (ss.take k).map f ++ ss.drop k
theorem updTo_zero (f : Stt → Stt) (ss : List Stt) : updTo f ss 0 = ss := by simp [updTo]
theorem updTo_all (f : Stt → Stt) (ss : List Stt) : updTo f ss ss.length = ss.map f := by simp [updTo]
theorem updTo_len (f : Stt → Stt) (ss : List Stt) (k : Nat) : (updTo f ss k).length = ss.length := by simp [updTo]; omega
theorem updTo_get (f : Stt → Stt) (ss : List Stt) (k i : Nat) : (updTo f ss k)[i]? = if i < k then ss[i]?.map f else ss[i]? := by
  unfold updTo
  by_cases h : i < k
  · rw [if_pos h]
    by_cases hl : i < ss.length
    · rw [List.getElem?_append_left (by simp; omega), List.getElem?_map, List.getElem?_take, if_pos h]
    · rw [List.getElem?_eq_none (by simp; omega), List.getElem?_eq_none (by omega)]; rfl
  · rw [if_neg h]
    by_cases hl : i < ss.length
    · rw [List.getElem?_append_right (by simp; omega), List.getElem?_drop]
      congr 1
      simp; omega
    · rw [List.getElem?_eq_none (by simp; omega), List.getElem?_eq_none (by omega)]
/-- a street's field is set -/
theorem SttB.upd {W : World} {g : Nat} {cur : Array Value} {ss : List Stt} {f : Stt → Stt} {k r : Nat} {s : Stt} {z : Int} (h : SttB W g cur (updTo f ss k)) (hs : ss[k]? = some s) (hr : r < 5) (hz : (f s).f r = z) (ho : ∀ q, q < 5 → q ≠ r → (f s).f q = s.f q) :
    SttB (W.setCell ⟨g, k * 5 + r, none⟩ (.int .i64 z)) g (cur.setIfInBounds (k * 5 + r) (.int .i64 z)) (updTo f ss (k + 1)) := by
  have hk : (updTo f ss k)[k]? = some s := by rw [updTo_get, if_neg (by omega)]; exact hs
  refine ⟨h.1.set_ _ _, fun i t ht q hq => ?_⟩
  rw [updTo_get] at ht
  rw [Array.getElem?_setIfInBounds]
  by_cases e : i = k
  · subst e
    rw [if_pos (by omega), hs] at ht
    injection ht with ht
    subst ht
    have hlt : i * 5 + r < cur.size := (Array.getElem?_eq_some_iff.1 (h.2 i s hk r hr)).1
    by_cases eq : q = r
    · subst eq
      rw [if_pos rfl, if_pos hlt, hz]
    · rw [if_neg (by omega), ho q hq eq]
      exact h.2 i s hk q hq
  · rw [if_neg (by omega)]
    refine h.2 i t ?_ q hq
    rw [updTo_get]
    by_cases hi : i < k
    · rw [if_pos (by omega)] at ht; rw [if_pos hi]; exact ht
    · rw [if_neg (by omega)] at ht; rw [if_neg hi]; exact ht
/-- a street that stays as it is -/
theorem SttB.same {W : World} {g : Nat} {cur : Array Value} {ss : List Stt} {f : Stt → Stt} {k : Nat} {s : Stt} (h : SttB W g cur (updTo f ss k)) (hs : ss[k]? = some s) (hf : f s = s) : SttB W g cur (updTo f ss (k + 1)) := by
  refine ⟨h.1, fun i t ht => h.2 i t ?_⟩
  rw [updTo_get] at ht ⊢
  by_cases e : i = k
  · subst e
    rw [if_pos (by omega), hs] at ht
    rw [if_neg (by omega), hs, ← ht]
    simp [hf]
  · by_cases hi : i < k
    · rw [if_pos (by omega)] at ht; rw [if_pos hi]; exact ht
    · rw [if_neg (by omega)] at ht; rw [if_neg hi]; exact ht
end Go.Proofs.Ytoeabajigfdkaaa
