/- The walks and the plain laws of this part of the program, part 2: what each computes. Conditions stand at each theorem. -/
import Derived.StillTail
import Derived.OrdersIn
import Derived.TacticsIn
import Derived.RangeFuncNested
import Derived.RangeFuncCalls
import Derived.Maps.AppendAt
import Derived.Deep.AppendLies
import Derived.RangeFuncLeaves
import Derived.OwnWalkIn
import Derived.TacticsInMore
import Derived.LoopNIn
import Derived.LoopIn
import Derived.Test.YtoeabajigfdkaaaG1
/- A law for a statement whose order is open, where calls hand back values that are known only by what they are good for: one walk of each operation, in whatever order. -/
namespace Go.Proofs.Ytoeabajigfdkaaa
open Go.RowKit

def depsB (ops : Array Oper) : Bool := (List.range ops.size).all fun i => ((ops[i]?).map fun o => o.after.all fun e => !Region.binds .any e || decide (e.on < i)).getD true
def dstsB (ops : Array Oper) (n : Nat) : Bool := (List.range n).all fun i => (List.range n).all fun j => decide (i = j) || ((ops[i]?).bind (·.dst)).all fun d => ((ops[j]?).bind (·.dst)) != some d
/-- the order of the head is open, the tail's is not -/
def relB (ops : Array Oper) (n : Nat) : Bool :=
  depsB ops && dstsB ops n && decide (n < ops.size) && Region.sinkB .any ops n && Region.chainB .any ops n &&
  Region.seqB .any ops (ops.size - n) n (Array.replicate n true ++ Array.replicate (ops.size - n) false)

theorem put_getD_same {a : Act} {d : Tmp} {v : Value} (h : d < a.tmps.size) : (a.put (some d) v).tmps.getD d undef = v := by
  simp [Act.put, Array.getD, h]
theorem put_getD_other {a : Act} {d d' : Tmp} {v : Value} (h : d ≠ d') : (a.put (some d) v).tmps.getD d' undef = a.tmps.getD d' undef := by
  simp [Act.put, Array.getD_eq_getD_getElem?, Array.getElem?_setIfInBounds_ne h]
theorem put_size {a : Act} {d : Option Tmp} {v : Value} : (a.put d v).tmps.size = a.tmps.size := by
  cases d <;> simp [Act.put]
theorem put_defers {a : Act} {d : Option Tmp} {v : Value} : (a.put d v).defers = a.defers := by
  cases d <;> simp [Act.put]

/-- what is known when some operations of the head are over -/
structure Known (ops : Array Oper) (n : Nat) (R : Nat → Value → World → Prop) (St : World → World → Prop) (G : Array Bool → World → Prop) (a : Act) (w : World) (listed : Array Bool) (a' : Act) (W : World) : Prop where
  inv : HeadInv .any ops n listed
  st : St w W
  ph : G listed W
  defers : a'.defers = a.defers
  size : a'.tmps.size = a.tmps.size
  rest : ∀ d, (∀ i, i < n → (ops[i]?).bind (·.dst) ≠ some d) → a'.tmps.getD d undef = a.tmps.getD d undef
  rel : ∀ i, i < n → listed.getD i false = true → ∀ d, (ops[i]?).bind (·.dst) = some d → R i (a'.tmps.getD d undef) W

def unlistedOf (n : Nat) (listed : Array Bool) : List Nat := (List.range n).filter fun i => !listed.getD i false
theorem depsB_spec {ops : Array Oper} (h : depsB ops = true) {i : Nat} {o : Oper} (ho : ops[i]? = some o) {e : Edge} (he : e ∈ o.after) (hb : Region.binds .any e = true) : e.on < i := by
  have hi : i < ops.size := (Array.getElem?_eq_some_iff.1 ho).1
  have h1 := List.all_eq_true.1 h i (List.mem_range.2 hi)
  rw [ho] at h1
  simp only [Option.map_some, Option.getD_some] at h1
  have h2 := Array.all_eq_true'.1 h1 e he
  simpa [hb] using h2
theorem dstsB_spec {ops : Array Oper} {n : Nat} (h : dstsB ops n = true) {i j : Nat} (hi : i < n) (hj : j < n) (hij : i ≠ j) {d : Tmp} (hd : (ops[i]?).bind (·.dst) = some d) : (ops[j]?).bind (·.dst) ≠ some d := by
  have h1 := List.all_eq_true.1 (List.all_eq_true.1 h i (List.mem_range.2 hi)) j (List.mem_range.2 hj)
  rw [hd] at h1
  simpa [hij] using h1

theorem getD_set_eq {l : Array Bool} {i : Nat} (h : i < l.size) : (l.setIfInBounds i true).getD i false = true := by
  simp [Array.getD_eq_getD_getElem?, h]
theorem getD_set_oth {l : Array Bool} {i j : Nat} (h : i ≠ j) : (l.setIfInBounds i true).getD j false = l.getD j false := by
  simp [Array.getD_eq_getD_getElem?, Array.getElem?_setIfInBounds_ne h]

theorem wpAnyIn_of_seq {F : Fence} {m : Nat} {P : Program} {ops : Array Oper} {md : Region.Mode} {Q' : Exit → Act → World → Prop} : ∀ (l : List Oper) (k : Nat) (listed : Array Bool) (a : Act) (w : World), (∀ j, l[j]? = ops[k + j]?) →
    Region.seqB md ops l.length k listed = true → wpListIn F m P ops Q' l a w → wpAnyIn F m P md ops Q' l.length listed a w
  | [], _, _, _, _, _, hB, h => ⟨by simpa [Region.seqB] using hB, h⟩
  | o :: l, k, listed, a, w, hl, hB, h => by
    have h0 : ops[k]? = some o := by simpa using (hl 0).symm
    simp only [List.length_cons, Region.seqB, Bool.and_eq_true, decide_eq_true_eq] at hB
    refine ⟨fun h1 => (by rw [hB.1] at h1; cases h1), fun i hi => ?_⟩
    rw [hB.1] at hi
    have hik : i = k := by simpa using hi
    subst hik
    have hw : wpOpIn F m P ops Q' i (wpListIn F m P ops Q' l) a w := by unfold wpOpIn; simp only [h0]; exact h
    exact wpOpIn_mono (fun a' w' h' => wpAnyIn_of_seq l (i + 1) _ a' w' (fun j => by have := hl (j + 1); simpa [Nat.add_assoc, Nat.add_comm 1 j] using this) hB.2 h') hw

theorem wpAnyIn_rel {F : Fence} {m : Nat} {P : Program} {ops : Array Oper} {n : Nat} {Q : Exit → Act → World → Prop} {a : Act} {w : World} {R : Nat → Value → World → Prop} {St : World → World → Prop} {G : Array Bool → World → Prop}
    (hB : relB ops n = true) (hR : ∀ i v W W', St W W' → R i v W → R i v W') (hT : ∀ {A B C : World}, St A B → St B C → St A C)
    (hds : ∀ i, i < n → ∀ d, (ops[i]?).bind (·.dst) = some d → d < a.tmps.size)
    (hstep : ∀ i o (listed : Array Bool) (a' : Act) (W : World), i < n → ops[i]? = some o → listed.size = ops.size → listed.getD i false = false →
      (∀ j oj, ops[j]? = some oj → listed.getD j false = true → ∀ e ∈ oj.after, Region.binds .any e = true → listed.getD e.on false = true) →
      G listed W → St w W → a'.defers = a.defers → a'.tmps.size = a.tmps.size →
      (∀ d, (∀ i, i < n → (ops[i]?).bind (·.dst) ≠ some d) → a'.tmps.getD d undef = a.tmps.getD d undef) →
      (∀ j, (∃ e, e ∈ o.after ∧ Region.binds .any e = true ∧ e.on = j) → listed.getD j false = true ∧ ∀ d, (ops[j]?).bind (·.dst) = some d → R j (a'.tmps.getD d undef) W) →
      ∀ K : Act → World → Prop, (∀ v W', R i v W' → St W W' → G (listed.setIfInBounds i true) W' → K (a'.put o.dst v) W') → wpOpIn F m P ops Q i K a' W)
    (hend : ∀ (listed : Array Bool) (a' : Act) (W : World), (∀ i, i < n → listed.getD i false = true) → G listed W → St w W → a'.defers = a.defers → a'.tmps.size = a.tmps.size →
      (∀ d, (∀ i, i < n → (ops[i]?).bind (·.dst) ≠ some d) → a'.tmps.getD d undef = a.tmps.getD d undef) →
      (∀ i, i < n → ∀ d, (ops[i]?).bind (·.dst) = some d → R i (a'.tmps.getD d undef) W) → wpListIn F m P ops Q (ops.toList.drop n) a' W) :
    ∀ (f : Nat) (listed : Array Bool) (a' : Act) (W : World), (unlistedOf n listed).length = f → Known ops n R St G a w listed a' W → wpAnyIn F m P .any ops Q (f + (ops.size - n)) listed a' W := by
  simp only [relB, Bool.and_eq_true, decide_eq_true_eq] at hB
  obtain ⟨⟨⟨⟨⟨hdeps, hdst⟩, hn⟩, hs⟩, hc⟩, hseq⟩ := hB
  intro f
  induction f with
  | zero =>
    intro listed a' W hf hk
    have hnone : ∀ i, i < n → listed.getD i false = true := by
      intro i hi
      cases hl : listed.getD i false with
      | true => rfl
      | false =>
        have : i ∈ unlistedOf n listed := List.mem_filter.2 ⟨List.mem_range.2 hi, by simp [hl]⟩
        rw [List.eq_nil_of_length_eq_zero hf] at this
        cases this
    have hcan : listed = Array.replicate n true ++ Array.replicate (ops.size - n) false := by
      apply Array.ext
      · simp [hk.inv.size]; omega
      · intro i h1 h2
        by_cases hi : i < n
        · have := hnone i hi
          rw [Array.getElem_append_left (by simpa using hi)]
          simpa [Array.getD_eq_getD_getElem?, h1] using this
        · have := hk.inv.tail i (by omega) (by rw [← hk.inv.size]; exact h1)
          rw [Array.getElem_append_right (by simpa using hi)]
          simpa [Array.getD_eq_getD_getElem?, h1] using this
    have hl : (ops.toList.drop n).length = ops.size - n := by simp
    rw [Nat.zero_add, ← hl]
    refine wpAnyIn_of_seq (ops.toList.drop n) n listed a' W (fun j => by simp [List.getElem?_drop]) (by rw [hl, hcan]; exact hseq) ?_
    exact hend listed a' W hnone hk.ph hk.st hk.defers hk.size hk.rest (fun i hi d hd => hk.rel i hi (hnone i hi) d hd)
  | succ f ih =>
    intro listed a' W hf hk
    have hne : unlistedOf n listed ≠ [] := fun h => by rw [h] at hf; cases hf
    obtain ⟨i0, hi0⟩ := List.exists_mem_of_ne_nil _ hne
    have hi0n : i0 < n := List.mem_range.1 (List.mem_filter.1 hi0).1
    have hi0f : listed.getD i0 false = false := by simpa using (List.mem_filter.1 hi0).2
    have hhead : ∀ i ∈ Region.ready .any ops listed, i < n := by
      intro i hi
      rcases Nat.lt_or_ge i n with h | h
      · exact h
      · exact absurd hi (tail_waits hs hc hn hk.inv (n - i0) i0 rfl hi0n (getD_in (by rw [hk.inv.size]; omega) hi0f) i h)
    have hready : Region.ready .any ops listed ≠ [] := by
      have key : ∀ m i, i ≤ m → i < n → listed.getD i false = false → ∃ j, j ∈ Region.ready .any ops listed := by
        intro m
        induction m with
        | zero =>
          intro i hi hin hl
          obtain rfl : i = 0 := by omega
          have ho : ops[0]? = some (ops[0]'(by omega)) := Array.getElem?_eq_getElem _
          exact ⟨0, mem_ready.2 ⟨getD_in (by rw [hk.inv.size]; omega) hl, _, ho, fun e he hb => absurd (depsB_spec hdeps ho he hb) (Nat.not_lt_zero _)⟩⟩
        | succ m ihm =>
          intro i hi hin hl
          have ho : ops[i]? = some (ops[i]'(by omega)) := Array.getElem?_eq_getElem _
          by_cases hall : ∀ e ∈ (ops[i]'(by omega)).after, Region.binds .any e = true → listed.getD e.on false = true
          · exact ⟨i, mem_ready.2 ⟨getD_in (by rw [hk.inv.size]; omega) hl, _, ho, hall⟩⟩
          · simp only [Classical.not_forall] at hall
            obtain ⟨e, he, hb, hnl⟩ := hall
            have hlt := depsB_spec hdeps ho he hb
            exact ihm e.on (by omega) (by omega) (by simpa using hnl)
      obtain ⟨j, hj⟩ := key i0 i0 (Nat.le_refl _) hi0n hi0f
      exact List.ne_nil_of_mem hj
    rw [show f + 1 + (ops.size - n) = (f + (ops.size - n)) + 1 by omega]
    refine ⟨fun h => absurd h hready, fun i hi => ?_⟩
    have hin := hhead i hi
    obtain ⟨hlt, o, ho, hall⟩ := mem_ready.1 hi
    have hif : listed.getD i false = false := getD_both hlt
    refine hstep i o listed a' W hin ho hk.inv.size hif hk.inv.closed hk.ph hk.st hk.defers hk.size hk.rest (fun j ⟨e, he, hb, hj⟩ => by
      subst hj
      exact ⟨hall e he hb, fun d hd => hk.rel e.on (by have := depsB_spec hdeps ho he hb; omega) (hall e he hb) d hd⟩) _ ?_
    intro v W' hv hst hg
    refine ih _ _ _ ?_ ⟨hk.inv.set hi hin, hT hk.st hst, hg, by rw [put_defers]; exact hk.defers, by rw [put_size]; exact hk.size, fun d hd => ?_, fun j hj hl d hd => ?_⟩
    · have hsz : i < listed.size := by rw [hk.inv.size]; omega
      have : (unlistedOf n (listed.setIfInBounds i true)) = (unlistedOf n listed).filter (fun j => !(j == i)) := by
        unfold unlistedOf
        rw [List.filter_filter]
        apply List.filter_congr
        intro j _
        by_cases hji : j = i
        · subst hji; rw [getD_set_eq hsz]; simp
        · rw [getD_set_oth (fun h => hji h.symm)]; simp [hji]
      rw [this]
      have hnd : (unlistedOf n listed).Nodup := List.Nodup.sublist List.filter_sublist List.nodup_range
      have hmem : i ∈ unlistedOf n listed := List.mem_filter.2 ⟨List.mem_range.2 hin, by simp [hif]⟩
      have he : (unlistedOf n listed).filter (fun j => !(j == i)) = (unlistedOf n listed).erase i := by
        rw [hnd.erase_eq_filter]; rfl
      rw [he, List.length_erase_of_mem hmem, hf]; rfl
    · have hne' : o.dst ≠ some d := by
        have := hd i hin
        rw [ho] at this
        exact this
      cases hod : o.dst with
      | none => simpa [Act.put, hod] using hk.rest d hd
      | some d' =>
        rw [put_getD_other (by rintro rfl; exact hne' hod)]
        exact hk.rest d hd
    · by_cases hji : j = i
      · subst hji
        rw [ho] at hd
        have hod : o.dst = some d := hd
        rw [hod, put_getD_same (by rw [hk.size]; exact hds j hj d (by rw [ho]; exact hod))]
        exact hv
      · rw [getD_set_oth (fun h => hji h.symm)] at hl
        have hR' := hR j _ _ _ hst (hk.rel j hj hl d hd)
        cases hod : o.dst with
        | none => simpa [Act.put, hod] using hR'
        | some d' =>
          rw [put_getD_other (by
            rintro rfl
            exact dstsB_spec hdst hin hj (fun h => hji h.symm) (by rw [ho]; exact hod) hd)]
          exact hR'

/-- the law, at a statement: the head in whatever order, the tail in its order -/
theorem wpIn_region_rel {F : Fence} {m : Nat} {P : Program} {id : Nat} {Q : Exit → Act → World → Prop} {a : Act} {w : World} {l : List Oper} (n : Nat) (R : Nat → Value → World → Prop) (St : World → World → Prop) (G : Array Bool → World → Prop) (hm : P.follows .mixedOrders = true)
    (hB : relB l.toArray n = true) (hR : ∀ i v W W', St W W' → R i v W → R i v W') (hT : ∀ {A B C : World}, St A B → St B C → St A C) (h0 : St w { w with drawn := w.drawn + 1 }) (hG : G (Array.replicate l.length false) { w with drawn := w.drawn + 1 })
    (hds : (List.range n).all (fun i => (((l.toArray[i]?).bind (·.dst)).all fun d => decide (d < a.tmps.size))) = true)
    (hstep : ∀ i o (listed : Array Bool) (a' : Act) (W : World), i < n → l[i]? = some o → listed.size = l.length → listed.getD i false = false →
      (∀ j oj, l[j]? = some oj → listed.getD j false = true → ∀ e ∈ oj.after, Region.binds .any e = true → listed.getD e.on false = true) →
      G listed W → St w W → a'.defers = a.defers → a'.tmps.size = a.tmps.size →
      (∀ d, (∀ i, i < n → (l.toArray[i]?).bind (·.dst) ≠ some d) → a'.tmps.getD d undef = a.tmps.getD d undef) →
      (∀ j, (∃ e, e ∈ o.after ∧ Region.binds .any e = true ∧ e.on = j) → listed.getD j false = true ∧ ∀ d, (l.toArray[j]?).bind (·.dst) = some d → R j (a'.tmps.getD d undef) W) →
      ∀ K : Act → World → Prop, (∀ v W', R i v W' → St W W' → G (listed.setIfInBounds i true) W' → K (a'.put o.dst v) W') → wpOpIn F m P l.toArray Q i K a' W)
    (hend : ∀ (listed : Array Bool) (a' : Act) (W : World), (∀ i, i < n → listed.getD i false = true) → G listed W → St w W → a'.defers = a.defers → a'.tmps.size = a.tmps.size →
      (∀ d, (∀ i, i < n → (l.toArray[i]?).bind (·.dst) ≠ some d) → a'.tmps.getD d undef = a.tmps.getD d undef) →
      (∀ i, i < n → ∀ d, (l.toArray[i]?).bind (·.dst) = some d → R i (a'.tmps.getD d undef) W) → wpListIn F m P l.toArray Q (l.drop n) a' W) :
    (Code.region id l.toArray true).wpIn F m P Q a w := by
  refine wpIn_region_any hm ?_
  have hn : n < l.toArray.size := by
    simp only [relB, Bool.and_eq_true, decide_eq_true_eq] at hB
    exact hB.1.1.1.2
  have hu : (unlistedOf n (Array.replicate l.toArray.size false)).length = n := by
    have : unlistedOf n (Array.replicate l.toArray.size false) = List.range n := by
      unfold unlistedOf
      rw [List.filter_eq_self]
      intro i _
      rw [getD_replicate_false]; rfl
    rw [this, List.length_range]
  have hds' : ∀ i, i < n → ∀ d, (l.toArray[i]?).bind (·.dst) = some d → d < a.tmps.size := by
    intro i hi d hd
    have := List.all_eq_true.1 hds i (List.mem_range.2 hi)
    rw [hd] at this
    simpa using this
  have H := wpAnyIn_rel (F := F) (m := m) (P := P) (ops := l.toArray) (n := n) (Q := Q) (a := a) (w := w) (R := R) (St := St) (G := G) hB hR hT hds' (fun i o listed a' W hi ho hs h1 h2 => hstep i o listed a' W hi (by simpa using ho) (by simpa using hs) h1 (fun j oj hj => h2 j oj (by simpa using hj)))
    (fun listed a' W h0 h1 h2 h3 h4 h5 h6 => by simpa using hend listed a' W h0 h1 h2 h3 h4 h5 h6) n (Array.replicate l.toArray.size false) a { w with drawn := w.drawn + 1 } hu
    ⟨⟨by simp, fun j oj _ hl => (by rw [getD_replicate_false] at hl; cases hl), fun t _ ht => getD_in (by simpa using ht) (getD_replicate_false _ _)⟩, h0, by simpa using hG, rfl, rfl, fun _ _ => rfl, fun i _ hl => by rw [getD_replicate_false] at hl; cases hl⟩
  rwa [show n + (l.toArray.size - n) = l.toArray.size by omega] at H

/-- the fence that shuts nothing out, in a round or not -/
def FW (ro : Option Nat) : Fence := { Fence.wide with round := ro }
theorem FW_none : FW none = Fence.wide := rfl
theorem callsFW {P : Program} {f : FuncId} {args : Array Value} {w : World} {R : Ending → World → Prop} (ro : Option Nat) (n : Nat) (h : Calls P f args w R) : CallsIn (FW ro) n P f args w R :=
  (callsIn_wide (n := n)).2 h
theorem callsOf {P : Program} {f : FuncId} {args : Array Value} {w : World} {R : Ending → World → Prop} {ro : Option Nat} {n : Nat} (h : CallsIn (FW ro) n P f args w R) : Calls P f args w R :=
  (callsIn_wide (n := n)).1 h
theorem rowsFW {P : Program} {row : String} {args : Array Value} {w : World} {R : Value → World → Prop} (ro : Option Nat) (n : Nat) (h : Rows P row args w R) : RowsIn (FW ro) n P row args w R :=
  fun c cs _ => let ⟨v, w', r, s⟩ := h c cs; ⟨v, w', r, stepsIn_wide.2 s⟩

theorem opIn_of_op {P : Program} {o : Oper} {a : Act} {w : World} {K : Act → World → Prop} {Q : Exit → Act → World → Prop} (ro : Option Nat) (n : Nat) (hnd : ∀ c, o.op ≠ .defer c) (h : o.wp P a w K Q) : o.wpIn (FW ro) n P a w K Q := by
  refine ⟨fun _ _ => trivial, ?_⟩
  rw [Oper.semAt_eq _ _ _ hnd]
  unfold Oper.wp at h
  generalize (execOp a.eval o).run P w = r at *
  cases r with
  | ok x w' =>
    cases x <;> simp only [Oper.upon] at h <;> simp only [Oper.uponIn]
    case value => exact h
    case skip => exact h
    case defer => exact h
    case enter => exact ⟨fun hd => (by simp [FW, Fence.wide] at hd), callsFW ro _ h⟩
    case row => exact ⟨fun hd => (by simp [FW, Fence.wide] at hd), rowsFW ro _ h⟩
  | halt x w' => cases x <;> simp only [Oper.upon] at h <;> simp only [Oper.uponIn] <;> exact h

theorem wpOpIn_of_wpOp {P : Program} {ops : Array Oper} {i : Nat} {a : Act} {w : World} {K : Act → World → Prop} {Q Q' : Exit → Act → World → Prop} (ro : Option Nat) (n : Nat) (hnd : ∀ (j : Nat) (o : Oper) c, ops[j]? = some o → o.op ≠ .defer c)
    (hq : ∀ e a w, Q e a w → Q' e a w) (hno : ∀ a w, ¬ Q .outgrown a w) (h : wpOp P ops Q i K a w) : wpOpIn (FW ro) n P ops Q' i K a w := by
  unfold wpOp at h
  unfold wpOpIn
  cases ho : ops[i]? with
  | none => simp only [ho] at h; exact h
  | some o =>
    simp only [ho] at h
    dsimp only
    split
    · rename_i hw
      simp only [hw, if_true] at h
      rcases h with h | ⟨_, a', w', hq'⟩
      · have := opIn_of_op ro n (hnd i o · ho) h
        unfold Oper.wpIn at *
        refine ⟨this.1, ?_⟩
        have h2 := this.2
        generalize (o.semAt (FW ro).round a.eval).run P w = r at *
        cases r with
        | ok x w' =>
          cases x <;> simp only [Oper.uponIn] at h2 ⊢ <;>
            first
              | exact h2
              | exact ⟨h2.1, CallsIn.mono h2.2 (fun e w'' he => by cases e <;> first | exact he | exact hq _ _ _ he | exact absurd he (fun ⟨a, w, h⟩ => hno a w h))⟩
              | exact ⟨h2.1, RowsIn.mono h2.2 (fun _ _ he => he)⟩
              | exact ⟨h2.1, RoundIn.mono h2.2 (fun e w'' he => by cases e <;> first | exact he | exact hq _ _ _ he | exact absurd he (fun ⟨a, w, h⟩ => hno a w h))⟩
        | halt x w' => cases x <;> simp only [Oper.uponIn] at h2 ⊢ <;> first | exact h2 | exact hq _ _ _ h2
      · exact absurd hq' (hno a' w')
    · rename_i hw
      simp only [hw] at h
      exact ⟨fun _ _ => trivial, h⟩

theorem wpAnyIn_of_wpAny {P : Program} {ops : Array Oper} {md : Region.Mode} {Q Q' : Exit → Act → World → Prop} (ro : Option Nat) (n : Nat) (hnd : ∀ (j : Nat) (o : Oper) c, ops[j]? = some o → o.op ≠ .defer c)
    (hq : ∀ e a w, Q e a w → Q' e a w) (hno : ∀ a w, ¬ Q .outgrown a w) : ∀ (f : Nat) (listed : Array Bool) (a : Act) (w : World), wpAny P md ops Q f listed a w → wpAnyIn (FW ro) n P md ops Q' f listed a w
  | 0, _, _, _, h => ⟨h.1, hq _ _ _ h.2⟩
  | f + 1, _, _, _, h => ⟨fun h0 => hq _ _ _ (h.1 h0), fun i hi => wpOpIn_mono (fun a' w' h' => wpAnyIn_of_wpAny ro n hnd hq hno f _ a' w' h') (wpOpIn_of_wpOp ro n hnd hq hno (h.2 i hi))⟩

def noDefer (ops : List Oper) : Bool := ops.all fun o => match o.op with | .defer _ => false | _ => true
theorem noDefer_spec {l : List Oper} (h : noDefer l = true) : ∀ (j : Nat) (o : Oper) c, l.toArray[j]? = some o → o.op ≠ .defer c := by
  intro j o c hj hop
  have hm : o ∈ l := List.mem_of_getElem? (by simpa using hj)
  have := List.all_eq_true.1 h o hm
  rw [hop] at this
  cases this

/-- 'Q', at the normal end alone -/
def onlyNormal (Q : Exit → Act → World → Prop) : Exit → Act → World → Prop
  | .normal, a, w => Q .normal a w
  | _, _, _ => False

/-- a statement whose order is open, all of whose operations read, and whose calls only lay new blocks: in a round too -/
theorem wpIn_region_quiet_xt {P : Program} {id : Nat} {Q : Exit → Act → World → Prop} {a : Act} {w : World} {l : List Oper} (ro : Option Nat) (n : Nat) (hm : P.follows .mixedOrders = true) (hB : Region.lexB .any l.toArray = true) (hnd : noDefer l = true)
    (h : wpQuiet P l.toArray (fun w' => ∃ x : Xt, w' = xt w x) (fun a' => ∀ w', (∃ x : Xt, w' = xt w x) → Q .normal a' w') l a) : (Code.region id l.toArray true).wpIn (FW ro) n P Q a w := by
  have hB' := hB
  simp only [Region.lexB, Bool.and_eq_true] at hB
  refine wpIn_region_any hm (wpAnyIn_of_wpAny (Q := onlyNormal Q) ro n (noDefer_spec hnd) (fun e a w h => by cases e <;> first | exact h | exact h.elim) (fun _ _ h => h) _ _ _ _ ?_)
  refine wpAny_of_quiet (Q' := onlyNormal Q) (C := fun w' => ∃ x : Xt, w' = xt w x) (Q := fun a' => ∀ w', (∃ x : Xt, w' = xt w x) → Q .normal a' w') (fun _ w' hw' h => h w' hw') _ _ _ _ (show ∃ x : Xt, ({ w with drawn := w.drawn + 1 } : World) = xt w x from ⟨⟨#[], w.drawn + 1⟩, by simp [xt]⟩) ?_
  have := wpAnyQ_lex (C := fun w' => ∃ x : Xt, w' = xt w x) (md := .any) hB.1 l 0 (Array.replicate l.toArray.size false) a (by simp) (by simpa using hB.2) h
  simpa using this

/-- the operations of a statement one by one: in a round as anywhere -/
theorem wpListIn_of_wpList {P : Program} {ops : List Oper} {Q : Exit → Act → World → Prop} (ro : Option Nat) (n : Nat) : ∀ (l : List Oper) (a : Act) (w : World), noDefer l = true → wpList P ops.toArray (onlyNormal Q) l a w → wpListIn (FW ro) n P ops.toArray Q l a w
  | [], _, _, _, h => h
  | o :: l, a, w, hnd, h => by
    have hnd' : (∀ c, o.op ≠ .defer c) ∧ noDefer l = true := by
      simp only [noDefer, List.all_cons, Bool.and_eq_true] at hnd
      exact ⟨fun c hc => by rw [hc] at hnd; exact absurd hnd.1 (by simp), hnd.2⟩
    simp only [wpList] at h
    simp only [wpListIn]
    split
    · rename_i hw
      simp only [hw, if_true] at h
      rcases h with h | ⟨_, a', w', hq'⟩
      · have h1 := Oper.wp_mono (fun a' w' h' => wpListIn_of_wpList ro n l a' w' hnd'.2 h') h
        have := opIn_of_op ro n hnd'.1 h1
        unfold Oper.wpIn at *
        refine ⟨this.1, ?_⟩
        have h2 := this.2
        generalize (o.semAt (FW ro).round a.eval).run P w = r at *
        cases r with
        | ok x w' =>
          cases x <;> simp only [Oper.uponIn] at h2 ⊢ <;>
            first
              | exact h2
              | exact ⟨h2.1, CallsIn.mono h2.2 (fun e w'' he => by cases e <;> first | exact he | exact he.elim | exact absurd he (fun ⟨a, w, h⟩ => h))⟩
              | exact ⟨h2.1, RowsIn.mono h2.2 (fun _ _ he => he)⟩
              | exact ⟨h2.1, RoundIn.mono h2.2 (fun e w'' he => by cases e <;> first | exact he | exact he.elim | exact absurd he (fun ⟨a, w, h⟩ => h))⟩
        | halt x w' => cases x <;> simp only [Oper.uponIn] at h2 ⊢ <;> first | exact h2 | exact h2.elim
      · exact hq'.elim
    · rename_i hw
      simp only [hw] at h
      exact ⟨fun _ _ => trivial, wpListIn_of_wpList ro n l _ w hnd'.2 h⟩
theorem opStep {P : Program} {l : List Oper} {i : Nat} {o : Oper} {a : Act} {w : World} {K : Act → World → Prop} {Q : Exit → Act → World → Prop} (ro : Option Nat) (n : Nat) (ho : l[i]? = some o) (hw : Region.wanted o (yielded l.toArray a.tmps) = true) (hnd : ∀ c, o.op ≠ .defer c) (h : o.wp P a w K Q) :
    wpOpIn (FW ro) n P l.toArray Q i K a w := by
  have ho' : l.toArray[i]? = some o := by simpa using ho
  unfold wpOpIn
  rw [ho']
  dsimp only
  rw [if_pos hw]
  exact opIn_of_op ro n hnd h
theorem opSkip {P : Program} {l : List Oper} {i : Nat} {o : Oper} {a : Act} {w : World} {K : Act → World → Prop} {Q : Exit → Act → World → Prop} (ro : Option Nat) (n : Nat) (ho : l[i]? = some o) (hw : Region.wanted o (yielded l.toArray a.tmps) = false) (h : K (a.put o.dst undef) w) :
    wpOpIn (FW ro) n P l.toArray Q i K a w := by
  have ho' : l.toArray[i]? = some o := by simpa using ho
  unfold wpOpIn
  rw [ho']
  dsimp only
  rw [if_neg (by rw [hw]; exact Bool.false_ne_true)]
  exact ⟨fun _ _ => trivial, h⟩

/-- what is known where an operation of the head is about to run -/
structure At (l : List Oper) (n : Nat) (R : Nat → Value → World → Prop) (St : World → World → Prop) (G : Array Bool → World → Prop) (a : Act) (w : World) (i : Nat) (o : Oper) (listed : Array Bool) (a' : Act) (W : World) : Prop where
  lsize : listed.size = l.length
  new : listed.getD i false = false
  closed : ∀ j oj, l[j]? = some oj → listed.getD j false = true → ∀ e ∈ oj.after, Region.binds .any e = true → listed.getD e.on false = true
  ph : G listed W
  st : St w W
  defers : a'.defers = a.defers
  size : a'.tmps.size = a.tmps.size
  rest : ∀ d, (∀ i, i < n → (l.toArray[i]?).bind (·.dst) ≠ some d) → a'.tmps.getD d undef = a.tmps.getD d undef
  dep : ∀ j, (∃ e, e ∈ o.after ∧ Region.binds .any e = true ∧ e.on = j) → listed.getD j false = true ∧ ∀ d, (l.toArray[j]?).bind (·.dst) = some d → R j (a'.tmps.getD d undef) W

/-- what is known behind the head -/
structure Done (l : List Oper) (n : Nat) (R : Nat → Value → World → Prop) (St : World → World → Prop) (G : Array Bool → World → Prop) (a : Act) (w : World) (listed : Array Bool) (a' : Act) (W : World) : Prop where
  all : ∀ i, i < n → listed.getD i false = true
  ph : G listed W
  st : St w W
  defers : a'.defers = a.defers
  size : a'.tmps.size = a.tmps.size
  rest : ∀ d, (∀ i, i < n → (l.toArray[i]?).bind (·.dst) ≠ some d) → a'.tmps.getD d undef = a.tmps.getD d undef
  dep : ∀ i, i < n → ∀ d, (l.toArray[i]?).bind (·.dst) = some d → R i (a'.tmps.getD d undef) W

def edgeB (o : Oper) (j : Nat) : Bool := o.after.any fun e => Region.binds .any e && e.on == j
def dstB (l : List Oper) (j d : Nat) : Bool := (l.toArray[j]?).bind (·.dst) == some d
def parB (l : List Oper) (n d : Nat) : Bool := (List.range n).all fun i => (l.toArray[i]?).bind (·.dst) != some d
theorem parB_spec {l : List Oper} {n d : Nat} (h : parB l n d = true) : ∀ i, i < n → (l.toArray[i]?).bind (·.dst) ≠ some d := fun i hi => by
  have := List.all_eq_true.1 h i (List.mem_range.2 hi)
  simpa using this
theorem edgeB_spec {o : Oper} {j : Nat} (h : edgeB o j = true) : ∃ e, e ∈ o.after ∧ Region.binds .any e = true ∧ e.on = j := by
  unfold edgeB at h
  rw [Array.any_eq_true'] at h
  obtain ⟨e, he, h⟩ := h
  simp only [Bool.and_eq_true, beq_iff_eq] at h
  exact ⟨e, he, h.1, h.2⟩
section
variable {l : List Oper} {n : Nat} {R : Nat → Value → World → Prop} {St : World → World → Prop} {G : Array Bool → World → Prop} {a : Act} {w : World} {i : Nat} {o : Oper} {listed : Array Bool} {a' : Act} {W : World}
theorem At.val (h : At l n R St G a w i o listed a' W) (j d : Nat) (hj : edgeB o j = true) (hd : dstB l j d = true) : R j (a'.tmps.getD d undef) W := by
  refine (h.dep j (edgeB_spec hj)).2 d ?_
  simpa [dstB] using hd
theorem At.has (h : At l n R St G a w i o listed a' W) (j : Nat) (hj : edgeB o j = true) : listed.getD j false = true := (h.dep j (edgeB_spec hj)).1
theorem At.past (h : At l n R St G a w i o listed a' W) {j : Nat} (hl : listed.getD j false = true) (k : Nat) (hj : ((l[j]?).map fun o => edgeB o k).getD false = true) : listed.getD k false = true := by
  cases ho : l[j]? with
  | none => rw [ho] at hj; cases hj
  | some oj =>
    rw [ho] at hj
    obtain ⟨e, he, hb, hk⟩ := edgeB_spec (show edgeB oj k = true from hj)
    rw [← hk]
    exact h.closed j oj ho hl e he hb
theorem At.par (h : At l n R St G a w i o listed a' W) (d : Nat) (hd : parB l n d = true) : a'.tmps.getD d undef = a.tmps.getD d undef := h.rest d (parB_spec hd)
theorem Done.val (h : Done l n R St G a w listed a' W) (j d : Nat) (hj : decide (j < n) = true) (hd : dstB l j d = true) : R j (a'.tmps.getD d undef) W := by
  refine h.dep j (of_decide_eq_true hj) d ?_
  simpa [dstB] using hd
theorem Done.par (h : Done l n R St G a w listed a' W) (d : Nat) (hd : parB l n d = true) : a'.tmps.getD d undef = a.tmps.getD d undef := h.rest d (parB_spec hd)
end
def AllI (p : Nat → Oper → Prop) : Nat → List Oper → Prop
  | _, [] => True
  | k, o :: l => p k o ∧ AllI p (k + 1) l
theorem AllI.get {p : Nat → Oper → Prop} : ∀ {l : List Oper} {k i : Nat} {o : Oper}, AllI p k l → l[i]? = some o → p (k + i) o
  | [], _, _, _, _, h => by simp at h
  | o :: l, k, 0, _, h, he => by simp at he; subst he; exact h.1
  | o :: l, k, i + 1, _, h, he => by
    have := AllI.get h.2 (i := i) (by simpa using he)
    rwa [show k + 1 + i = k + (i + 1) by omega] at this

/-- the same law, spelt operation by operation -/
theorem wpIn_region_each {F : Fence} {m : Nat} {P : Program} {id : Nat} {Q : Exit → Act → World → Prop} {a : Act} {w : World} {l : List Oper} (n : Nat) (R : Nat → Value → World → Prop) (St : World → World → Prop) (G : Array Bool → World → Prop) (hm : P.follows .mixedOrders = true)
    (hB : relB l.toArray n = true) (hR : ∀ i v W W', St W W' → R i v W → R i v W') (hT : ∀ {A B C : World}, St A B → St B C → St A C) (h0 : St w { w with drawn := w.drawn + 1 }) (hG : G (Array.replicate l.length false) { w with drawn := w.drawn + 1 })
    (hds : (List.range n).all (fun i => (((l.toArray[i]?).bind (·.dst)).all fun d => decide (d < a.tmps.size))) = true)
    (hstep : AllI (fun i o => ∀ (listed : Array Bool) (a' : Act) (W : World), At l n R St G a w i o listed a' W →
      ∀ K : Act → World → Prop, (∀ v W', R i v W' → St W W' → G (listed.setIfInBounds i true) W' → K (a'.put o.dst v) W') → wpOpIn F m P l.toArray Q i K a' W) 0 (l.take n))
    (hend : ∀ (listed : Array Bool) (a' : Act) (W : World), Done l n R St G a w listed a' W → wpListIn F m P l.toArray Q (l.drop n) a' W) :
    (Code.region id l.toArray true).wpIn F m P Q a w := by
  refine wpIn_region_rel n R St G hm hB hR hT h0 hG hds ?_ ?_
  · intro i o listed a' W hi ho h1 h2 h3 h4 h5 h6 h7 h8 h9 K hK
    have := hstep.get (i := i) (o := o) (by rw [List.getElem?_take_of_lt hi]; exact ho)
    rw [Nat.zero_add] at this
    exact this listed a' W ⟨h1, h2, h3, h4, h5, h6, h7, h8, h9⟩ K hK
  · intro listed a' W h1 h2 h3 h4 h5 h6 h7
    exact hend listed a' W ⟨h1, h2, h3, h4, h5, h6, h7⟩
theorem yielded_val {l : List Oper} {a : Act} {j d : Nat} {b : Bool} (hd : dstB l j d = true) (hv : a.tmps.getD d undef = .bool b) : yielded l.toArray a.tmps j = some b := by
  have h1 : (l.toArray[j]?).bind (·.dst) = some d := by simpa [dstB] using hd
  unfold yielded
  rw [h1]
  simp only [Option.bind_some]
  rw [Array.getD_eq_getD_getElem?] at hv
  cases ht : a.tmps[d]? with
  | none => rw [ht] at hv; cases hv
  | some v => rw [ht] at hv; simp at hv; subst hv; rfl
theorem wanted_yes {l : List Oper} {o : Oper} {a : Act} {j d : Nat} {b : Bool} (hg : o.guard = some (j, b)) (hd : dstB l j d = true) (hv : a.tmps.getD d undef = .bool b) : Region.wanted o (yielded l.toArray a.tmps) = true := by
  unfold Region.wanted
  rw [hg]
  simp only [yielded_val hd hv]
  simp
theorem wanted_no {l : List Oper} {o : Oper} {a : Act} {j d : Nat} {b b' : Bool} (hg : o.guard = some (j, b)) (hd : dstB l j d = true) (hv : a.tmps.getD d undef = .bool b') (hb : (b' == b) = false) : Region.wanted o (yielded l.toArray a.tmps) = false := by
  unfold Region.wanted
  rw [hg]
  simp only [yielded_val hd hv]
  simpa using hb
/-- a call of the loop's body -/
theorem opYield {P : Program} {l : List Oper} {i : Nat} {o : Oper} {a : Act} {W : World} {K : Act → World → Prop} {Q : Exit → Act → World → Prop} {lp : Nat} {args : Array Value} {R : Ending → World → Prop} (ho : l[i]? = some o) (hw : Region.wanted o (yielded l.toArray a.tmps) = true) (hnd : ∀ c, o.op ≠ .defer c)
    (hrun : (execOp a.eval o).run P W = (Instr.yield lp args).run P W) (hy : YieldAt (FW none) 0 P lp args W R) (hR : ∀ e W', R e W' → ∃ v, e = .returned v ∧ K (a.put o.dst v) W') : wpOpIn (FW none) 0 P l.toArray Q i K a W := by
  have ho' : l.toArray[i]? = some o := by simpa using ho
  unfold wpOpIn
  rw [ho']
  dsimp only
  rw [if_pos hw]
  refine ⟨fun _ _ => trivial, ?_⟩
  rw [Oper.semAt_eq _ _ _ hnd, hrun]
  obtain ⟨fn, tmps, assign, body, hy, hr⟩ := hy
  rw [hy]
  refine ⟨fun hd => (by simp [FW, Fence.wide] at hd), hr.mono ?_⟩
  intro e W' he
  obtain ⟨v, rfl, hk⟩ := hR e W' he
  exact hk
/-- the operations behind the head, one by one -/
theorem tail_step {F : Fence} {m : Nat} {P : Program} {l : List Oper} {o : Oper} {rest : List Oper} {a : Act} {W : World} {Q : Exit → Act → World → Prop} {i : Nat} (hi : l[i]? = some o) (h : wpOpIn F m P l.toArray Q i (wpListIn F m P l.toArray Q rest) a W) : wpListIn F m P l.toArray Q (o :: rest) a W := by
  have ho' : l.toArray[i]? = some o := by simpa using hi
  unfold wpOpIn at h
  rw [ho'] at h
  exact h
theorem opValue {P : Program} {l : List Oper} {i : Nat} {o : Oper} {a : Act} {W W' : World} {K : Act → World → Prop} {Q : Exit → Act → World → Prop} {v : Value} (ro : Option Nat) (n : Nat) (ho : l[i]? = some o) (hw : Region.wanted o (yielded l.toArray a.tmps) = true) (hnd : ∀ c, o.op ≠ .defer c)
    (hrun : (execOp a.eval o).run P W = .ok (.value v) W') (hk : K (a.put o.dst v) W') : wpOpIn (FW ro) n P l.toArray Q i K a W := by
  refine opStep ro n ho hw hnd ?_
  unfold Oper.wp
  rw [hrun]
  exact hk
/-- one operation behind the head that hands back v -/
theorem tail_val {P : Program} {l : List Oper} {o : Oper} {rest : List Oper} {a : Act} {W W' : World} {Q : Exit → Act → World → Prop} {i d : Nat} {v : Value} (ro : Option Nat) (n : Nat) (hi : l[i]? = some o) (hd : o.dst = some d) (hw : Region.wanted o (yielded l.toArray a.tmps) = true) (hnd : ∀ c, o.op ≠ .defer c)
    (hrun : (execOp a.eval o).run P W = .ok (.value v) W') (hs : d < a.tmps.size)
    (h : ∀ a' : Act, a'.tmps.size = a.tmps.size → a'.defers = a.defers → a'.tmps.getD d undef = v → (∀ d', d' ≠ d → a'.tmps.getD d' undef = a.tmps.getD d' undef) → wpListIn (FW ro) n P l.toArray Q rest a' W') : wpListIn (FW ro) n P l.toArray Q (o :: rest) a W := by
  refine tail_step hi (opValue ro n hi hw hnd hrun ?_)
  rw [hd]
  exact h _ put_size put_defers (put_getD_same hs) (fun d' hd' => put_getD_other (fun e => hd' e.symm))
/-- an activation, slot by slot -/
theorem act_eq {a : Act} {n : Nat} (hs : a.tmps.size = n) (hd : a.defers = []) : a = { tmps := ((List.range n).map fun i => a.tmps.getD i undef).toArray, defers := [] } := by
  obtain ⟨t, d⟩ := a
  simp only at hs hd
  subst hd
  congr 1
  apply Array.ext
  · simp [hs]
  · intro i h1 h2
    simp [Array.getD, h1]
/-- one operation behind the head that hands back nothing -/
theorem tail_store {P : Program} {l : List Oper} {o : Oper} {rest : List Oper} {a : Act} {W W' : World} {Q : Exit → Act → World → Prop} {i : Nat} (ro : Option Nat) (n : Nat) (hi : l[i]? = some o) (hd : o.dst = none) (hw : Region.wanted o (yielded l.toArray a.tmps) = true) (hnd : ∀ c, o.op ≠ .defer c)
    (hrun : (execOp a.eval o).run P W = .ok .skip W') (h : wpListIn (FW ro) n P l.toArray Q rest a W') : wpListIn (FW ro) n P l.toArray Q (o :: rest) a W := by
  refine tail_step hi (opStep ro n hi hw hnd ?_)
  unfold Oper.wp
  rw [hrun]
  show wpListIn (FW ro) n P l.toArray Q rest (a.put o.dst undef) W'
  rw [hd]
  exact h
end Go.Proofs.Ytoeabajigfdkaaa
/- Clone: a copy of a list of numbers, in memory of its own. -/
namespace Go.Proofs.Ytoeabajigfdkaaa
open Go.RowKit Go.Shelf

theorem int_info : (Try.prog.info? 3).map (fun i => (i.zero, i.size, i.bytes)) = some (some (.int .i64 0), 1, 8) := by kernel_rfl

/-- a result that is a list of numbers, in whatever memory -/
def GivesInts (xs : List Int) (w : World) (e : Ending) (w' : World) : Prop := ∃ A c, e = .returned (.slice A xs.length c) ∧ xs.length ≤ c ∧ c ≤ maxLen ∧ IsInts w' w'.heap.size A xs ∧ (∀ a, A = some a → w.heap.size ≤ a.block ∧ ∃ cs, Blk w' a.block 3 cs) ∧ (A = none → c = 0) ∧ Below w.heap.size w w'

theorem own_ints {w : World} {base n : Nat} {v : Value} {xs : List Int} (hn : n = xs.length) (h : w.ownsRow base 3 1 v n (xs.map (Value.int .i64))) :
    ∃ A c, v = .slice A xs.length c ∧ xs.length ≤ c ∧ c ≤ maxLen ∧ IsInts w w.heap.size A xs ∧ (∀ a, A = some a → base ≤ a.block ∧ ∃ cs, Blk w a.block 3 cs) ∧ (A = none → c = 0) := by
  subst hn
  rcases h.2 with ⟨rfl, h0⟩ | ⟨g, cap, cur, rfl, hb, hg, h1, h2, h3, h4⟩
  · have : xs = [] := List.eq_nil_of_length_eq_zero h0
    subst this
    exact ⟨none, 0, rfl, Nat.le_refl _, Nat.zero_le _, (fun k x hk => by simp at hk), (fun a e => by cases e), fun _ => rfl⟩
  · refine ⟨_, cap, rfl, h1, h2, (fun k x hk => ⟨_, rfl, (Array.getElem?_eq_some_iff.1 hg).1, ?_⟩), (fun a e => by cases e; exact ⟨hb, cur, hg⟩), fun e => by cases e⟩
    exact h.cells (g := g) rfl k _ (by simp [hk])

theorem ints_news {w : World} {n : Nat} {a : Addr} {xs : List Int} (h : IsInts w n (some a) xs) : ∀ j u, (xs.map (Value.int .i64))[j]? = some u → w.cell? (a.add j) = some u := by
  intro j u hj
  rw [List.getElem?_map] at hj
  cases hx : xs[j]? with
  | none => rw [hx] at hj; cases hj
  | some x =>
    rw [hx] at hj
    obtain ⟨a', e, _, hc⟩ := h j x hx
    injection e with e
    subst e
    simp at hj
    rw [← hj]; exact hc
theorem ints_one (xs : List Int) : ∀ u ∈ xs.map (Value.int .i64), u.oneCell' = true := by
  intro u hu
  obtain ⟨x, _, rfl⟩ := List.mem_map.1 hu
  rfl

set_option maxRecDepth 10000 in
set_option maxHeartbeats 400000 in
theorem clone_any (A : Option Addr) (c : Nat) (xs : List Int) (w : World) (h : IsInts w w.heap.size A xs) (hA : A = none → c = 0) (hl : xs.length ≤ 1000000) :
    Calls Try.prog 99 #[.slice A xs.length c] w (GivesInts xs w) := by
  obtain ⟨i0, hi0, hz0, hz1, hz2⟩ := info_parts int_info
  have heq := fun (B : Option Addr) (n k : Nat) (W : World) => Lib.run_eql_slice_nil (P := Try.prog) W 22 3 B n k 0 0 Try.underlying22
  cases A with
  | none =>
    have hx : xs = [] := by
      cases xs with
      | nil => rfl
      | cons x l => obtain ⟨a, e, _⟩ := h 0 x rfl; cases e
    subst hx
    obtain rfl := hA rfl
    go_enter Try.func99, Try.ntmps99
    go_wp2
    go_ret
    exact ⟨none, 0, rfl, Nat.le_refl _, Nat.zero_le _, (fun k x hk => by simp at hk), (fun a e => by cases e), fun _ => rfl, Below.refl _ _⟩
  | some a =>
    have hB := below_box (w := w) #[] 3
    have hnews := hid (ints_news (h.at_ hB))
    have hown : (w.alloc (.cells #[] 3)).ownsRow w.heap.size 3 1 (.slice (some ⟨w.heap.size, 0, none⟩) 0 0) 0 [] := World.ownsRow_made w #[] 0 (Nat.le_refl _) (by simp [maxLen]) rfl
    have HO := hid hown
    clear hA h hown
    go_enter Try.func99, Try.ntmps99
    go_wp2_with (at_builtin; refine wpList_append_own_at _ rfl _ _ 22 rfl w.heap.size 3 i0 (.int .i64 0) 1 8 Try.underlying22 hi0 hz0 hz1 hz2 rfl (by decide) _ 0 [] rfl HO.out a xs.length c (xs.map (Value.int .i64)) rfl (by simp) hnews.out (ints_one xs) (by simp only [maxLen]; omega) (by omega) (by simp) ?_; intro v' w1 hown' hgrow _ _)
    go_ret
    obtain ⟨A1, c1, rfl, h1, h2, h3, h4, h5⟩ := own_ints (xs := xs) (n := 0 + xs.length) (by omega) (by simpa using hown')
    exact ⟨A1, c1, rfl, h1, h2, h3, h4, h5, hB.grown hgrow (by simp) (fun k hk => by cases (show some w.heap.size = some k from hk); exact Nat.le_refl _)⟩
end Go.Proofs.Ytoeabajigfdkaaa
/- What a call may change: a relation between worlds; what an iterator over lists of numbers gives. -/
namespace Go.Proofs.Ytoeabajigfdkaaa
open Go.RowKit Go.Shelf

/-- all cells outside Z are as they were -/
structure Keep (Z : Nat → Prop) (W W' : World) : Prop where
  os : W'.os = W.os
  tape : W'.tape = W.tape
  output : W'.output = W.output
  size : W.heap.size ≤ W'.heap.size
  cells : ∀ (k : Nat) cs t fr, W.heap[k]? = some (.cells cs t fr) → ¬ Z k → W'.heap[k]? = some (.cells cs t fr)

section
variable {Z Y : Nat → Prop} {W W1 W2 : World}
theorem Keep.refl (Z : Nat → Prop) (W : World) : Keep Z W W := ⟨rfl, rfl, rfl, Nat.le_refl _, fun _ _ _ _ h _ => h⟩
theorem Keep.trans (h : Keep Z W W1) (k : Keep Z W1 W2) : Keep Z W W2 :=
  ⟨k.os.trans h.os, k.tape.trans h.tape, k.output.trans h.output, Nat.le_trans h.size k.size, fun i cs t fr hi hz => k.cells i cs t fr (h.cells i cs t fr hi hz) hz⟩
theorem Keep.mono (h : Keep Z W W1) (hz : ∀ k, Z k → Y k) : Keep Y W W1 := ⟨h.os, h.tape, h.output, h.size, fun i cs t fr hi hn => h.cells i cs t fr hi (fun hk => hn (hz i hk))⟩
theorem Keep.of_below (Z : Nat → Prop) (h : Below W.heap.size W W1) : Keep Z W W1 :=
  ⟨h.os, h.tape, h.output, h.size, fun i _ _ _ hi _ => (h.block i (Array.getElem?_eq_some_iff.1 hi).1).trans hi⟩
theorem Keep.of_grown {y : Nat} (h : W.grownBy W1 (some y)) (hy : Z y) : Keep Z W W1 :=
  ⟨h.os, h.tape, h.output, h.size, fun i _ _ _ hi hz => (h.block i (Array.getElem?_eq_some_iff.1 hi).1 (fun e => by cases e; exact hz hy)).trans hi⟩
theorem Keep.setCell (h : Keep Z W W1) {p : Addr} (hp : Z p.block) (u : Value) : Keep Z W (W1.setCell p u) :=
  h.trans ⟨rfl, rfl, rfl, by simp [World.setCell], fun i cs t fr hi hz => (Below.heap_setCell W1 p u i (fun e => hz (by rw [e]; exact hp))).trans hi⟩
theorem Keep.alloc (h : Keep Z W W1) (o : Obj) : Keep Z W (W1.alloc o) := h.trans (Keep.of_below Z ((Below.refl _ _).alloc (Nat.le_refl _) _))
theorem Keep.cell (h : Keep Z W W1) {a : Addr} {v : Value} (hc : W.cell? a = some v) (hz : ¬ Z a.block) : W1.cell? a = some v := by
  unfold World.cell? at *
  cases hb : W.heap[a.block]? with
  | none => rw [hb] at hc; cases hc
  | some o =>
    rw [hb] at hc
    cases o with
    | cells cs t fr => rw [h.cells _ _ _ _ hb hz]; exact hc
    | _ => cases hc
theorem Keep.blk (h : Keep Z W W1) {g : Nat} {t : TypeId} {cs : Array Value} (hb : Blk W g t cs) (hz : ¬ Z g) : Blk W1 g t cs := h.cells g cs t (0, 0) hb hz
theorem Keep.ints (h : Keep Z W W1) {n : Nat} {A : Option Addr} {xs : List Int} (hi : IsInts W n A xs) (hz : ∀ a, A = some a → ¬ Z a.block) : IsInts W1 n A xs := fun k x hk => by
  obtain ⟨a, e, hl, hc⟩ := hi k x hk
  exact ⟨a, e, hl, h.cell hc (by rw [block_of_add]; exact hz a e)⟩
theorem Keep.ints' (h : Keep Z W W1) {n : Nat} {A : Option Addr} {xs : List Int} (hi : IsInts W n A xs) (hz : ∀ k, Z k → n ≤ k) : IsInts W1 n A xs := fun k x hk => by
  obtain ⟨a, e, hl, hc⟩ := hi k x hk
  exact ⟨a, e, hl, h.cell hc (by rw [block_of_add]; intro hk; have := hz _ hk; omega)⟩
theorem Keep.rows (h : Keep Z W W1) {n : Nat} {A : Option Addr} {xs : List (List Int)} (hi : IsRows W n A xs) (hz : ∀ k, Z k → n ≤ k) : IsRows W1 n A xs := fun k x hk => by
  obtain ⟨a, A', c, e, hl, hc, h1, h2, h3⟩ := hi k x hk
  exact ⟨a, A', c, e, hl, h.cell hc (by rw [block_of_add]; intro hk; have := hz _ hk; omega), h1, h2, h.ints' h3 hz⟩
theorem Keep.fixes (h : Keep Z W W1) {n : Nat} {A : Option Addr} {fs : List Fx} (hi : IsFixes W n A fs) (hz : ∀ k, Z k → n ≤ k) : IsFixes W1 n A fs := fun k x hk => by
  obtain ⟨a, e, hl, h0, h1, h2⟩ := hi k x hk
  exact ⟨a, e, hl, h.cell h0 (by rw [block_of_add]; intro hk; have := hz _ hk; omega), h.cell h1 (by show ¬ Z (a.add _).block; rw [block_of_add]; intro hk; have := hz _ hk; omega), h.cell h2 (by show ¬ Z (a.add _).block; rw [block_of_add]; intro hk; have := hz _ hk; omega)⟩
end

theorem grown_of_below {W W1 : World} (h : Below W.heap.size W W1) (row : Option Nat) : W.grownBy W1 row := ⟨h.os, h.tape, h.output, h.size, fun i hi _ => h.block i hi⟩

/-- the iterator g gives these lists, one after the other, whatever the loop's body does to the cells of X -/
def SeqC (g : Nat) (lb : Array Value) (xs : List (List Int)) (X : Nat → Prop) (w0 : World) : Prop :=
  ∀ (l : Nat) (J : Nat → Nat → World → Prop) (W : World), Below w0.heap.size w0 W →
    (∀ y k W1 W2, W.heap.size ≤ y → J y k W1 → W1.grownBy W2 (some y) → J y k W2) →
    (∀ y k x A c W1, W.heap.size ≤ y → y < W1.heap.size → xs[k]? = some x → J y k W1 → IsInts W1 W1.heap.size A x → (∀ a, A = some a → a.block ≠ y ∧ W.heap.size ≤ a.block ∧ ∃ cs, Blk W1 a.block 3 cs) → x.length ≤ c → c ≤ maxLen → (A = none → c = 0) →
      YieldAt (FW none) 0 Try.prog l #[.slice A x.length c] W1 fun e W2 => e = .returned (.bool true) ∧ J y (k + 1) W2 ∧ Keep X W1 W2) →
    (∀ y, W.heap.size ≤ y → J y 0 W) →
    CallsIn (FW none) 0 Try.prog g (#[.func (.yield l) #[] #[]] ++ lb) W fun e W' => (∃ v, e = .returned v) ∧ (∃ y, W.heap.size ≤ y ∧ J y xs.length W') ∧ Keep X W W'
end Go.Proofs.Ytoeabajigfdkaaa
/- The streets of an old district: the iterator of, and a loop over it. Conditions stand at each theorem. -/
namespace Go.Proofs.Ytoeabajigfdkaaa
open Go.RowKit Go.Shelf

attribute [local go_sem] Oper.semAt_some
@[go_sem] theorem FW_round (ro : Option Nat) : (FW ro).round = ro := rfl
@[go_sem] theorem FW_depth (ro : Option Nat) : (FW ro).depth = none := rfl

theorem Keep.of_other {Z : Nat → Prop} {W W' : World} {z : Nat} (h : W.grownBy W' (some z)) (hz : ∃ o, W.heap[z]? = some o ∧ o.isCells = false) : Keep Z W W' :=
  ⟨h.os, h.tape, h.output, h.size, fun i _ _ _ hi _ => (h.block i (Array.getElem?_eq_some_iff.1 hi).1 (fun e => by
    obtain ⟨o, ho, hn⟩ := hz
    cases e
    rw [ho] at hi
    cases hi
    cases hn)).trans hi⟩
set_option maxHeartbeats 400000 in
theorem of_any (v0 v1 v2 v3 : Value) (d : Int) (w : World) : Calls Try.prog 89 #[.agg #[v0, v1, v2, v3], .int .i64 d] w fun e w' => e = .returned (.func (.func 104) #[] #[.pointer (some ⟨w.heap.size, 0, none⟩), .pointer (some ⟨w.heap.size + 1, 0, none⟩)]) ∧ Below w.heap.size w w' ∧ Blk w' w.heap.size 34 #[v0, v1, v2, v3] ∧ Blk w' (w.heap.size + 1) 3 #[.int .i64 d] := by
  have hB := then_below (below_box (w := w) #[v0, v1, v2, v3] 34) (below_box #[.int .i64 d] 3)
  have h1 := (Blk.new w 34 #[v0, v1, v2, v3]).alloc (.cells #[.int .i64 d] 3)
  have h2 := Blk.new (w.alloc (.cells #[v0, v1, v2, v3] 34)) 3 #[.int .i64 d]
  rw [World.size_alloc] at h2
  have H := hid (And.intro hB (And.intro h1 h2))
  clear hB h1 h2
  go_enter Try.func89, Try.ntmps89
  go_wp2
  go_ret
  exact ⟨rfl, H.out⟩

/-- the iterator g gives the streets of old district d, in order, whatever the loop's body does to the cells of X -/
def OfC (m : MapD) (d : Int) (g : Nat) (lb : Array Value) (X : Nat → Prop) (w0 : World) : Prop :=
  ∀ (l : Nat) (J : Nat → World → Prop) (Jx : World → Prop) (W : World), Below w0.heap.size w0 W →
    (∀ k W1 W2, J k W1 → Below W1.heap.size W1 W2 → J k W2) →
    (∀ k s W1, m.ss[k]? = some s → s.o ≠ d → J k W1 → J (k + 1) W1) →
    (∀ (k : Nat) s W1, m.ss[k]? = some s → s.o = d → J k W1 → YieldAt (FW none) 0 Try.prog l #[.int .i64 (k : Int), .agg #[.int .i64 s.o, .int .i64 s.n, .int .i64 s.wt, .int .i64 s.lo, .int .i64 s.hi]] W1 fun e W2 => (e = .returned (.bool true) ∧ J (k + 1) W2 ∧ Keep X W1 W2) ∨ (e = .returned (.bool false) ∧ Jx W2)) →
    J 0 W →
    CallsIn (FW none) 0 Try.prog g (#[.func (.yield l) #[] #[]] ++ lb) W fun e W' => (∃ v, e = .returned v) ∧ (J m.ss.length W' ∨ Jx W')

set_option maxRecDepth 100000 in
set_option maxHeartbeats 2000000 in
theorem of1_any {m : MapD} {A2 : Option Addr} {c2 : Nat} {v0 v1 v3 : Value} {d : Int} {n : Nat} {w0 : World} {Bm Bd : Nat} {X : Nat → Prop}
    (hm : Blk w0 Bm 34 #[v0, v1, .slice A2 m.ss.length c2, v3]) (hd : Blk w0 Bd 3 #[.int .i64 d]) (hn : n ≤ w0.heap.size) (hs : IsStts w0 n A2 m.ss) (hl : m.ss.length ≤ c2) (hc : c2 ≤ maxLen) (hX : ∀ k, X k → n ≤ k ∧ k ≠ Bd) :
    OfC m d 104 #[.pointer (some ⟨Bm, 0, none⟩), .pointer (some ⟨Bd, 0, none⟩)] X w0 := by
  intro l J Jx W hb hJg hsk hy hj
  unfold maxLen at hc
  have hm' := hm.keep hb
  have HD := hid (hd.keep hb)
  have HS := hid (hs.below (hb.mono hn))
  have HX := hid hX
  have HJ := hid (And.intro hJg (And.intro hsk hy))
  have HJ0 := hid hj
  obtain ⟨t0, t1, t2, t3⟩ := hm'.c4
  clear hm hd hs hX hJg hsk hy hj hb hm'
  refine callsIn_of_wp Try.func104 rfl trivial ?_ rfl
  simp only [Try.ntmps104, List.size_toArray, List.length_cons, List.length_nil, Nat.reduceAdd, Nat.reduceSub, Array.replicate_succ, Array.replicate_zero, List.push_toArray, List.append_toArray, List.nil_append, List.cons_append]
  gi_wp2
  clear t0 t1 t2 t3
  gi_loopw [9] (fun i wr => ∃ k : Nat, k ≤ m.ss.length ∧ i = .int .i64 k ∧ J k wr ∧ Keep X W wr) (fun i _ => m.ss.length - (intOf i).toNat)
  case atStart => exact ⟨0, Nat.zero_le _, rfl, HJ0.out, Keep.refl _ _⟩
  case round =>
    obtain ⟨k, hk, rfl, hJk, hkp⟩ := hrel
    have HK := hid (And.intro hJk hkp)
    clear hJk hkp
    by_cases hlt : k < m.ss.length
    · have hkI : (k : Int) < (m.ss.length : Int) := by omega
      obtain ⟨s, hs⟩ : ∃ s, m.ss[k]? = some s := ⟨_, List.getElem?_eq_getElem hlt⟩
      obtain ⟨a, rfl, hab, f0, f1, f2, f3, f4⟩ := HS.out k s hs
      have hna : ∀ (q : Nat), ¬ X (a.add q).block := fun q h => by rw [block_of_add] at h; have := HX.out _ h; omega
      replace f0 := HK.out.2.cell f0 (hna _)
      replace f1 := HK.out.2.cell f1 (hna _)
      replace f2 := HK.out.2.cell f2 (hna _)
      replace f3 := HK.out.2.cell f3 (hna _)
      replace f4 := HK.out.2.cell f4 (hna _)
      have hbd := HK.out.2.blk HD.out (fun h => (HX.out _ h).2 rfl)
      have d0 := hbd.c1
      have dl := hbd.lt
      have HSS := hid hs
      clear hna hbd hs
      by_cases hod : s.o = d
      · have hoB : (s.o == d) = true := by simp [hod]
        have HOD := hid hod
        clear hod
        have HY := hid (HJ.out.2.2 k s (wr.alloc (.cells #[.int .i64 s.o, .int .i64 s.n, .int .i64 s.wt, .int .i64 s.lo, .int .i64 s.hi] 89)) HSS.out HOD.out (HJ.out.1 k _ _ HK.out.1 (below_box _ _)))
        obtain ⟨fn, tmps, assign, body, hy, hR⟩ := HY.out
        have HR := hid hR
        clear hR HY
        gi_wp2
        refine HR.out.mono ?_
        rintro e W3 (⟨rfl, hJ3, hk3⟩ | ⟨rfl, hJx3⟩)
        · gi_wp2
          go_roundw
          case rel => exact ⟨k + 1, by omega, by go_num, hJ3, (HK.out.2.alloc _).trans hk3⟩
          case measure => first | (simp [intOf]; done) | (simp [intOf]; omega)
        · gi_wp2
          refine bodyPost_ret (results_none rfl _ _ _) rfl ?_
          exact ⟨⟨_, rfl⟩, .inr hJx3⟩
      · have hoB : (s.o == d) = false := by simp [hod]
        have HOD := hid hod
        clear hod
        gi_wp2
        refine ⟨(fun f hf => by cases hf), ?_⟩
        gi_wp2
        go_roundw
        case rel => exact ⟨k + 1, by omega, by go_num, HJ.out.1 _ _ _ (HJ.out.2.1 k s _ HSS.out HOD.out HK.out.1) (below_box _ _), HK.out.2.alloc _⟩
        case measure => first | (simp [intOf]; done) | (simp [intOf]; omega)
    · have hkI : decide ((k : Int) < (m.ss.length : Int)) = false := by simp; omega
      obtain rfl : k = m.ss.length := by omega
      gi_wp2
      go_end0
      exact ⟨⟨_, rfl⟩, .inl HK.out.1⟩

/-- how the body of a round may be left -/
def ofPost (B : Nat) (X : Nat → Prop) (I : Nat → World → Prop) (Ix : Code → World → Prop) (k : Nat) (W : World) : Exit → Act → World → Prop
  | .normal, _, W' => KeepsFrom B W W' ∧ Keep X W W' ∧ I (k + 1) W'
  | .ret, _, W' => KeepsFrom B W W' ∧ Ix .ret W'
  | .exit id, _, W' => KeepsFrom B W W' ∧ Ix (.exit id) W'
  | .goto t, _, W' => KeepsFrom B W W' ∧ Ix (.goto t) W'
  | .panic _, _, _ => False
  | .outgrown, _, _ => False
theorem keepsFrom_of_keep {B : Nat} {W W' : World} (h : Below W.heap.size W W') : KeepsFrom B W W' := ⟨h.size, fun k _ _ hk _ => (h.block k (Array.getElem?_eq_some_iff.1 hk).1).trans hk⟩
def stC (s : Stt) : Array Value := #[.int .i64 s.o, .int .i64 s.n, .int .i64 s.wt, .int .i64 s.lo, .int .i64 s.hi]
set_option maxHeartbeats 1000000 in
theorem wpIn_rangeFunc_of {g : Operand} {p q : Tmp} {assign body : Code} {Q : Exit → Act → World → Prop} {a : Act} {w : World} {gf : Nat} {lb : Array Value} (hg : a.eval g = .func (.func gf) #[] lb)
    (eg : ∀ args w, (callFunc gf args).run Try.prog w = .ok (.enter gf args) w) {m : MapD} {d : Int} {X : Nat → Prop} {w0 : World} (hseq : OfC m d gf lb X w0) (hb0 : Below w0.heap.size w0 w)
    (I : Nat → World → Prop) (Ix : Code → World → Prop) (hI : OwnFrom w.heap.size I) (hIx : ∀ c, OwnFrom w.heap.size (fun (_ : Unit) W => Ix c W)) (h0 : I 0 w)
    (hsk : ∀ k s W, m.ss[k]? = some s → s.o ≠ d → I k W → I (k + 1) W)
    (A0 : Nat → Stt → Nat → Act)
    (hassign : ∀ (l k : Nat) (s : Stt) (W : World) (K : Act → World → Prop), K (A0 k s W.heap.size) (W.alloc (.cells (stC s) 89)) →
      assign.wpIn (FW (some l)) 0 Try.prog (Exit.then K (fun _ _ _ => False)) { tmps := (a.tmps.setIfInBounds p (.int .i64 (k : Int))).setIfInBounds q (.agg #[.int .i64 s.o, .int .i64 s.n, .int .i64 s.wt, .int .i64 s.lo, .int .i64 s.hi]), defers := [] } W)
    (hbody : ∀ (l k : Nat) (s : Stt) (z : Nat) (W : World), w.heap.size ≤ l → w.heap.size ≤ z → (∃ r, W.heap[l]? = some (.loop r)) → m.ss[k]? = some s → s.o = d → I k W → Blk W z 89 (stC s) →
      body.wpIn (FW (some l)) 0 Try.prog (ofPost w.heap.size X I Ix k W) (A0 k s z) W)
    (hdone : ∀ (D : Nat) (W : World), w.heap.size ≤ D → I m.ss.length W → W.heap[D]? = some (.deferred (some [])) → Q .normal { a with defers := { target := .collected D, args := #[] } :: a.defers } W)
    (hstop : ∀ (D : Nat) (c : Code) (W : World), w.heap.size ≤ D → Ix c W → W.heap[D]? = some (.deferred (some [])) → c.wpIn (FW none) 0 Try.prog Q { a with defers := { target := .collected D, args := #[] } :: a.defers } W) :
    (Code.rangeFunc g #[p, q] assign body).wpIn (FW none) 0 Try.prog Q a w := by
  refine wpIn_rangeFunc ?_
  intro fn hfn
  obtain ⟨rec, hrec⟩ : ∃ rec : LoopState → Option Code → Loop, rec = fun st pe => { state := st, pending := pe, fn, tmps := a.tmps, params := #[p, q], assign, body, defers := w.heap.size } := ⟨_, rfl⟩
  obtain ⟨W1, hW1⟩ : ∃ W1, (w.alloc (.deferred (some []))).alloc (.loop (rec .ready none)) = W1 := ⟨_, rfl⟩
  have hL1 : W1.heap[w.heap.size + 1]? = some (.loop (rec .ready none)) := by
    rw [← hW1]; have := World.alloc_heap_new (w.alloc (.deferred (some []))) (.loop (rec .ready none)); rwa [World.size_alloc] at this
  have hK1 : W1.heap[w.heap.size]? = some (.deferred (some [])) := by
    rw [← hW1]; exact (Below.heap_alloc _ _ _ (by simp)).trans (World.alloc_heap_new w _)
  have hI1 : I 0 W1 := by rw [← hW1]; exact hI.alloc _ (hI.alloc _ h0)
  have hb1 : Below w0.heap.size w0 W1 := by
    rw [← hW1]; exact hb0.trans ((((Below.refl _ w).alloc (Nat.le_refl _) _).alloc (by simp) _).mono hb0.size)
  refine ⟨w.heap.size + 1, [{ target := .collected w.heap.size, args := #[] }], W1, { target := .fn (.func gf) lb, args := #[.func (.yield (w.heap.size + 1)) #[] #[]] }, W1, gf,
    #[.func (.yield (w.heap.size + 1)) #[] #[]] ++ lb, W1, ?_, ?_, ?_, ?_, fun h => (by simp [FW, Fence.wide] at h), ?_⟩
  · rw [← hW1, hrec]; exact run_enterLoop_outer _ _ _ _ _
  · simp only [resolve, hg]
    simp [go_sem]
  · intro f' hf'; exact trivial
  · simp [invoke, go_sem, eg]
  · refine (hseq (w.heap.size + 1)
      (fun k W => I k W ∧ W.heap[w.heap.size + 1]? = some (.loop (rec .ready none)) ∧ W.heap[w.heap.size]? = some (.deferred (some [])))
      (fun W => ∃ c, Ix c W ∧ W.heap[w.heap.size + 1]? = some (.loop (rec .done (some c))) ∧ W.heap[w.heap.size]? = some (.deferred (some [])))
      W1 hb1
      (fun k A B hs hb => ⟨hI k A B none hs.1 (grown_of_below hb none) (fun r e => by cases e), (hb.block _ (Array.getElem?_eq_some_iff.1 hs.2.1).1).trans hs.2.1, (hb.block _ (Array.getElem?_eq_some_iff.1 hs.2.2).1).trans hs.2.2⟩)
      (fun k s W hk hne hs => ⟨hsk k s W hk hne hs.1, hs.2⟩)
      ?_ ⟨hI1, hL1, hK1⟩).mono ?_
    · rintro k s W hks hod ⟨hi, hl, hk⟩
      have hlt : w.heap.size + 1 < W.heap.size := (Array.getElem?_eq_some_iff.1 hl).1
      have hy := run_yield (P := Try.prog) (args := #[.int .i64 (k : Int), .agg #[.int .i64 s.o, .int .i64 s.n, .int .i64 s.wt, .int .i64 s.lo, .int .i64 s.hi]]) hl (by rw [hrec]; rfl)
      rw [hrec] at hy
      refine ⟨fn, (a.tmps.setIfInBounds p (.int .i64 (k : Int))).setIfInBounds q (.agg #[.int .i64 s.o, .int .i64 s.n, .int .i64 s.wt, .int .i64 s.lo, .int .i64 s.hi]), assign, body, by simpa using hy, roundIn_of_wpIn hfn (hassign (w.heap.size + 1) k s W _ ?_)⟩
      clear hy
      have hba := below_box (w := W) (stC s) 89
      have hbz := Blk.new W 89 (stC s)
      have hz : w.heap.size ≤ W.heap.size := by omega
      have hkpa : Keep X W (W.alloc (.cells (stC s) 89)) := Keep.of_below X hba
      replace hl := (hba.block _ (Array.getElem?_eq_some_iff.1 hl).1).trans hl
      replace hk := (hba.block _ (Array.getElem?_eq_some_iff.1 hk).1).trans hk
      replace hi := hI.alloc (.cells (stC s) 89) hi
      have hbsz := hba.size
      obtain ⟨z, hzz⟩ : ∃ z, W.heap.size = z := ⟨_, rfl⟩
      rw [hzz] at hbz hz ⊢
      revert hkpa
      generalize W.alloc (.cells (stC s) 89) = Wa at *
      generalize W = Wb
      intro hkpa
      refine ⟨_, run_beginRound hl (by rw [hrec]), ?_⟩
      have hlt2 : w.heap.size + 1 < Wa.heap.size := (Array.getElem?_eq_some_iff.1 hl).1
      have hl2 : (Wa.putObj (w.heap.size + 1) (.loop { rec .ready none with state := .busy })).heap[w.heap.size + 1]? = some (.loop { rec .ready none with state := .busy }) := World.putObj_heap_same hlt2
      have hk2 : (Wa.putObj (w.heap.size + 1) (.loop { rec .ready none with state := .busy })).heap[w.heap.size]? = some (.deferred (some [])) := (World.putObj_heap_other (by omega)).trans hk
      have hn2 : ∃ o, Wa.heap[w.heap.size + 1]? = some o ∧ o.isCells = false := ⟨_, hl, rfl⟩
      have hkp2 : Keep X Wa (Wa.putObj (w.heap.size + 1) (.loop { rec .ready none with state := .busy })) := Keep.of_other (grownBy_putObj' Wa (w.heap.size + 1) _) hn2
      have hi2 : I k (Wa.putObj (w.heap.size + 1) (.loop { rec .ready none with state := .busy })) := hI k _ _ _ hi (grownBy_putObj' Wa (w.heap.size + 1) _) (fun r e => by cases e; exact ⟨by omega, hn2⟩)
      have hbz2 := (Keep.of_other (Z := fun _ => False) (grownBy_putObj' Wa (w.heap.size + 1) (.loop { rec .ready none with state := .busy })) hn2).blk hbz id
      refine wpIn_mono (hbody (w.heap.size + 1) k s z _ (by omega) hz ⟨_, hl2⟩ hks hod hi2 hbz2) ?_
      have fin : ∀ (jump : Option Code) (W3 : World), KeepsFrom w.heap.size (Wa.putObj (w.heap.size + 1) (.loop { rec .ready none with state := .busy })) W3 →
          (Instr.endRound (w.heap.size + 1) jump).run Try.prog W3 = .ok (.bool jump.isNone) (W3.putObj (w.heap.size + 1) (.loop (rec (if jump.isNone then .ready else .done) jump))) ∧
          W3.heap[w.heap.size + 1]? = some (.loop { rec .ready none with state := .busy }) ∧
          (W3.putObj (w.heap.size + 1) (.loop (rec (if jump.isNone then .ready else .done) jump))).heap[w.heap.size + 1]? = some (.loop (rec (if jump.isNone then .ready else .done) jump)) ∧
          (W3.putObj (w.heap.size + 1) (.loop (rec (if jump.isNone then .ready else .done) jump))).heap[w.heap.size]? = some (.deferred (some [])) := fun jump W3 hk3 => by
        have hl3 := hk3.same _ _ (by omega) hl2 rfl
        have := run_endRound (P := Try.prog) jump hl3
        rw [hrec] at this ⊢
        exact ⟨this, by rw [hrec] at hl3; exact hl3, World.putObj_heap_same (Array.getElem?_eq_some_iff.1 hl3).1, (World.putObj_heap_other (by omega)).trans (hk3.same _ _ (Nat.le_refl _) hk2 rfl)⟩
      have put : ∀ (c : Code) (W3 : World) (o' : Obj), W3.heap[w.heap.size + 1]? = some (.loop { rec .ready none with state := .busy }) → Ix c W3 → Ix c (W3.putObj (w.heap.size + 1) o') := fun c W3 o' hl3 hix =>
        hIx c () _ _ _ hix (grownBy_putObj' W3 (w.heap.size + 1) o') (fun r e => by cases e; exact ⟨by omega, _, hl3, rfl⟩)
      rintro e a3 W3 hp
      cases e with
      | normal =>
        obtain ⟨hk3, hkp3, hi3⟩ := hp
        obtain ⟨hr, hl3, hl4, hk4⟩ := fin none W3 hk3
        refine ⟨_, _, hr, .inl ⟨rfl, ⟨hI (k + 1) _ _ _ hi3 (grownBy_putObj' W3 (w.heap.size + 1) _) (fun r e => by cases e; exact ⟨by omega, _, hl3, rfl⟩), hl4, hk4⟩, ?_⟩⟩
        exact hkpa.trans (hkp2.trans (hkp3.trans (Keep.of_other (grownBy_putObj' W3 (w.heap.size + 1) _) ⟨_, hl3, rfl⟩)))
      | ret =>
        obtain ⟨hk3, hi3⟩ := hp
        obtain ⟨hr, hl3, hl4, hk4⟩ := fin (some .ret) W3 hk3
        exact ⟨_, _, hr, .inr ⟨rfl, .ret, put _ _ _ hl3 hi3, hl4, hk4⟩⟩
      | exit id =>
        obtain ⟨hk3, hi3⟩ := hp
        obtain ⟨hr, hl3, hl4, hk4⟩ := fin (some (.exit id)) W3 hk3
        exact ⟨_, _, hr, .inr ⟨rfl, .exit id, put _ _ _ hl3 hi3, hl4, hk4⟩⟩
      | goto t =>
        obtain ⟨hk3, hi3⟩ := hp
        obtain ⟨hr, hl3, hl4, hk4⟩ := fin (some (.goto t)) W3 hk3
        exact ⟨_, _, hr, .inr ⟨rfl, .goto t, put _ _ _ hl3 hi3, hl4, hk4⟩⟩
      | panic ch => exact hp.elim
      | outgrown => exact hp.elim
    · rintro e W2 ⟨⟨v, rfl⟩, (⟨hi, hl, hk⟩ | ⟨c, hi, hl, hk⟩)⟩
      · exact ⟨none, _, by have := run_endLoop (P := Try.prog) hl (by rw [hrec]; simp); rw [hrec] at this; exact this, hdone _ _ (Nat.le_refl _) (hI _ _ _ _ hi (grownBy_putObj' W2 (w.heap.size + 1) _) (fun r e => by cases e; exact ⟨by omega, _, hl, rfl⟩)) ((World.putObj_heap_other (by omega)).trans hk)⟩
      · exact ⟨some c, _, by have := run_endLoop (P := Try.prog) hl (by rw [hrec]; simp); rw [hrec] at this; exact this, hstop _ c _ (Nat.le_refl _) (hIx c () _ _ _ hi (grownBy_putObj' W2 (w.heap.size + 1) _) (fun r e => by cases e; exact ⟨by omega, _, hl, rfl⟩)) ((World.putObj_heap_other (by omega)).trans hk)⟩
end Go.Proofs.Ytoeabajigfdkaaa
/- Loops over an iterator within a loop: the marks that they leave. No condition. -/
namespace Go.Proofs.Ytoeabajigfdkaaa
open Go.RowKit Go.Shelf

def mkD (D : Nat) : Deferred := { target := .collected D, args := #[] }
structure Marks (B : Nat) (Ds : List Nat) (W : World) : Prop where
  nd : Ds.Nodup
  at_ : ∀ D ∈ Ds, B ≤ D ∧ W.heap[D]? = some (.deferred (some []))
section
variable {B : Nat} {Ds : List Nat} {W W' : World}
theorem Marks.nil (B : Nat) (W : World) : Marks B [] W := ⟨List.nodup_nil, fun D h => by simp at h⟩
theorem Marks.keep (h : Marks B Ds W) (hk : KeepsFrom B W W') : Marks B Ds W' := ⟨h.nd, fun D hD => ⟨(h.at_ D hD).1, hk.same D _ (h.at_ D hD).1 (h.at_ D hD).2 rfl⟩⟩
theorem Marks.below (h : Marks B Ds W) (hb : Below W.heap.size W W') : Marks B Ds W' := h.keep (keepsFrom_of_keep hb)
theorem Marks.cons {D : Nat} {W0 : World} (h0 : Marks B Ds W0) (h : Marks B Ds W) (hD : B ≤ D) (hD0 : W0.heap.size ≤ D) (hd : W.heap[D]? = some (.deferred (some []))) : Marks B (D :: Ds) W :=
  ⟨List.nodup_cons.2 ⟨fun hm => by
    have := (Array.getElem?_eq_some_iff.1 (h0.at_ D hm).2).1
    omega, h.nd⟩, fun D' hm => (List.mem_cons.1 hm).elim (fun e => by rw [e]; exact ⟨hD, hd⟩) (h.at_ D')⟩
end
theorem KeepsFrom.of_set {B : Nat} {W : World} (a : Addr) (v : Value) : KeepsFrom B W (W.setCell a v) := (KeepsOthers.setCell W a v).from B
/-- at the function's end the marks are taken off -/
theorem leaves_marks {fn : Func} {tmps : Array Value} {R : Ending → World → Prop} {B : Nat} : ∀ (Ds : List Nat) (W : World), Marks B Ds W →
    (∀ W', Keep (fun _ => False) W W' → Below B W W' → LeavesInM (FW none) 0 Try.prog fn tmps R [] .returning W') → LeavesInM (FW none) 0 Try.prog fn tmps R (Ds.map mkD) .returning W
  | [], W, _, h => h W (Keep.refl _ _) (Below.refl _ _)
  | D :: Ds, W, hm, h => by
    obtain ⟨hB, hd⟩ := hm.at_ D (by simp)
    have hn := (List.nodup_cons.1 hm.nd)
    have hg := grownBy_putObj' W D (.deferred none)
    have hno : ∃ o, W.heap[D]? = some o ∧ o.isCells = false := ⟨_, hd, rfl⟩
    refine ⟨by simp, .inl ⟨D, W.putObj D (.deferred none), rfl, run_takeDeferred hd, leaves_marks Ds _ ⟨hn.2, fun D' hD' => ⟨(hm.at_ D' (by simp [hD'])).1, ?_⟩⟩ fun W' hk hb => h W' ((Keep.of_other hg hno).trans hk) ?_⟩⟩
    · exact (World.putObj_heap_other (fun e => hn.1 (by rw [← e]; exact hD'))).trans (hm.at_ D' (by simp [hD'])).2
    · refine Below.trans ⟨hg.os, hg.tape, hg.output, hg.size, fun k hk => World.putObj_heap_other (by omega)⟩ hb
/-- what lay is as it lay, but for the blocks of Z -/
structure Chg (Z : Nat → Prop) (W W' : World) : Prop where
  os : W'.os = W.os
  tape : W'.tape = W.tape
  output : W'.output = W.output
  size : W.heap.size ≤ W'.heap.size
  block : ∀ k, k < W.heap.size → ¬ Z k → W'.heap[k]? = W.heap[k]?
section
variable {Z Y : Nat → Prop} {A B D : World}
theorem Chg.refl : Chg Z A A := ⟨rfl, rfl, rfl, Nat.le_refl _, fun _ _ _ => rfl⟩
theorem Chg.trans (h : Chg Z A B) (k : Chg Z B D) : Chg Z A D := ⟨k.os.trans h.os, k.tape.trans h.tape, k.output.trans h.output, Nat.le_trans h.size k.size, fun i hi hn => (k.block i (Nat.lt_of_lt_of_le hi h.size) hn).trans (h.block i hi hn)⟩
theorem Chg.of_below (h : Below A.heap.size A B) : Chg Z A B := ⟨h.os, h.tape, h.output, h.size, fun k hk _ => h.block k hk⟩
theorem Chg.of_grown {row : Option Nat} (h : A.grownBy B row) (hz : ∀ k, row = some k → Z k) : Chg Z A B := ⟨h.os, h.tape, h.output, h.size, fun k hk hn => h.block k hk (fun e => hn (hz k e.symm))⟩
theorem Chg.more {z : Nat} (h : Chg Z A B) (k : B.grownBy D (some z)) (hz : A.heap.size ≤ z) : Chg Z A D :=
  ⟨k.os.trans h.os, k.tape.trans h.tape, k.output.trans h.output, Nat.le_trans h.size k.size, fun i hi hn => (k.block i (Nat.lt_of_lt_of_le hi h.size) (fun e => by cases e; omega)).trans (h.block i hi hn)⟩
theorem Chg.sub (h : Chg Z A B) (hz : ∀ q, Z q → Y q) : Chg Y A B := ⟨h.os, h.tape, h.output, h.size, fun k hk hn => h.block k hk (fun e => hn (hz k e))⟩
theorem Chg.keep (h : Chg Z A B) : Keep Z A B := ⟨h.os, h.tape, h.output, h.size, fun i _ _ _ hi hz => (h.block i (Array.getElem?_eq_some_iff.1 hi).1 hz).trans hi⟩
theorem Chg.set (h : Chg Z A B) {g o : Nat} (hz : Z g) (v : Value) : Chg Z A (B.setCell ⟨g, o, none⟩ v) :=
  h.trans ⟨rfl, rfl, rfl, by simp [World.setCell], fun k _ hn => Below.heap_setCell B ⟨g, o, none⟩ v k (fun e => hn (by rw [e]; exact hz))⟩
theorem Chg.below {n : Nat} (h : Chg Z A B) (hZ : ∀ k, Z k → n ≤ k) (hn : n ≤ A.heap.size) : Below n A B := ⟨h.os, h.tape, h.output, h.size, fun k hk => h.block k (by omega) (fun e => by have := hZ k e; omega)⟩
theorem Chg.blk {g t : Nat} {cs : Array Value} (h : Chg Z A B) (hb : Blk A g t cs) (hz : ¬ Z g) : Blk B g t cs := (h.block g hb.lt hz).trans hb
end
theorem chg_own {β : Type} {Z : Nat → Prop} {A : World} {B : Nat} (h : A.heap.size ≤ B) : OwnFrom B (fun (_ : β) W => Chg Z A W) := fun s W W' row hs hg hr =>
  ⟨hg.os.trans hs.os, hg.tape.trans hs.tape, hg.output.trans hs.output, Nat.le_trans hs.size hg.size, fun k hk hn => (hg.block k (Nat.lt_of_lt_of_le hk hs.size) (fun e => by have := (hr k e.symm).1; omega)).trans (hs.block k hk hn)⟩
theorem blk_own {β : Type} (B g t : Nat) (f : β → Array Value) : OwnFrom B (fun (s : β) W => Blk W g t (f s)) := fun s W W' row hs hg hr =>
  (hg.block g hs.lt (fun e => by
    obtain ⟨_, o, ho, hc⟩ := hr g e.symm
    rw [show W.heap[g]? = _ from hs] at ho
    cases ho; cases hc)).trans hs
theorem Marks.chg {B : Nat} {Ds : List Nat} {Z : Nat → Prop} {A W : World} (h : Marks B Ds A) (hc : Chg Z A W) (hz : ∀ D ∈ Ds, ¬ Z D) : Marks B Ds W :=
  ⟨h.nd, fun D hD => ⟨(h.at_ D hD).1, (hc.block D (Array.getElem?_eq_some_iff.1 (h.at_ D hD).2).1 (hz D hD)).trans (h.at_ D hD).2⟩⟩
theorem Marks.ne {B g t : Nat} {Ds : List Nat} {A : World} {cs : Array Value} (h : Marks B Ds A) (hb : Blk A g t cs) : ∀ D ∈ Ds, D ≠ g := fun D hD e => by
  have := (h.at_ D hD).2
  rw [e, show A.heap[g]? = _ from hb] at this
  cases this
end Go.Proofs.Ytoeabajigfdkaaa
/- Whether each old district has a street with a weight. Conditions stand at the theorem. -/
namespace Go.Proofs.Ytoeabajigfdkaaa
open Go.RowKit Go.Shelf

attribute [local go_sem] Oper.semAt_some

set_option maxRecDepth 100000 in
set_option maxHeartbeats 2000000 in
theorem weighed_any (m : MapD) (A : Option Addr) (c : Nat) (A2 : Option Addr) (c2 : Nat) (A3 : Option Addr) (c3 : Nat) (w : World) (h : MIn m A c A2 c2 A3 c3 w) (h8 : m.ss.length ≤ 8) (hw : ∀ s ∈ m.ss, 0 ≤ s.wt ∧ s.wt ≤ 1000) :
    Calls Try.prog 61 #[.agg #[.slice A m.old.length c, .int .i64 m.nw, .slice A2 m.ss.length c2, .slice A3 m.js.length c3]] w fun e w' => e = .returned (.bool ((List.range m.old.length).all (wghOk m))) ∧ Below w.heap.size w w' := by
  have hm1 := h.m1
  have hl1 := h.l1
  unfold maxLen at hm1
  have hB := below_box (w := w) #[.slice A m.old.length c, .int .i64 m.nw, .slice A2 m.ss.length c2, .slice A3 m.js.length c3] 34
  have hT := Blk.new w 34 #[.slice A m.old.length c, .int .i64 m.nw, .slice A2 m.ss.length c2, .slice A3 m.js.length c3]
  obtain ⟨t0, t1, t2, t3⟩ := hT.c4
  have HB := hid hB
  have HT := hid hT
  have HH := hid h
  have HW := hid (show ∀ i, i < m.ss.length → 0 ≤ (m.S i).wt ∧ (m.S i).wt ≤ 1000 from fun i hi => by
    rw [MapD.S_eq (List.getElem?_eq_getElem hi)]
    exact hw _ (List.getElem_mem hi))
  clear h hB hT hw
  refine callsOf (ro := none) (n := 0) ?_
  refine callsIn_of_wp_marks Try.func61 rfl trivial ?_ rfl
  refine wpIn_wide.2 ?_
  simp only [Try.ntmps61, List.size_toArray, List.length_cons, List.length_nil, Nat.reduceAdd, Nat.reduceSub, Array.replicate_succ, Array.replicate_zero, List.push_toArray, List.append_toArray, List.nil_append, List.cons_append]
  go_wp2
  clear t0 t1 t2 t3
  refine wp_loop (fun a W => ∃ (k : Nat) (Ds : List Nat) (u2 u3 u4 u6 u11 u12 u13 u14 u15 u18 u19 u20 u21 u22 u23 u24 : Value), (k ≤ m.old.length ∧ (∀ d, d < k → wghOk m d = true) ∧ Below w.heap.size w W ∧ Blk W w.heap.size 34 #[.slice A m.old.length c, .int .i64 m.nw, .slice A2 m.ss.length c2, .slice A3 m.js.length c3] ∧ Marks w.heap.size Ds W) ∧ a = { tmps := #[.agg #[.slice A m.old.length c, .int .i64 m.nw, .slice A2 m.ss.length c2, .slice A3 m.js.length c3], .pointer (some ⟨w.heap.size, 0, none⟩), u2, u3, u4, undef, u6, .pointer (some ⟨w.heap.size, 0, none⟩), .slice A m.old.length c, .int .i64 (m.old.length : Int), .int .i64 (k : Int), u11, u12, u13, u14, u15, undef, undef, u18, u19, u20, u21, u22, u23, u24], defers := Ds.map mkD }) (fun a _ => m.old.length - (intOf (a.tmps.getD 10 undef)).toNat) ?_ ?_
  · refine ⟨0, [], ?_⟩
    (repeat apply Exists.intro)
    exact ⟨⟨Nat.zero_le _, fun d hd => by omega, HB.out, HT.out, Marks.nil _ _⟩, rfl⟩
  rintro _ wr ⟨k, Ds, u2, u3, u4, u6, u11, u12, u13, u14, u15, u18, u19, u20, u21, u22, u23, u24, ⟨hk, hok, hbr, hbm, hmk⟩, rfl⟩
  have HR := hid (And.intro hok (And.intro hbr (And.intro hbm hmk)))
  obtain ⟨t0, t1, t2, t3⟩ := hbm.c4
  have bl := hbm.lt
  clear hok hbr hbm hmk
  by_cases hlt : k < m.old.length
  · have hkI : (k : Int) < (m.old.length : Int) := by omega
    go_wp2_with fail
    refine (of_any _ _ _ _ _ _).mono ?_
    rintro e w2 ⟨rfl, h1, h2, h3⟩
    have hB4 := Blk.new wr 3 #[.int .i64 0]
    have hbw : Below wr.heap.size wr w2 := then_below (below_box _ _) h1
    have H2 := hid (And.intro h2 (And.intro h3 (And.intro (hB4.keep h1) hbw)))
    have hss : (wr.alloc (.cells #[.int .i64 0] 3)).heap.size = wr.heap.size + 1 := World.size_alloc ..
    rw [hss] at H2
    clear h1 h2 h3 hB4 hbw t0 t1 t2 t3 hss
    go_wp2
    refine (wpIn_wide (n := 0)).1 ?_
    refine wpIn_rangeFunc_of (m := m) (d := (k : Int)) (X := fun q => q = wr.heap.size) rfl (enters_of Try.func104 (by kernel_rfl) rfl)
      (of1_any H2.out.1 H2.out.2.1 (n := w.heap.size) (Nat.le_trans HR.out.2.1.size H2.out.2.2.2.size) (HH.out.is.below (HR.out.2.1.trans (H2.out.2.2.2.mono HR.out.2.1.size))) HH.out.l2 HH.out.m2 (fun q e => ⟨by rw [e]; exact HR.out.2.1.size, by omega⟩)) (Below.refl _ _)
      (fun j W => Blk W wr.heap.size 3 #[.int .i64 (sumO m k tt Stt.wt j)] ∧ Chg (fun q => q = wr.heap.size) w2 W) (fun _ _ => False)
      (OwnFrom.and (blk_own _ _ _ _) (chg_own (Nat.le_refl _))) (fun c s W W' row hs _ _ => hs) ⟨H2.out.2.2.1, Chg.refl⟩
      (fun j s W hs hne hi => ⟨by rw [sumO_skip hs hne]; exact hi.1, hi.2⟩)
      (fun j s z => { tmps := #[.agg #[.slice A m.old.length c, .int .i64 m.nw, .slice A2 m.ss.length c2, .slice A3 m.js.length c3], .pointer (some ⟨w.heap.size, 0, none⟩), u2, .int .i64 (k : Int), .pointer (some ⟨wr.heap.size, 0, none⟩), undef, .pointer (some ⟨z, 0, none⟩), .pointer (some ⟨w.heap.size, 0, none⟩), .slice A m.old.length c, .int .i64 (m.old.length : Int), .int .i64 (k : Int), .bool true, .int .i64 (k : Int), .agg #[.slice A m.old.length c, .int .i64 m.nw, .slice A2 m.ss.length c2, .slice A3 m.js.length c3], .int .i64 (k : Int), .func (.func 104) #[] #[.pointer (some ⟨wr.heap.size + 1, 0, none⟩), .pointer (some ⟨wr.heap.size + 1 + 1, 0, none⟩)], .int .i64 (j : Int), .agg #[.int .i64 s.o, .int .i64 s.n, .int .i64 s.wt, .int .i64 s.lo, .int .i64 s.hi], u18, u19, u20, u21, u22, u23, u24], defers := [] }) ?assign ?body ?done ?stop
    case assign =>
      intro l j s W K hK
      gi_wp2
      exact hK
    case body =>
      rintro l j s z W hl hz hlp hs hod ⟨hb4, hch⟩ hbz
      have hjl := (List.getElem?_eq_some_iff.1 hs).1
      obtain ⟨b1, b2⟩ := sumO_bounds (m := m) (g := Stt.wt) (M := 1000) (by omega) k tt j (fun i hi => HW.out i (by omega))
      have hsw := HW.out j hjl
      rw [MapD.S_eq hs] at hsw
      have HT := hid (sumO_take (m := m) (d := k) (p := tt) (g := Stt.wt) hs hod rfl)
      have HI := hid (And.intro hb4 hch)
      unfold stC at hbz
      obtain ⟨z0, z1, z2, z3, z4⟩ := hbz.c5
      have y0 := hb4.c1
      have yf := hb4.frozen 0
      have yl := hb4.lt
      generalize sumO m k tt Stt.wt j = S at *
      clear hlp hs hod hb4 hch hbz
      gi_wp2
      refine ⟨KeepsFrom.of_set _ _, (Chg.refl.set (Z := fun q => q = wr.heap.size) rfl _).keep, ?_, HI.out.2.set rfl _⟩
      rw [HT.out]
      exact HI.out.1.set_ 0 _
    case done =>
      rintro D W hD ⟨hb4, hch⟩ hdf
      have hbw : Below w.heap.size w W := (HR.out.2.1.trans (H2.out.2.2.2.mono HR.out.2.1.size)).trans (hch.below (fun q e => by rw [e]; exact HR.out.2.1.size) (Nat.le_trans HR.out.2.1.size H2.out.2.2.2.size))
      have hm2 := HR.out.2.2.2.below H2.out.2.2.2
      have hm3 := hm2.chg hch (fun D' hD' => hm2.ne H2.out.2.2.1 D' hD')
      have HM := hid (Marks.cons hm2 hm3 (by have := HR.out.2.1.size; have := H2.out.2.2.2.size; omega) hD hdf)
      have HBM := hid (hch.blk (HR.out.2.2.1.keep H2.out.2.2.2) (fun e => by have := HR.out.2.2.1.lt; omega))
      have HBW := hid hbw
      have y0 := hb4.c1
      have HWK := hid (show wghOk m k = !(sumO m k tt Stt.wt m.ss.length == 0) from rfl)
      clear hb4 hch hdf hbw hm2 hm3
      cases hz : (sumO m k tt Stt.wt m.ss.length == 0)
      · have HOK := hid (show wghOk m k = true by rw [HWK.out, hz]; rfl)
        generalize sumO m k tt Stt.wt m.ss.length = S at *
        go_wp2
        refine ⟨⟨k + 1, D :: Ds, ?_⟩, ?measure⟩
        · (repeat apply Exists.intro)
          exact ⟨⟨by omega, fun d hd => by
            by_cases e : d = k
            · rw [e]; exact HOK.out
            · exact HR.out.1 d (by omega), HBW.out, HBM.out, HM.out⟩, by go_num⟩
        case measure => first | (simp [intOf]; done) | (simp [intOf]; omega)
      · have HOK := hid (show (List.range m.old.length).all (wghOk m) = false by
          rw [List.all_eq_false]
          exact ⟨k, List.mem_range.2 hlt, by rw [HWK.out, hz]; decide⟩)
        generalize sumO m k tt Stt.wt m.ss.length = S at *
        go_wp2
        refine leaves_marks (B := w.heap.size) (D :: Ds) _ HM.out (fun W' hk hb => ?_)
        exact ⟨.bool false, results_tmp Try.results61 _ _ _, by rw [HOK.out], HBW.out.trans hb⟩
    case stop =>
      rintro D c W _ h _
      exact h.elim
  · have hkI : decide ((k : Int) < (m.old.length : Int)) = false := by simp; omega
    obtain rfl : k = m.old.length := by omega
    go_wp2
    refine leaves_marks (B := w.heap.size) Ds _ HR.out.2.2.2 (fun W' hk hb => ?_)
    exact ⟨.bool true, results_tmp Try.results61 _ _ _, by
      rw [show (List.range m.old.length).all (wghOk m) = true from List.all_eq_true.2 fun d hd => HR.out.1 d (List.mem_range.1 hd)], HR.out.2.1.trans hb⟩
end Go.Proofs.Ytoeabajigfdkaaa
