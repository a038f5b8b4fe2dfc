/- The walks and the plain laws of this part of the program, part 2: what each computes. Conditions stand at each theorem. -/
import Derived.StillTail
import Derived.OrdersIn
import Derived.TacticsIn
import Derived.RangeFuncNested
import Derived.RangeFuncCalls
import Derived.Maps.AppendAt
import Derived.Deep.AppendLies
import Derived.Test.YtlnamjhgbdacbaaGreatG1
/- A law for a statement whose order is open, where calls hand back values that are known only by what they are good for: one walk of each operation, in whatever order. -/
namespace Go.Proofs.YtlnamjhgbdacbaaGreat
open Go.RowKit

def depsB (ops : Array Oper) : Bool := (List.range ops.size).all fun i => ((ops[i]?).map fun o => o.after.all fun e => !Region.binds .any e || decide (e.on < i)).getD true
def dstsB (ops : Array Oper) (n : Nat) : Bool := (List.range n).all fun i => (List.range n).all fun j => decide (i = j) || ((ops[i]?).bind (·.dst)).all fun d => ((ops[j]?).bind (·.dst)) != some d
/-- the order of the head is open, the tail's is not -/
def relB (ops : Array Oper) (n : Nat) : Bool :=
  depsB ops && dstsB ops n && decide (n < ops.size) && Region.sinkB .any ops n && Region.chainB .any ops n &&
  Region.seqB .any ops (ops.size - n) n (Array.replicate n true ++ Array.replicate (ops.size - n) false)

theorem put_getD_same {a : Act} {d : Tmp} {v : Value} (h : d < a.tmps.size) : (a.put (some d) v).tmps.getD d undef = v := by
  simp [Act.put, Array.getD, h]
theorem put_getD_other {a : Act} {d d' : Tmp} {v : Value} (h : d ≠ d') : (a.put (some d) v).tmps.getD d' undef = a.tmps.getD d' undef := by
  simp [Act.put, Array.getD_eq_getD_getElem?, Array.getElem?_setIfInBounds_ne h]
theorem put_size {a : Act} {d : Option Tmp} {v : Value} : (a.put d v).tmps.size = a.tmps.size := by
  cases d <;> simp [Act.put]
theorem put_defers {a : Act} {d : Option Tmp} {v : Value} : (a.put d v).defers = a.defers := by
  cases d <;> simp [Act.put]

/-- what is known when some operations of the head are over -/
structure Known (ops : Array Oper) (n : Nat) (R : Nat → Value → World → Prop) (St : World → World → Prop) (G : Array Bool → World → Prop) (a : Act) (w : World) (listed : Array Bool) (a' : Act) (W : World) : Prop where
  inv : HeadInv .any ops n listed
  st : St w W
  ph : G listed W
  defers : a'.defers = a.defers
  size : a'.tmps.size = a.tmps.size
  rest : ∀ d, (∀ i, i < n → (ops[i]?).bind (·.dst) ≠ some d) → a'.tmps.getD d undef = a.tmps.getD d undef
  rel : ∀ i, i < n → listed.getD i false = true → ∀ d, (ops[i]?).bind (·.dst) = some d → R i (a'.tmps.getD d undef) W

def unlistedOf (n : Nat) (listed : Array Bool) : List Nat := (List.range n).filter fun i => !listed.getD i false
theorem depsB_spec {ops : Array Oper} (h : depsB ops = true) {i : Nat} {o : Oper} (ho : ops[i]? = some o) {e : Edge} (he : e ∈ o.after) (hb : Region.binds .any e = true) : e.on < i := by
  have hi : i < ops.size := (Array.getElem?_eq_some_iff.1 ho).1
  have h1 := List.all_eq_true.1 h i (List.mem_range.2 hi)
  rw [ho] at h1
  simp only [Option.map_some, Option.getD_some] at h1
  have h2 := Array.all_eq_true'.1 h1 e he
  simpa [hb] using h2
theorem dstsB_spec {ops : Array Oper} {n : Nat} (h : dstsB ops n = true) {i j : Nat} (hi : i < n) (hj : j < n) (hij : i ≠ j) {d : Tmp} (hd : (ops[i]?).bind (·.dst) = some d) : (ops[j]?).bind (·.dst) ≠ some d := by
  have h1 := List.all_eq_true.1 (List.all_eq_true.1 h i (List.mem_range.2 hi)) j (List.mem_range.2 hj)
  rw [hd] at h1
  simpa [hij] using h1

theorem getD_set_eq {l : Array Bool} {i : Nat} (h : i < l.size) : (l.setIfInBounds i true).getD i false = true := by
  simp [Array.getD_eq_getD_getElem?, h]
theorem getD_set_oth {l : Array Bool} {i j : Nat} (h : i ≠ j) : (l.setIfInBounds i true).getD j false = l.getD j false := by
  simp [Array.getD_eq_getD_getElem?, Array.getElem?_setIfInBounds_ne h]

theorem wpAnyIn_of_seq {F : Fence} {m : Nat} {P : Program} {ops : Array Oper} {md : Region.Mode} {Q' : Exit → Act → World → Prop} : ∀ (l : List Oper) (k : Nat) (listed : Array Bool) (a : Act) (w : World), (∀ j, l[j]? = ops[k + j]?) →
    Region.seqB md ops l.length k listed = true → wpListIn F m P ops Q' l a w → wpAnyIn F m P md ops Q' l.length listed a w
  | [], _, _, _, _, _, hB, h => ⟨by simpa [Region.seqB] using hB, h⟩
  | o :: l, k, listed, a, w, hl, hB, h => by
    have h0 : ops[k]? = some o := by simpa using (hl 0).symm
    simp only [List.length_cons, Region.seqB, Bool.and_eq_true, decide_eq_true_eq] at hB
    refine ⟨fun h1 => (by rw [hB.1] at h1; cases h1), fun i hi => ?_⟩
    rw [hB.1] at hi
    have hik : i = k := by simpa using hi
    subst hik
    have hw : wpOpIn F m P ops Q' i (wpListIn F m P ops Q' l) a w := by unfold wpOpIn; simp only [h0]; exact h
    exact wpOpIn_mono (fun a' w' h' => wpAnyIn_of_seq l (i + 1) _ a' w' (fun j => by have := hl (j + 1); simpa [Nat.add_assoc, Nat.add_comm 1 j] using this) hB.2 h') hw

theorem wpAnyIn_rel {F : Fence} {m : Nat} {P : Program} {ops : Array Oper} {n : Nat} {Q : Exit → Act → World → Prop} {a : Act} {w : World} {R : Nat → Value → World → Prop} {St : World → World → Prop} {G : Array Bool → World → Prop}
    (hB : relB ops n = true) (hR : ∀ i v W W', St W W' → R i v W → R i v W') (hT : ∀ {A B C : World}, St A B → St B C → St A C)
    (hds : ∀ i, i < n → ∀ d, (ops[i]?).bind (·.dst) = some d → d < a.tmps.size)
    (hstep : ∀ i o (listed : Array Bool) (a' : Act) (W : World), i < n → ops[i]? = some o → listed.size = ops.size → listed.getD i false = false →
      (∀ j oj, ops[j]? = some oj → listed.getD j false = true → ∀ e ∈ oj.after, Region.binds .any e = true → listed.getD e.on false = true) →
      G listed W → St w W → a'.defers = a.defers → a'.tmps.size = a.tmps.size →
      (∀ d, (∀ i, i < n → (ops[i]?).bind (·.dst) ≠ some d) → a'.tmps.getD d undef = a.tmps.getD d undef) →
      (∀ j, (∃ e, e ∈ o.after ∧ Region.binds .any e = true ∧ e.on = j) → listed.getD j false = true ∧ ∀ d, (ops[j]?).bind (·.dst) = some d → R j (a'.tmps.getD d undef) W) →
      ∀ K : Act → World → Prop, (∀ v W', R i v W' → St W W' → G (listed.setIfInBounds i true) W' → K (a'.put o.dst v) W') → wpOpIn F m P ops Q i K a' W)
    (hend : ∀ (listed : Array Bool) (a' : Act) (W : World), (∀ i, i < n → listed.getD i false = true) → G listed W → St w W → a'.defers = a.defers → a'.tmps.size = a.tmps.size →
      (∀ d, (∀ i, i < n → (ops[i]?).bind (·.dst) ≠ some d) → a'.tmps.getD d undef = a.tmps.getD d undef) →
      (∀ i, i < n → ∀ d, (ops[i]?).bind (·.dst) = some d → R i (a'.tmps.getD d undef) W) → wpListIn F m P ops Q (ops.toList.drop n) a' W) :
    ∀ (f : Nat) (listed : Array Bool) (a' : Act) (W : World), (unlistedOf n listed).length = f → Known ops n R St G a w listed a' W → wpAnyIn F m P .any ops Q (f + (ops.size - n)) listed a' W := by
  simp only [relB, Bool.and_eq_true, decide_eq_true_eq] at hB
  obtain ⟨⟨⟨⟨⟨hdeps, hdst⟩, hn⟩, hs⟩, hc⟩, hseq⟩ := hB
  intro f
  induction f with
  | zero =>
    intro listed a' W hf hk
    have hnone : ∀ i, i < n → listed.getD i false = true := by
      intro i hi
      cases hl : listed.getD i false with
      | true => rfl
      | false =>
        have : i ∈ unlistedOf n listed := List.mem_filter.2 ⟨List.mem_range.2 hi, by simp [hl]⟩
        rw [List.eq_nil_of_length_eq_zero hf] at this
        cases this
    have hcan : listed = Array.replicate n true ++ Array.replicate (ops.size - n) false := by
      apply Array.ext
      · simp [hk.inv.size]; omega
      · intro i h1 h2
        by_cases hi : i < n
        · have := hnone i hi
          rw [Array.getElem_append_left (by simpa using hi)]
          simpa [Array.getD_eq_getD_getElem?, h1] using this
        · have := hk.inv.tail i (by omega) (by rw [← hk.inv.size]; exact h1)
          rw [Array.getElem_append_right (by simpa using hi)]
          simpa [Array.getD_eq_getD_getElem?, h1] using this
    have hl : (ops.toList.drop n).length = ops.size - n := by simp
    rw [Nat.zero_add, ← hl]
    refine wpAnyIn_of_seq (ops.toList.drop n) n listed a' W (fun j => by simp [List.getElem?_drop]) (by rw [hl, hcan]; exact hseq) ?_
    exact hend listed a' W hnone hk.ph hk.st hk.defers hk.size hk.rest (fun i hi d hd => hk.rel i hi (hnone i hi) d hd)
  | succ f ih =>
    intro listed a' W hf hk
    have hne : unlistedOf n listed ≠ [] := fun h => by rw [h] at hf; cases hf
    obtain ⟨i0, hi0⟩ := List.exists_mem_of_ne_nil _ hne
    have hi0n : i0 < n := List.mem_range.1 (List.mem_filter.1 hi0).1
    have hi0f : listed.getD i0 false = false := by simpa using (List.mem_filter.1 hi0).2
    have hhead : ∀ i ∈ Region.ready .any ops listed, i < n := by
      intro i hi
      rcases Nat.lt_or_ge i n with h | h
      · exact h
      · exact absurd hi (tail_waits hs hc hn hk.inv (n - i0) i0 rfl hi0n (getD_in (by rw [hk.inv.size]; omega) hi0f) i h)
    have hready : Region.ready .any ops listed ≠ [] := by
      have key : ∀ m i, i ≤ m → i < n → listed.getD i false = false → ∃ j, j ∈ Region.ready .any ops listed := by
        intro m
        induction m with
        | zero =>
          intro i hi hin hl
          obtain rfl : i = 0 := by omega
          have ho : ops[0]? = some (ops[0]'(by omega)) := Array.getElem?_eq_getElem _
          exact ⟨0, mem_ready.2 ⟨getD_in (by rw [hk.inv.size]; omega) hl, _, ho, fun e he hb => absurd (depsB_spec hdeps ho he hb) (Nat.not_lt_zero _)⟩⟩
        | succ m ihm =>
          intro i hi hin hl
          have ho : ops[i]? = some (ops[i]'(by omega)) := Array.getElem?_eq_getElem _
          by_cases hall : ∀ e ∈ (ops[i]'(by omega)).after, Region.binds .any e = true → listed.getD e.on false = true
          · exact ⟨i, mem_ready.2 ⟨getD_in (by rw [hk.inv.size]; omega) hl, _, ho, hall⟩⟩
          · simp only [Classical.not_forall] at hall
            obtain ⟨e, he, hb, hnl⟩ := hall
            have hlt := depsB_spec hdeps ho he hb
            exact ihm e.on (by omega) (by omega) (by simpa using hnl)
      obtain ⟨j, hj⟩ := key i0 i0 (Nat.le_refl _) hi0n hi0f
      exact List.ne_nil_of_mem hj
    rw [show f + 1 + (ops.size - n) = (f + (ops.size - n)) + 1 by omega]
    refine ⟨fun h => absurd h hready, fun i hi => ?_⟩
    have hin := hhead i hi
    obtain ⟨hlt, o, ho, hall⟩ := mem_ready.1 hi
    have hif : listed.getD i false = false := getD_both hlt
    refine hstep i o listed a' W hin ho hk.inv.size hif hk.inv.closed hk.ph hk.st hk.defers hk.size hk.rest (fun j ⟨e, he, hb, hj⟩ => by
      subst hj
      exact ⟨hall e he hb, fun d hd => hk.rel e.on (by have := depsB_spec hdeps ho he hb; omega) (hall e he hb) d hd⟩) _ ?_
    intro v W' hv hst hg
    refine ih _ _ _ ?_ ⟨hk.inv.set hi hin, hT hk.st hst, hg, by rw [put_defers]; exact hk.defers, by rw [put_size]; exact hk.size, fun d hd => ?_, fun j hj hl d hd => ?_⟩
    · have hsz : i < listed.size := by rw [hk.inv.size]; omega
      have : (unlistedOf n (listed.setIfInBounds i true)) = (unlistedOf n listed).filter (fun j => !(j == i)) := by
        unfold unlistedOf
        rw [List.filter_filter]
        apply List.filter_congr
        intro j _
        by_cases hji : j = i
        · subst hji; rw [getD_set_eq hsz]; simp
        · rw [getD_set_oth (fun h => hji h.symm)]; simp [hji]
      rw [this]
      have hnd : (unlistedOf n listed).Nodup := List.Nodup.sublist List.filter_sublist List.nodup_range
      have hmem : i ∈ unlistedOf n listed := List.mem_filter.2 ⟨List.mem_range.2 hin, by simp [hif]⟩
      have he : (unlistedOf n listed).filter (fun j => !(j == i)) = (unlistedOf n listed).erase i := by
        rw [hnd.erase_eq_filter]; rfl
      rw [he, List.length_erase_of_mem hmem, hf]; rfl
    · have hne' : o.dst ≠ some d := by
        have := hd i hin
        rw [ho] at this
        exact this
      cases hod : o.dst with
      | none => simpa [Act.put, hod] using hk.rest d hd
      | some d' =>
        rw [put_getD_other (by rintro rfl; exact hne' hod)]
        exact hk.rest d hd
    · by_cases hji : j = i
      · subst hji
        rw [ho] at hd
        have hod : o.dst = some d := hd
        rw [hod, put_getD_same (by rw [hk.size]; exact hds j hj d (by rw [ho]; exact hod))]
        exact hv
      · rw [getD_set_oth (fun h => hji h.symm)] at hl
        have hR' := hR j _ _ _ hst (hk.rel j hj hl d hd)
        cases hod : o.dst with
        | none => simpa [Act.put, hod] using hR'
        | some d' =>
          rw [put_getD_other (by
            rintro rfl
            exact dstsB_spec hdst hin hj (fun h => hji h.symm) (by rw [ho]; exact hod) hd)]
          exact hR'

/-- the law, at a statement: the head in whatever order, the tail in its order -/
theorem wpIn_region_rel {F : Fence} {m : Nat} {P : Program} {id : Nat} {Q : Exit → Act → World → Prop} {a : Act} {w : World} {l : List Oper} (n : Nat) (R : Nat → Value → World → Prop) (St : World → World → Prop) (G : Array Bool → World → Prop) (hm : P.follows .mixedOrders = true)
    (hB : relB l.toArray n = true) (hR : ∀ i v W W', St W W' → R i v W → R i v W') (hT : ∀ {A B C : World}, St A B → St B C → St A C) (h0 : St w { w with drawn := w.drawn + 1 }) (hG : G (Array.replicate l.length false) { w with drawn := w.drawn + 1 })
    (hds : (List.range n).all (fun i => (((l.toArray[i]?).bind (·.dst)).all fun d => decide (d < a.tmps.size))) = true)
    (hstep : ∀ i o (listed : Array Bool) (a' : Act) (W : World), i < n → l[i]? = some o → listed.size = l.length → listed.getD i false = false →
      (∀ j oj, l[j]? = some oj → listed.getD j false = true → ∀ e ∈ oj.after, Region.binds .any e = true → listed.getD e.on false = true) →
      G listed W → St w W → a'.defers = a.defers → a'.tmps.size = a.tmps.size →
      (∀ d, (∀ i, i < n → (l.toArray[i]?).bind (·.dst) ≠ some d) → a'.tmps.getD d undef = a.tmps.getD d undef) →
      (∀ j, (∃ e, e ∈ o.after ∧ Region.binds .any e = true ∧ e.on = j) → listed.getD j false = true ∧ ∀ d, (l.toArray[j]?).bind (·.dst) = some d → R j (a'.tmps.getD d undef) W) →
      ∀ K : Act → World → Prop, (∀ v W', R i v W' → St W W' → G (listed.setIfInBounds i true) W' → K (a'.put o.dst v) W') → wpOpIn F m P l.toArray Q i K a' W)
    (hend : ∀ (listed : Array Bool) (a' : Act) (W : World), (∀ i, i < n → listed.getD i false = true) → G listed W → St w W → a'.defers = a.defers → a'.tmps.size = a.tmps.size →
      (∀ d, (∀ i, i < n → (l.toArray[i]?).bind (·.dst) ≠ some d) → a'.tmps.getD d undef = a.tmps.getD d undef) →
      (∀ i, i < n → ∀ d, (l.toArray[i]?).bind (·.dst) = some d → R i (a'.tmps.getD d undef) W) → wpListIn F m P l.toArray Q (l.drop n) a' W) :
    (Code.region id l.toArray true).wpIn F m P Q a w := by
  refine wpIn_region_any hm ?_
  have hn : n < l.toArray.size := by
    simp only [relB, Bool.and_eq_true, decide_eq_true_eq] at hB
    exact hB.1.1.1.2
  have hu : (unlistedOf n (Array.replicate l.toArray.size false)).length = n := by
    have : unlistedOf n (Array.replicate l.toArray.size false) = List.range n := by
      unfold unlistedOf
      rw [List.filter_eq_self]
      intro i _
      rw [getD_replicate_false]; rfl
    rw [this, List.length_range]
  have hds' : ∀ i, i < n → ∀ d, (l.toArray[i]?).bind (·.dst) = some d → d < a.tmps.size := by
    intro i hi d hd
    have := List.all_eq_true.1 hds i (List.mem_range.2 hi)
    rw [hd] at this
    simpa using this
  have H := wpAnyIn_rel (F := F) (m := m) (P := P) (ops := l.toArray) (n := n) (Q := Q) (a := a) (w := w) (R := R) (St := St) (G := G) hB hR hT hds' (fun i o listed a' W hi ho hs h1 h2 => hstep i o listed a' W hi (by simpa using ho) (by simpa using hs) h1 (fun j oj hj => h2 j oj (by simpa using hj)))
    (fun listed a' W h0 h1 h2 h3 h4 h5 h6 => by simpa using hend listed a' W h0 h1 h2 h3 h4 h5 h6) n (Array.replicate l.toArray.size false) a { w with drawn := w.drawn + 1 } hu
    ⟨⟨by simp, fun j oj _ hl => (by rw [getD_replicate_false] at hl; cases hl), fun t _ ht => getD_in (by simpa using ht) (getD_replicate_false _ _)⟩, h0, by simpa using hG, rfl, rfl, fun _ _ => rfl, fun i _ hl => by rw [getD_replicate_false] at hl; cases hl⟩
  rwa [show n + (l.toArray.size - n) = l.toArray.size by omega] at H

/-- the fence that shuts nothing out, in a round or not -/
def FW (ro : Option Nat) : Fence := { Fence.wide with round := ro }
theorem FW_none : FW none = Fence.wide := rfl
theorem callsFW {P : Program} {f : FuncId} {args : Array Value} {w : World} {R : Ending → World → Prop} (ro : Option Nat) (n : Nat) (h : Calls P f args w R) : CallsIn (FW ro) n P f args w R :=
  (callsIn_wide (n := n)).2 h
theorem callsOf {P : Program} {f : FuncId} {args : Array Value} {w : World} {R : Ending → World → Prop} {ro : Option Nat} {n : Nat} (h : CallsIn (FW ro) n P f args w R) : Calls P f args w R :=
  (callsIn_wide (n := n)).1 h
theorem rowsFW {P : Program} {row : String} {args : Array Value} {w : World} {R : Value → World → Prop} (ro : Option Nat) (n : Nat) (h : Rows P row args w R) : RowsIn (FW ro) n P row args w R :=
  fun c cs _ => let ⟨v, w', r, s⟩ := h c cs; ⟨v, w', r, stepsIn_wide.2 s⟩

theorem opIn_of_op {P : Program} {o : Oper} {a : Act} {w : World} {K : Act → World → Prop} {Q : Exit → Act → World → Prop} (ro : Option Nat) (n : Nat) (hnd : ∀ c, o.op ≠ .defer c) (h : o.wp P a w K Q) : o.wpIn (FW ro) n P a w K Q := by
  refine ⟨fun _ _ => trivial, ?_⟩
  rw [Oper.semAt_eq _ _ _ hnd]
  unfold Oper.wp at h
  generalize (execOp a.eval o).run P w = r at *
  cases r with
  | ok x w' =>
    cases x <;> simp only [Oper.upon] at h <;> simp only [Oper.uponIn]
    case value => exact h
    case skip => exact h
    case defer => exact h
    case enter => exact ⟨fun hd => (by simp [FW, Fence.wide] at hd), callsFW ro _ h⟩
    case row => exact ⟨fun hd => (by simp [FW, Fence.wide] at hd), rowsFW ro _ h⟩
  | halt x w' => cases x <;> simp only [Oper.upon] at h <;> simp only [Oper.uponIn] <;> exact h

theorem wpOpIn_of_wpOp {P : Program} {ops : Array Oper} {i : Nat} {a : Act} {w : World} {K : Act → World → Prop} {Q Q' : Exit → Act → World → Prop} (ro : Option Nat) (n : Nat) (hnd : ∀ (j : Nat) (o : Oper) c, ops[j]? = some o → o.op ≠ .defer c)
    (hq : ∀ e a w, Q e a w → Q' e a w) (hno : ∀ a w, ¬ Q .outgrown a w) (h : wpOp P ops Q i K a w) : wpOpIn (FW ro) n P ops Q' i K a w := by
  unfold wpOp at h
  unfold wpOpIn
  cases ho : ops[i]? with
  | none => simp only [ho] at h; exact h
  | some o =>
    simp only [ho] at h
    dsimp only
    split
    · rename_i hw
      simp only [hw, if_true] at h
      rcases h with h | ⟨_, a', w', hq'⟩
      · have := opIn_of_op ro n (hnd i o · ho) h
        unfold Oper.wpIn at *
        refine ⟨this.1, ?_⟩
        have h2 := this.2
        generalize (o.semAt (FW ro).round a.eval).run P w = r at *
        cases r with
        | ok x w' =>
          cases x <;> simp only [Oper.uponIn] at h2 ⊢ <;>
            first
              | exact h2
              | exact ⟨h2.1, CallsIn.mono h2.2 (fun e w'' he => by cases e <;> first | exact he | exact hq _ _ _ he | exact absurd he (fun ⟨a, w, h⟩ => hno a w h))⟩
              | exact ⟨h2.1, RowsIn.mono h2.2 (fun _ _ he => he)⟩
              | exact ⟨h2.1, RoundIn.mono h2.2 (fun e w'' he => by cases e <;> first | exact he | exact hq _ _ _ he | exact absurd he (fun ⟨a, w, h⟩ => hno a w h))⟩
        | halt x w' => cases x <;> simp only [Oper.uponIn] at h2 ⊢ <;> first | exact h2 | exact hq _ _ _ h2
      · exact absurd hq' (hno a' w')
    · rename_i hw
      simp only [hw] at h
      exact ⟨fun _ _ => trivial, h⟩

theorem wpAnyIn_of_wpAny {P : Program} {ops : Array Oper} {md : Region.Mode} {Q Q' : Exit → Act → World → Prop} (ro : Option Nat) (n : Nat) (hnd : ∀ (j : Nat) (o : Oper) c, ops[j]? = some o → o.op ≠ .defer c)
    (hq : ∀ e a w, Q e a w → Q' e a w) (hno : ∀ a w, ¬ Q .outgrown a w) : ∀ (f : Nat) (listed : Array Bool) (a : Act) (w : World), wpAny P md ops Q f listed a w → wpAnyIn (FW ro) n P md ops Q' f listed a w
  | 0, _, _, _, h => ⟨h.1, hq _ _ _ h.2⟩
  | f + 1, _, _, _, h => ⟨fun h0 => hq _ _ _ (h.1 h0), fun i hi => wpOpIn_mono (fun a' w' h' => wpAnyIn_of_wpAny ro n hnd hq hno f _ a' w' h') (wpOpIn_of_wpOp ro n hnd hq hno (h.2 i hi))⟩

def noDefer (ops : List Oper) : Bool := ops.all fun o => match o.op with | .defer _ => false | _ => true
theorem noDefer_spec {l : List Oper} (h : noDefer l = true) : ∀ (j : Nat) (o : Oper) c, l.toArray[j]? = some o → o.op ≠ .defer c := by
  intro j o c hj hop
  have hm : o ∈ l := List.mem_of_getElem? (by simpa using hj)
  have := List.all_eq_true.1 h o hm
  rw [hop] at this
  cases this

/-- 'Q', at the normal end alone -/
def onlyNormal (Q : Exit → Act → World → Prop) : Exit → Act → World → Prop
  | .normal, a, w => Q .normal a w
  | _, _, _ => False

/-- a statement whose order is open, all of whose operations read, and whose calls only lay new blocks: in a round too -/
theorem wpIn_region_quiet_xt {P : Program} {id : Nat} {Q : Exit → Act → World → Prop} {a : Act} {w : World} {l : List Oper} (ro : Option Nat) (n : Nat) (hm : P.follows .mixedOrders = true) (hB : Region.lexB .any l.toArray = true) (hnd : noDefer l = true)
    (h : wpQuiet P l.toArray (fun w' => ∃ x : Xt, w' = xt w x) (fun a' => ∀ w', (∃ x : Xt, w' = xt w x) → Q .normal a' w') l a) : (Code.region id l.toArray true).wpIn (FW ro) n P Q a w := by
  have hB' := hB
  simp only [Region.lexB, Bool.and_eq_true] at hB
  refine wpIn_region_any hm (wpAnyIn_of_wpAny (Q := onlyNormal Q) ro n (noDefer_spec hnd) (fun e a w h => by cases e <;> first | exact h | exact h.elim) (fun _ _ h => h) _ _ _ _ ?_)
  refine wpAny_of_quiet (Q' := onlyNormal Q) (C := fun w' => ∃ x : Xt, w' = xt w x) (Q := fun a' => ∀ w', (∃ x : Xt, w' = xt w x) → Q .normal a' w') (fun _ w' hw' h => h w' hw') _ _ _ _ (show ∃ x : Xt, ({ w with drawn := w.drawn + 1 } : World) = xt w x from ⟨⟨#[], w.drawn + 1⟩, by simp [xt]⟩) ?_
  have := wpAnyQ_lex (C := fun w' => ∃ x : Xt, w' = xt w x) (md := .any) hB.1 l 0 (Array.replicate l.toArray.size false) a (by simp) (by simpa using hB.2) h
  simpa using this

/-- the operations of a statement one by one: in a round as anywhere -/
theorem wpListIn_of_wpList {P : Program} {ops : List Oper} {Q : Exit → Act → World → Prop} (ro : Option Nat) (n : Nat) : ∀ (l : List Oper) (a : Act) (w : World), noDefer l = true → wpList P ops.toArray (onlyNormal Q) l a w → wpListIn (FW ro) n P ops.toArray Q l a w
  | [], _, _, _, h => h
  | o :: l, a, w, hnd, h => by
    have hnd' : (∀ c, o.op ≠ .defer c) ∧ noDefer l = true := by
      simp only [noDefer, List.all_cons, Bool.and_eq_true] at hnd
      exact ⟨fun c hc => by rw [hc] at hnd; exact absurd hnd.1 (by simp), hnd.2⟩
    simp only [wpList] at h
    simp only [wpListIn]
    split
    · rename_i hw
      simp only [hw, if_true] at h
      rcases h with h | ⟨_, a', w', hq'⟩
      · have h1 := Oper.wp_mono (fun a' w' h' => wpListIn_of_wpList ro n l a' w' hnd'.2 h') h
        have := opIn_of_op ro n hnd'.1 h1
        unfold Oper.wpIn at *
        refine ⟨this.1, ?_⟩
        have h2 := this.2
        generalize (o.semAt (FW ro).round a.eval).run P w = r at *
        cases r with
        | ok x w' =>
          cases x <;> simp only [Oper.uponIn] at h2 ⊢ <;>
            first
              | exact h2
              | exact ⟨h2.1, CallsIn.mono h2.2 (fun e w'' he => by cases e <;> first | exact he | exact he.elim | exact absurd he (fun ⟨a, w, h⟩ => h))⟩
              | exact ⟨h2.1, RowsIn.mono h2.2 (fun _ _ he => he)⟩
              | exact ⟨h2.1, RoundIn.mono h2.2 (fun e w'' he => by cases e <;> first | exact he | exact he.elim | exact absurd he (fun ⟨a, w, h⟩ => h))⟩
        | halt x w' => cases x <;> simp only [Oper.uponIn] at h2 ⊢ <;> first | exact h2 | exact h2.elim
      · exact hq'.elim
    · rename_i hw
      simp only [hw] at h
      exact ⟨fun _ _ => trivial, wpListIn_of_wpList ro n l _ w hnd'.2 h⟩
theorem opStep {P : Program} {l : List Oper} {i : Nat} {o : Oper} {a : Act} {w : World} {K : Act → World → Prop} {Q : Exit → Act → World → Prop} (ro : Option Nat) (n : Nat) (ho : l[i]? = some o) (hw : Region.wanted o (yielded l.toArray a.tmps) = true) (hnd : ∀ c, o.op ≠ .defer c) (h : o.wp P a w K Q) :
    wpOpIn (FW ro) n P l.toArray Q i K a w := by
  have ho' : l.toArray[i]? = some o := by simpa using ho
  unfold wpOpIn
  rw [ho']
  dsimp only
  rw [if_pos hw]
  exact opIn_of_op ro n hnd h
theorem opSkip {P : Program} {l : List Oper} {i : Nat} {o : Oper} {a : Act} {w : World} {K : Act → World → Prop} {Q : Exit → Act → World → Prop} (ro : Option Nat) (n : Nat) (ho : l[i]? = some o) (hw : Region.wanted o (yielded l.toArray a.tmps) = false) (h : K (a.put o.dst undef) w) :
    wpOpIn (FW ro) n P l.toArray Q i K a w := by
  have ho' : l.toArray[i]? = some o := by simpa using ho
  unfold wpOpIn
  rw [ho']
  dsimp only
  rw [if_neg (by rw [hw]; exact Bool.false_ne_true)]
  exact ⟨fun _ _ => trivial, h⟩

/-- what is known where an operation of the head is about to run -/
structure At (l : List Oper) (n : Nat) (R : Nat → Value → World → Prop) (St : World → World → Prop) (G : Array Bool → World → Prop) (a : Act) (w : World) (i : Nat) (o : Oper) (listed : Array Bool) (a' : Act) (W : World) : Prop where
  lsize : listed.size = l.length
  new : listed.getD i false = false
  closed : ∀ j oj, l[j]? = some oj → listed.getD j false = true → ∀ e ∈ oj.after, Region.binds .any e = true → listed.getD e.on false = true
  ph : G listed W
  st : St w W
  defers : a'.defers = a.defers
  size : a'.tmps.size = a.tmps.size
  rest : ∀ d, (∀ i, i < n → (l.toArray[i]?).bind (·.dst) ≠ some d) → a'.tmps.getD d undef = a.tmps.getD d undef
  dep : ∀ j, (∃ e, e ∈ o.after ∧ Region.binds .any e = true ∧ e.on = j) → listed.getD j false = true ∧ ∀ d, (l.toArray[j]?).bind (·.dst) = some d → R j (a'.tmps.getD d undef) W

/-- what is known behind the head -/
structure Done (l : List Oper) (n : Nat) (R : Nat → Value → World → Prop) (St : World → World → Prop) (G : Array Bool → World → Prop) (a : Act) (w : World) (listed : Array Bool) (a' : Act) (W : World) : Prop where
  all : ∀ i, i < n → listed.getD i false = true
  ph : G listed W
  st : St w W
  defers : a'.defers = a.defers
  size : a'.tmps.size = a.tmps.size
  rest : ∀ d, (∀ i, i < n → (l.toArray[i]?).bind (·.dst) ≠ some d) → a'.tmps.getD d undef = a.tmps.getD d undef
  dep : ∀ i, i < n → ∀ d, (l.toArray[i]?).bind (·.dst) = some d → R i (a'.tmps.getD d undef) W

def edgeB (o : Oper) (j : Nat) : Bool := o.after.any fun e => Region.binds .any e && e.on == j
def dstB (l : List Oper) (j d : Nat) : Bool := (l.toArray[j]?).bind (·.dst) == some d
def parB (l : List Oper) (n d : Nat) : Bool := (List.range n).all fun i => (l.toArray[i]?).bind (·.dst) != some d
theorem parB_spec {l : List Oper} {n d : Nat} (h : parB l n d = true) : ∀ i, i < n → (l.toArray[i]?).bind (·.dst) ≠ some d := fun i hi => by
  have := List.all_eq_true.1 h i (List.mem_range.2 hi)
  simpa using this
theorem edgeB_spec {o : Oper} {j : Nat} (h : edgeB o j = true) : ∃ e, e ∈ o.after ∧ Region.binds .any e = true ∧ e.on = j := by
  unfold edgeB at h
  rw [Array.any_eq_true'] at h
  obtain ⟨e, he, h⟩ := h
  simp only [Bool.and_eq_true, beq_iff_eq] at h
  exact ⟨e, he, h.1, h.2⟩
section
variable {l : List Oper} {n : Nat} {R : Nat → Value → World → Prop} {St : World → World → Prop} {G : Array Bool → World → Prop} {a : Act} {w : World} {i : Nat} {o : Oper} {listed : Array Bool} {a' : Act} {W : World}
theorem At.val (h : At l n R St G a w i o listed a' W) (j d : Nat) (hj : edgeB o j = true) (hd : dstB l j d = true) : R j (a'.tmps.getD d undef) W := by
  refine (h.dep j (edgeB_spec hj)).2 d ?_
  simpa [dstB] using hd
theorem At.has (h : At l n R St G a w i o listed a' W) (j : Nat) (hj : edgeB o j = true) : listed.getD j false = true := (h.dep j (edgeB_spec hj)).1
theorem At.past (h : At l n R St G a w i o listed a' W) {j : Nat} (hl : listed.getD j false = true) (k : Nat) (hj : ((l[j]?).map fun o => edgeB o k).getD false = true) : listed.getD k false = true := by
  cases ho : l[j]? with
  | none => rw [ho] at hj; cases hj
  | some oj =>
    rw [ho] at hj
    obtain ⟨e, he, hb, hk⟩ := edgeB_spec (show edgeB oj k = true from hj)
    rw [← hk]
    exact h.closed j oj ho hl e he hb
theorem At.par (h : At l n R St G a w i o listed a' W) (d : Nat) (hd : parB l n d = true) : a'.tmps.getD d undef = a.tmps.getD d undef := h.rest d (parB_spec hd)
theorem Done.val (h : Done l n R St G a w listed a' W) (j d : Nat) (hj : decide (j < n) = true) (hd : dstB l j d = true) : R j (a'.tmps.getD d undef) W := by
  refine h.dep j (of_decide_eq_true hj) d ?_
  simpa [dstB] using hd
theorem Done.par (h : Done l n R St G a w listed a' W) (d : Nat) (hd : parB l n d = true) : a'.tmps.getD d undef = a.tmps.getD d undef := h.rest d (parB_spec hd)
end
def AllI (p : Nat → Oper → Prop) : Nat → List Oper → Prop
  | _, [] => True
  | k, o :: l => p k o ∧ AllI p (k + 1) l
theorem AllI.get {p : Nat → Oper → Prop} : ∀ {l : List Oper} {k i : Nat} {o : Oper}, AllI p k l → l[i]? = some o → p (k + i) o
  | [], _, _, _, _, h => by simp at h
  | o :: l, k, 0, _, h, he => by simp at he; subst he; exact h.1
  | o :: l, k, i + 1, _, h, he => by
    have := AllI.get h.2 (i := i) (by simpa using he)
    rwa [show k + 1 + i = k + (i + 1) by omega] at this

/-- the same law, spelt operation by operation -/
theorem wpIn_region_each {F : Fence} {m : Nat} {P : Program} {id : Nat} {Q : Exit → Act → World → Prop} {a : Act} {w : World} {l : List Oper} (n : Nat) (R : Nat → Value → World → Prop) (St : World → World → Prop) (G : Array Bool → World → Prop) (hm : P.follows .mixedOrders = true)
    (hB : relB l.toArray n = true) (hR : ∀ i v W W', St W W' → R i v W → R i v W') (hT : ∀ {A B C : World}, St A B → St B C → St A C) (h0 : St w { w with drawn := w.drawn + 1 }) (hG : G (Array.replicate l.length false) { w with drawn := w.drawn + 1 })
    (hds : (List.range n).all (fun i => (((l.toArray[i]?).bind (·.dst)).all fun d => decide (d < a.tmps.size))) = true)
    (hstep : AllI (fun i o => ∀ (listed : Array Bool) (a' : Act) (W : World), At l n R St G a w i o listed a' W →
      ∀ K : Act → World → Prop, (∀ v W', R i v W' → St W W' → G (listed.setIfInBounds i true) W' → K (a'.put o.dst v) W') → wpOpIn F m P l.toArray Q i K a' W) 0 (l.take n))
    (hend : ∀ (listed : Array Bool) (a' : Act) (W : World), Done l n R St G a w listed a' W → wpListIn F m P l.toArray Q (l.drop n) a' W) :
    (Code.region id l.toArray true).wpIn F m P Q a w := by
  refine wpIn_region_rel n R St G hm hB hR hT h0 hG hds ?_ ?_
  · intro i o listed a' W hi ho h1 h2 h3 h4 h5 h6 h7 h8 h9 K hK
    have := hstep.get (i := i) (o := o) (by rw [List.getElem?_take_of_lt hi]; exact ho)
    rw [Nat.zero_add] at this
    exact this listed a' W ⟨h1, h2, h3, h4, h5, h6, h7, h8, h9⟩ K hK
  · intro listed a' W h1 h2 h3 h4 h5 h6 h7
    exact hend listed a' W ⟨h1, h2, h3, h4, h5, h6, h7⟩
theorem yielded_val {l : List Oper} {a : Act} {j d : Nat} {b : Bool} (hd : dstB l j d = true) (hv : a.tmps.getD d undef = .bool b) : yielded l.toArray a.tmps j = some b := by
  have h1 : (l.toArray[j]?).bind (·.dst) = some d := by simpa [dstB] using hd
  unfold yielded
  rw [h1]
  simp only [Option.bind_some]
  rw [Array.getD_eq_getD_getElem?] at hv
  cases ht : a.tmps[d]? with
  | none => rw [ht] at hv; cases hv
  | some v => rw [ht] at hv; simp at hv; subst hv; rfl
theorem wanted_yes {l : List Oper} {o : Oper} {a : Act} {j d : Nat} {b : Bool} (hg : o.guard = some (j, b)) (hd : dstB l j d = true) (hv : a.tmps.getD d undef = .bool b) : Region.wanted o (yielded l.toArray a.tmps) = true := by
  unfold Region.wanted
  rw [hg]
  simp only [yielded_val hd hv]
  simp
theorem wanted_no {l : List Oper} {o : Oper} {a : Act} {j d : Nat} {b b' : Bool} (hg : o.guard = some (j, b)) (hd : dstB l j d = true) (hv : a.tmps.getD d undef = .bool b') (hb : (b' == b) = false) : Region.wanted o (yielded l.toArray a.tmps) = false := by
  unfold Region.wanted
  rw [hg]
  simp only [yielded_val hd hv]
  simpa using hb
/-- a call of the loop's body -/
theorem opYield {P : Program} {l : List Oper} {i : Nat} {o : Oper} {a : Act} {W : World} {K : Act → World → Prop} {Q : Exit → Act → World → Prop} {lp : Nat} {args : Array Value} {R : Ending → World → Prop} (ho : l[i]? = some o) (hw : Region.wanted o (yielded l.toArray a.tmps) = true) (hnd : ∀ c, o.op ≠ .defer c)
    (hrun : (execOp a.eval o).run P W = (Instr.yield lp args).run P W) (hy : YieldAt (FW none) 0 P lp args W R) (hR : ∀ e W', R e W' → ∃ v, e = .returned v ∧ K (a.put o.dst v) W') : wpOpIn (FW none) 0 P l.toArray Q i K a W := by
  have ho' : l.toArray[i]? = some o := by simpa using ho
  unfold wpOpIn
  rw [ho']
  dsimp only
  rw [if_pos hw]
  refine ⟨fun _ _ => trivial, ?_⟩
  rw [Oper.semAt_eq _ _ _ hnd, hrun]
  obtain ⟨fn, tmps, assign, body, hy, hr⟩ := hy
  rw [hy]
  refine ⟨fun hd => (by simp [FW, Fence.wide] at hd), hr.mono ?_⟩
  intro e W' he
  obtain ⟨v, rfl, hk⟩ := hR e W' he
  exact hk
/-- the operations behind the head, one by one -/
theorem tail_step {F : Fence} {m : Nat} {P : Program} {l : List Oper} {o : Oper} {rest : List Oper} {a : Act} {W : World} {Q : Exit → Act → World → Prop} {i : Nat} (hi : l[i]? = some o) (h : wpOpIn F m P l.toArray Q i (wpListIn F m P l.toArray Q rest) a W) : wpListIn F m P l.toArray Q (o :: rest) a W := by
  have ho' : l.toArray[i]? = some o := by simpa using hi
  unfold wpOpIn at h
  rw [ho'] at h
  exact h
theorem opValue {P : Program} {l : List Oper} {i : Nat} {o : Oper} {a : Act} {W W' : World} {K : Act → World → Prop} {Q : Exit → Act → World → Prop} {v : Value} (ro : Option Nat) (n : Nat) (ho : l[i]? = some o) (hw : Region.wanted o (yielded l.toArray a.tmps) = true) (hnd : ∀ c, o.op ≠ .defer c)
    (hrun : (execOp a.eval o).run P W = .ok (.value v) W') (hk : K (a.put o.dst v) W') : wpOpIn (FW ro) n P l.toArray Q i K a W := by
  refine opStep ro n ho hw hnd ?_
  unfold Oper.wp
  rw [hrun]
  exact hk
/-- one operation behind the head that hands back v -/
theorem tail_val {P : Program} {l : List Oper} {o : Oper} {rest : List Oper} {a : Act} {W W' : World} {Q : Exit → Act → World → Prop} {i d : Nat} {v : Value} (ro : Option Nat) (n : Nat) (hi : l[i]? = some o) (hd : o.dst = some d) (hw : Region.wanted o (yielded l.toArray a.tmps) = true) (hnd : ∀ c, o.op ≠ .defer c)
    (hrun : (execOp a.eval o).run P W = .ok (.value v) W') (hs : d < a.tmps.size)
    (h : ∀ a' : Act, a'.tmps.size = a.tmps.size → a'.defers = a.defers → a'.tmps.getD d undef = v → (∀ d', d' ≠ d → a'.tmps.getD d' undef = a.tmps.getD d' undef) → wpListIn (FW ro) n P l.toArray Q rest a' W') : wpListIn (FW ro) n P l.toArray Q (o :: rest) a W := by
  refine tail_step hi (opValue ro n hi hw hnd hrun ?_)
  rw [hd]
  exact h _ put_size put_defers (put_getD_same hs) (fun d' hd' => put_getD_other (fun e => hd' e.symm))
/-- an activation, slot by slot -/
theorem act_eq {a : Act} {n : Nat} (hs : a.tmps.size = n) (hd : a.defers = []) : a = { tmps := ((List.range n).map fun i => a.tmps.getD i undef).toArray, defers := [] } := by
  obtain ⟨t, d⟩ := a
  simp only at hs hd
  subst hd
  congr 1
  apply Array.ext
  · simp [hs]
  · intro i h1 h2
    simp [Array.getD, h1]
/-- one operation behind the head that hands back nothing -/
theorem tail_store {P : Program} {l : List Oper} {o : Oper} {rest : List Oper} {a : Act} {W W' : World} {Q : Exit → Act → World → Prop} {i : Nat} (ro : Option Nat) (n : Nat) (hi : l[i]? = some o) (hd : o.dst = none) (hw : Region.wanted o (yielded l.toArray a.tmps) = true) (hnd : ∀ c, o.op ≠ .defer c)
    (hrun : (execOp a.eval o).run P W = .ok .skip W') (h : wpListIn (FW ro) n P l.toArray Q rest a W') : wpListIn (FW ro) n P l.toArray Q (o :: rest) a W := by
  refine tail_step hi (opStep ro n hi hw hnd ?_)
  unfold Oper.wp
  rw [hrun]
  show wpListIn (FW ro) n P l.toArray Q rest (a.put o.dst undef) W'
  rw [hd]
  exact h
end Go.Proofs.YtlnamjhgbdacbaaGreat
/- Clone: a copy of a list of numbers, in memory of its own. -/
namespace Go.Proofs.YtlnamjhgbdacbaaGreat
open Go.RowKit Go.Shelf

theorem int_info : (Tryz.prog.info? 3).map (fun i => (i.zero, i.size, i.bytes)) = some (some (.int .i64 0), 1, 8) := by kernel_rfl

/-- a result that is a list of numbers, in whatever memory -/
def GivesInts (xs : List Int) (w : World) (e : Ending) (w' : World) : Prop := ∃ A c, e = .returned (.slice A xs.length c) ∧ xs.length ≤ c ∧ c ≤ maxLen ∧ IsInts w' w'.heap.size A xs ∧ (∀ a, A = some a → w.heap.size ≤ a.block ∧ ∃ cs, Blk w' a.block 3 cs) ∧ (A = none → c = 0) ∧ Below w.heap.size w w'

theorem own_ints {w : World} {base n : Nat} {v : Value} {xs : List Int} (hn : n = xs.length) (h : w.ownsRow base 3 1 v n (xs.map (Value.int .i64))) :
    ∃ A c, v = .slice A xs.length c ∧ xs.length ≤ c ∧ c ≤ maxLen ∧ IsInts w w.heap.size A xs ∧ (∀ a, A = some a → base ≤ a.block ∧ ∃ cs, Blk w a.block 3 cs) ∧ (A = none → c = 0) := by
  subst hn
  rcases h.2 with ⟨rfl, h0⟩ | ⟨g, cap, cur, rfl, hb, hg, h1, h2, h3, h4⟩
  · have : xs = [] := List.eq_nil_of_length_eq_zero h0
    subst this
    exact ⟨none, 0, rfl, Nat.le_refl _, Nat.zero_le _, (fun k x hk => by simp at hk), (fun a e => by cases e), fun _ => rfl⟩
  · refine ⟨_, cap, rfl, h1, h2, (fun k x hk => ⟨_, rfl, (Array.getElem?_eq_some_iff.1 hg).1, ?_⟩), (fun a e => by cases e; exact ⟨hb, cur, hg⟩), fun e => by cases e⟩
    exact h.cells (g := g) rfl k _ (by simp [hk])

theorem ints_news {w : World} {n : Nat} {a : Addr} {xs : List Int} (h : IsInts w n (some a) xs) : ∀ j u, (xs.map (Value.int .i64))[j]? = some u → w.cell? (a.add j) = some u := by
  intro j u hj
  rw [List.getElem?_map] at hj
  cases hx : xs[j]? with
  | none => rw [hx] at hj; cases hj
  | some x =>
    rw [hx] at hj
    obtain ⟨a', e, _, hc⟩ := h j x hx
    injection e with e
    subst e
    simp at hj
    rw [← hj]; exact hc
theorem ints_one (xs : List Int) : ∀ u ∈ xs.map (Value.int .i64), u.oneCell' = true := by
  intro u hu
  obtain ⟨x, _, rfl⟩ := List.mem_map.1 hu
  rfl

set_option maxRecDepth 10000 in
set_option maxHeartbeats 400000 in
theorem clone_any (A : Option Addr) (c : Nat) (xs : List Int) (w : World) (h : IsInts w w.heap.size A xs) (hA : A = none → c = 0) (hl : xs.length ≤ 1000000) :
    Calls Tryz.prog 29 #[.slice A xs.length c] w (GivesInts xs w) := by
  obtain ⟨i0, hi0, hz0, hz1, hz2⟩ := info_parts int_info
  have heq := fun (B : Option Addr) (n k : Nat) (W : World) => Lib.run_eql_slice_nil (P := Tryz.prog) W 22 3 B n k 0 0 Tryz.underlying22
  cases A with
  | none =>
    have hx : xs = [] := by
      cases xs with
      | nil => rfl
      | cons x l => obtain ⟨a, e, _⟩ := h 0 x rfl; cases e
    subst hx
    obtain rfl := hA rfl
    go_enter Tryz.func29, Tryz.ntmps29
    go_wp2
    go_ret
    exact ⟨none, 0, rfl, Nat.le_refl _, Nat.zero_le _, (fun k x hk => by simp at hk), (fun a e => by cases e), fun _ => rfl, Below.refl _ _⟩
  | some a =>
    have hB := below_box (w := w) #[] 3
    have hnews := hid (ints_news (h.at_ hB))
    have hown : (w.alloc (.cells #[] 3)).ownsRow w.heap.size 3 1 (.slice (some ⟨w.heap.size, 0, none⟩) 0 0) 0 [] := World.ownsRow_made w #[] 0 (Nat.le_refl _) (by simp [maxLen]) rfl
    have HO := hid hown
    clear hA h hown
    go_enter Tryz.func29, Tryz.ntmps29
    go_wp2_with (at_builtin; refine wpList_append_own_at _ rfl _ _ 22 rfl w.heap.size 3 i0 (.int .i64 0) 1 8 Tryz.underlying22 hi0 hz0 hz1 hz2 rfl (by decide) _ 0 [] rfl HO.out a xs.length c (xs.map (Value.int .i64)) rfl (by simp) hnews.out (ints_one xs) (by simp only [maxLen]; omega) (by omega) (by simp) ?_; intro v' w1 hown' hgrow _ _)
    go_ret
    obtain ⟨A1, c1, rfl, h1, h2, h3, h4, h5⟩ := own_ints (xs := xs) (n := 0 + xs.length) (by omega) (by simpa using hown')
    exact ⟨A1, c1, rfl, h1, h2, h3, h4, h5, hB.grown hgrow (by simp) (fun k hk => by cases (show some w.heap.size = some k from hk); exact Nat.le_refl _)⟩
end Go.Proofs.YtlnamjhgbdacbaaGreat
/- What a call may change: a relation between worlds; what an iterator over lists of numbers gives. -/
namespace Go.Proofs.YtlnamjhgbdacbaaGreat
open Go.RowKit Go.Shelf

/-- all cells outside Z are as they were -/
structure Keep (Z : Nat → Prop) (W W' : World) : Prop where
  os : W'.os = W.os
  tape : W'.tape = W.tape
  output : W'.output = W.output
  size : W.heap.size ≤ W'.heap.size
  cells : ∀ (k : Nat) cs t fr, W.heap[k]? = some (.cells cs t fr) → ¬ Z k → W'.heap[k]? = some (.cells cs t fr)

section
variable {Z Y : Nat → Prop} {W W1 W2 : World}
theorem Keep.refl (Z : Nat → Prop) (W : World) : Keep Z W W := ⟨rfl, rfl, rfl, Nat.le_refl _, fun _ _ _ _ h _ => h⟩
theorem Keep.trans (h : Keep Z W W1) (k : Keep Z W1 W2) : Keep Z W W2 :=
  ⟨k.os.trans h.os, k.tape.trans h.tape, k.output.trans h.output, Nat.le_trans h.size k.size, fun i cs t fr hi hz => k.cells i cs t fr (h.cells i cs t fr hi hz) hz⟩
theorem Keep.mono (h : Keep Z W W1) (hz : ∀ k, Z k → Y k) : Keep Y W W1 := ⟨h.os, h.tape, h.output, h.size, fun i cs t fr hi hn => h.cells i cs t fr hi (fun hk => hn (hz i hk))⟩
theorem Keep.of_below (Z : Nat → Prop) (h : Below W.heap.size W W1) : Keep Z W W1 :=
  ⟨h.os, h.tape, h.output, h.size, fun i _ _ _ hi _ => (h.block i (Array.getElem?_eq_some_iff.1 hi).1).trans hi⟩
theorem Keep.of_grown {y : Nat} (h : W.grownBy W1 (some y)) (hy : Z y) : Keep Z W W1 :=
  ⟨h.os, h.tape, h.output, h.size, fun i _ _ _ hi hz => (h.block i (Array.getElem?_eq_some_iff.1 hi).1 (fun e => by cases e; exact hz hy)).trans hi⟩
theorem Keep.setCell (h : Keep Z W W1) {p : Addr} (hp : Z p.block) (u : Value) : Keep Z W (W1.setCell p u) :=
  h.trans ⟨rfl, rfl, rfl, by simp [World.setCell], fun i cs t fr hi hz => (Below.heap_setCell W1 p u i (fun e => hz (by rw [e]; exact hp))).trans hi⟩
theorem Keep.alloc (h : Keep Z W W1) (o : Obj) : Keep Z W (W1.alloc o) := h.trans (Keep.of_below Z ((Below.refl _ _).alloc (Nat.le_refl _) _))
theorem Keep.cell (h : Keep Z W W1) {a : Addr} {v : Value} (hc : W.cell? a = some v) (hz : ¬ Z a.block) : W1.cell? a = some v := by
  unfold World.cell? at *
  cases hb : W.heap[a.block]? with
  | none => rw [hb] at hc; cases hc
  | some o =>
    rw [hb] at hc
    cases o with
    | cells cs t fr => rw [h.cells _ _ _ _ hb hz]; exact hc
    | _ => cases hc
theorem Keep.blk (h : Keep Z W W1) {g : Nat} {t : TypeId} {cs : Array Value} (hb : Blk W g t cs) (hz : ¬ Z g) : Blk W1 g t cs := h.cells g cs t (0, 0) hb hz
theorem Keep.ints (h : Keep Z W W1) {n : Nat} {A : Option Addr} {xs : List Int} (hi : IsInts W n A xs) (hz : ∀ a, A = some a → ¬ Z a.block) : IsInts W1 n A xs := fun k x hk => by
  obtain ⟨a, e, hl, hc⟩ := hi k x hk
  exact ⟨a, e, hl, h.cell hc (by rw [block_of_add]; exact hz a e)⟩
theorem Keep.ints' (h : Keep Z W W1) {n : Nat} {A : Option Addr} {xs : List Int} (hi : IsInts W n A xs) (hz : ∀ k, Z k → n ≤ k) : IsInts W1 n A xs := fun k x hk => by
  obtain ⟨a, e, hl, hc⟩ := hi k x hk
  exact ⟨a, e, hl, h.cell hc (by rw [block_of_add]; intro hk; have := hz _ hk; omega)⟩
theorem Keep.rows (h : Keep Z W W1) {n : Nat} {A : Option Addr} {xs : List (List Int)} (hi : IsRows W n A xs) (hz : ∀ k, Z k → n ≤ k) : IsRows W1 n A xs := fun k x hk => by
  obtain ⟨a, A', c, e, hl, hc, h1, h2, h3⟩ := hi k x hk
  exact ⟨a, A', c, e, hl, h.cell hc (by rw [block_of_add]; intro hk; have := hz _ hk; omega), h1, h2, h.ints' h3 hz⟩
theorem Keep.fixes (h : Keep Z W W1) {n : Nat} {A : Option Addr} {fs : List Fx} (hi : IsFixes W n A fs) (hz : ∀ k, Z k → n ≤ k) : IsFixes W1 n A fs := fun k x hk => by
  obtain ⟨a, e, hl, h0, h1, h2⟩ := hi k x hk
  exact ⟨a, e, hl, h.cell h0 (by rw [block_of_add]; intro hk; have := hz _ hk; omega), h.cell h1 (by show ¬ Z (a.add _).block; rw [block_of_add]; intro hk; have := hz _ hk; omega), h.cell h2 (by show ¬ Z (a.add _).block; rw [block_of_add]; intro hk; have := hz _ hk; omega)⟩
end

theorem grown_of_below {W W1 : World} (h : Below W.heap.size W W1) (row : Option Nat) : W.grownBy W1 row := ⟨h.os, h.tape, h.output, h.size, fun i hi _ => h.block i hi⟩

/-- the iterator g gives these lists, one after the other, whatever the loop's body does to the cells of X -/
def SeqC (g : Nat) (lb : Array Value) (xs : List (List Int)) (X : Nat → Prop) (w0 : World) : Prop :=
  ∀ (l : Nat) (J : Nat → Nat → World → Prop) (W : World), Below w0.heap.size w0 W →
    (∀ y k W1 W2, W.heap.size ≤ y → J y k W1 → W1.grownBy W2 (some y) → J y k W2) →
    (∀ y k x A c W1, W.heap.size ≤ y → y < W1.heap.size → xs[k]? = some x → J y k W1 → IsInts W1 W1.heap.size A x → (∀ a, A = some a → a.block ≠ y ∧ W.heap.size ≤ a.block ∧ ∃ cs, Blk W1 a.block 3 cs) → x.length ≤ c → c ≤ maxLen → (A = none → c = 0) →
      YieldAt (FW none) 0 Tryz.prog l #[.slice A x.length c] W1 fun e W2 => e = .returned (.bool true) ∧ J y (k + 1) W2 ∧ Keep X W1 W2) →
    (∀ y, W.heap.size ≤ y → J y 0 W) →
    CallsIn (FW none) 0 Tryz.prog g (#[.func (.yield l) #[] #[]] ++ lb) W fun e W' => (∃ v, e = .returned v) ∧ (∃ y, W.heap.size ≤ y ∧ J y xs.length W') ∧ Keep X W W'
end Go.Proofs.YtlnamjhgbdacbaaGreat
/- choose: all numbers for a row that are neighbours of its cells, one after the other; the recursion behind the iterator. -/
namespace Go.Proofs.YtlnamjhgbdacbaaGreat
open Go.RowKit Go.Shelf

def cands (b : Int) : List Int → List (List Int)
  | [] => [[]]
  | n :: ns => (cands b ns).map (lowOf b n :: ·) ++ (if lowOf b n == highOf b n then [] else (cands b ns).map (highOf b n :: ·))
def testB (b : Int) (cells : List Int) (fs : List Fx) (row : Int) (l : List Int) : Bool := nearB b l.sum cells.sum && holdsB fs row l
/-- the lists that begin with pre, for the cells that are left -/
def outs (b : Int) (cells : List Int) (fs : List Fx) (row : Int) (pre rest : List Int) : List (List Int) := ((cands b rest).map (pre ++ ·)).filter (testB b cells fs row)
theorem outs_nil (b : Int) (cells : List Int) (fs : List Fx) (row : Int) (pre : List Int) : outs b cells fs row pre [] = if testB b cells fs row pre then [pre] else [] := by
  simp [outs, cands, List.filter_cons]
theorem outs_cons (b : Int) (cells : List Int) (fs : List Fx) (row : Int) (pre : List Int) (n : Int) (ns : List Int) :
    outs b cells fs row pre (n :: ns) = outs b cells fs row (pre ++ [lowOf b n]) ns ++ (if lowOf b n == highOf b n then [] else outs b cells fs row (pre ++ [highOf b n]) ns) := by
  unfold outs
  simp only [cands, List.map_append, List.filter_append, List.map_map]
  congr 1
  · congr 1; apply List.map_congr_left; intro x _; simp
  · split
    · rfl
    · simp only [List.map_map]; congr 1; apply List.map_congr_left; intro x _; simp

/-- block y is an array of m numbers that begin with pre -/
def LB (W : World) (y m : Nat) (pre : List Int) : Prop := ∃ arr : Array Value, W.heap[y]? = some (.cells arr 3 (0, 0)) ∧ arr.size = m ∧ ∀ (k : Nat) (x : Int), pre[k]? = some x → arr[k]? = some (Value.int .i64 x)
theorem LB.ints {W : World} {y m : Nat} {pre : List Int} (h : LB W y m pre) {n : Nat} (hn : y < n) : IsInts W n (some ⟨y, 0, none⟩) pre := by
  obtain ⟨arr, hb, hs, hc⟩ := h
  intro k x hk
  refine ⟨_, rfl, hn, ?_⟩
  have ha : (⟨y, 0, none⟩ : Addr).add k = ⟨y, k, none⟩ := by unfold Addr.add; split <;> simp_all
  rw [ha, cell_of_row W y k arr 3 (0, 0) hb]
  exact hc k x hk
theorem LB.lt {W : World} {y m : Nat} {pre : List Int} (h : LB W y m pre) : y < W.heap.size := by
  obtain ⟨arr, hb, _⟩ := h
  exact (Array.getElem?_eq_some_iff.1 hb).1
theorem LB.keep {Z : Nat → Prop} {W W' : World} {y m : Nat} {pre : List Int} (h : LB W y m pre) (hk : Keep Z W W') (hz : ¬ Z y) : LB W' y m pre := by
  obtain ⟨arr, hb, hs, hc⟩ := h
  exact ⟨arr, hk.cells y arr _ _ hb hz, hs, hc⟩
theorem LB.below {W W' : World} {y m : Nat} {pre : List Int} (h : LB W y m pre) (hk : Below W.heap.size W W') : LB W' y m pre := by
  have hy := h.lt
  obtain ⟨arr, hb, hs, hc⟩ := h
  exact ⟨arr, (hk.block y hy).trans hb, hs, hc⟩
theorem LB.shrink {W : World} {y m : Nat} {pre : List Int} {x : Int} (h : LB W y m (pre ++ [x])) : LB W y m pre := by
  obtain ⟨arr, hb, hs, hc⟩ := h
  exact ⟨arr, hb, hs, fun k z hk => hc k z (by rw [List.getElem?_append_left (List.getElem?_eq_some_iff.1 hk).1]; exact hk)⟩

/-- what the recursion reads -/
structure Env (Bc Bw Br By Bh P l n : Nat) (A0 : Option Addr) (c0 : Nat) (cells : List Int) (row b : Int) (At : Option Addr) (ct nt : Nat) (Af : Option Addr) (cf : Nat) (fs : List Fx) (mp : Value) (W : World) : Prop where
  bc : Blk W Bc 22 #[.slice A0 cells.length c0]
  bw : Blk W Bw 94 #[.pointer (some ⟨P, 0, none⟩)]
  br : Blk W Br 3 #[.int .i64 row]
  bY : Blk W By 129 #[.func (.yield l) #[] #[]]
  bh : Blk W Bh 129 #[.func (.func 96) #[] #[.pointer (some ⟨Bc, 0, none⟩), .pointer (some ⟨Bw, 0, none⟩), .pointer (some ⟨Br, 0, none⟩), .pointer (some ⟨By, 0, none⟩), .pointer (some ⟨Bh, 0, none⟩)]]
  bp : Blk W P 143 #[.int .i64 b, .slice At nt ct, .slice Af fs.length cf, mp]
  ic : IsInts W n A0 cells
  ix : IsFixes W n Af fs

section
variable {Bc Bw Br By Bh P l n : Nat} {A0 : Option Addr} {c0 : Nat} {cells : List Int} {row b : Int} {At : Option Addr} {ct nt : Nat} {Af : Option Addr} {cf : Nat} {fs : List Fx} {mp : Value} {W W' : World}
theorem Env.keep {Z : Nat → Prop} (h : Env Bc Bw Br By Bh P l n A0 c0 cells row b At ct nt Af cf fs mp W) (hk : Keep Z W W') (z1 : ¬ Z Bc) (z2 : ¬ Z Bw) (z3 : ¬ Z Br) (z4 : ¬ Z By) (z5 : ¬ Z Bh) (z6 : ¬ Z P) (hz : ∀ k, Z k → n ≤ k) :
    Env Bc Bw Br By Bh P l n A0 c0 cells row b At ct nt Af cf fs mp W' :=
  ⟨hk.blk h.bc z1, hk.blk h.bw z2, hk.blk h.br z3, hk.blk h.bY z4, hk.blk h.bh z5, hk.blk h.bp z6, hk.ints' h.ic hz, hk.fixes h.ix hz⟩
theorem Env.below (h : Env Bc Bw Br By Bh P l n A0 c0 cells row b At ct nt Af cf fs mp W) (hk : Below W.heap.size W W') (hn : n ≤ W.heap.size) : Env Bc Bw Br By Bh P l n A0 c0 cells row b At ct nt Af cf fs mp W' :=
  ⟨h.bc.keep hk, h.bw.keep hk, h.br.keep hk, h.bY.keep hk, h.bh.keep hk, h.bp.keep hk, h.ic.below (hk.mono hn), h.ix.below (hk.mono hn)⟩
theorem Env.reads (h : Env Bc Bw Br By Bh P l n A0 c0 cells row b At ct nt Af cf fs mp W) :
    W.cell? ⟨Bc, 0, none⟩ = some (.slice A0 cells.length c0) ∧ W.cell? ⟨Bw, 0, none⟩ = some (.pointer (some ⟨P, 0, none⟩)) ∧ W.cell? ⟨Br, 0, none⟩ = some (.int .i64 row) ∧ W.cell? ⟨By, 0, none⟩ = some (.func (.yield l) #[] #[]) ∧
    W.cell? ⟨Bh, 0, none⟩ = some (.func (.func 96) #[] #[.pointer (some ⟨Bc, 0, none⟩), .pointer (some ⟨Bw, 0, none⟩), .pointer (some ⟨Br, 0, none⟩), .pointer (some ⟨By, 0, none⟩), .pointer (some ⟨Bh, 0, none⟩)]) ∧
    W.cell? ⟨P, 0, none⟩ = some (.int .i64 b) ∧ W.cell? ⟨P, 1, none⟩ = some (.slice At nt ct) ∧ W.cell? ⟨P, 2, none⟩ = some (.slice Af fs.length cf) :=
  ⟨h.bc.c1, h.bw.c1, h.br.c1, h.bY.c1, h.bh.c1, h.bp.c4.1, h.bp.c4.2.1, h.bp.c4.2.2.1⟩
end
end Go.Proofs.YtlnamjhgbdacbaaGreat
/- choose, at a whole row: what it yields. -/
namespace Go.Proofs.YtlnamjhgbdacbaaGreat
open Go.RowKit Go.Shelf

/-- what is asked of the table, the row and the fixes -/
structure RowOk (cells : List Int) (b : Int) (fs : List Fx) : Prop where
  b1 : 2 ≤ b
  b2 : b ≤ 100
  l1 : 1 ≤ cells.length
  l2 : cells.length ≤ 4
  cell : ∀ x ∈ cells, 0 ≤ x ∧ x ≤ 10000
  n : fs.length ≤ 100
  col : ∀ f ∈ fs, 0 ≤ f.col ∧ f.col < cells.length
theorem sum_bound : ∀ (xs : List Int) (M : Int), (∀ x ∈ xs, 0 ≤ x ∧ x ≤ M) → 0 ≤ xs.sum ∧ xs.sum ≤ M * xs.length
  | [], M, _ => by simp
  | x :: xs, M, h => by
    have h1 := h x (by simp)
    have h2 := sum_bound xs M (fun x hx => h x (by simp [hx]))
    simp only [List.sum_cons, List.length_cons]
    have : M * ((xs.length + 1 : Nat) : Int) = M * xs.length + M := by rw [Int.natCast_add]; simp [Int.mul_add]
    omega
theorem RowOk.sum {cells : List Int} {b : Int} {fs : List Fx} (h : RowOk cells b fs) : 0 ≤ cells.sum ∧ cells.sum ≤ 1000000 := by
  have := sum_bound cells 10000 h.cell
  have h2 := h.l2
  omega

set_option maxRecDepth 100000 in
set_option maxHeartbeats 4000000 in
theorem choose_take {Bc Bw Br By Bh P l n : Nat} {A0 : Option Addr} {c0 : Nat} {cells : List Int} {row b : Int} {At : Option Addr} {ct nt : Nat} {Af : Option Addr} {cf : Nat} {fs : List Fx} {mp : Value} {W : World}
    {y m : Nat} {pre : List Int} {R : Ending → World → Prop}
    (he : Env Bc Bw Br By Bh P l n A0 c0 cells row b At ct nt Af cf fs mp W) (hn : n ≤ W.heap.size) (hlb : LB W y m pre) (hlen : pre.length = cells.length) (ok : RowOk cells b fs) (hpre : ∀ x ∈ pre, 0 ≤ x ∧ x ≤ 10100)
    (h1 : nearB b pre.sum cells.sum = true) (h2 : holdsB fs row pre = true)
    (hy : ∀ A c W1, Below W.heap.size W W1 → IsInts W1 W1.heap.size A pre → (∀ a, A = some a → W.heap.size ≤ a.block ∧ ∃ cs, Blk W1 a.block 3 cs) → pre.length ≤ c → c ≤ maxLen → (A = none → c = 0) → YieldAt (FW none) 0 Tryz.prog l #[.slice A pre.length c] W1 fun e W2 => e = .returned (.bool true) ∧ R e W2) :
    Calls Tryz.prog 96 #[.slice (some ⟨y, 0, none⟩) pre.length m, .pointer (some ⟨Bc, 0, none⟩), .pointer (some ⟨Bw, 0, none⟩), .pointer (some ⟨Br, 0, none⟩), .pointer (some ⟨By, 0, none⟩), .pointer (some ⟨Bh, 0, none⟩)] W R := by
  have k := he.reads
  obtain ⟨k1, k2, k3, k4, k5, k6, k7, k8⟩ := k
  have HF := hid (show ∀ W1, Below W.heap.size W W1 → _ from fun W1 hb => (he.below hb hn).reads)
  have T1 := hid (show ∀ W1, Below W.heap.size W W1 → _ from fun W1 hb => total_any _ m pre W1 (hlb.below hb |>.ints (hlb.below hb).lt) (by have := ok.l2; omega) (fun x hx => by have := hpre x hx; omega))
  have T2 := hid (show ∀ W1, Below W.heap.size W W1 → _ from fun W1 hb => total_any A0 c0 cells W1 ((he.below hb hn).ic.more (by have := hb.size; omega)) (by have := ok.l2; omega) (fun x hx => by have := ok.cell x hx; omega))
  have T3 := hid (show ∀ W1, Below W.heap.size W W1 → _ from fun W1 hb => near_any b pre.sum cells.sum (.slice At nt ct) (.slice Af fs.length cf) W1 ok.b1 ok.b2 ok.sum.1 ok.sum.2)
  rw [h1] at T3
  have T4 := hid (show ∀ W1, Below W.heap.size W W1 → _ from fun W1 hb => holds_any (.int .i64 b) (.slice At nt ct) Af cf fs row (some ⟨y, 0, none⟩) m pre W1 ((he.below hb hn).ix.more (by have := hb.size; omega)) (hlb.below hb |>.ints (hlb.below hb).lt) ok.n (by have := ok.l2; omega) (fun f hf => by have := ok.col f hf; omega))
  rw [h2] at T4
  have T5 := hid (show ∀ W1, Below W.heap.size W W1 → _ from fun W1 hb => clone_any (some ⟨y, 0, none⟩) m pre W1 (hlb.below hb |>.ints (hlb.below hb).lt) (fun e => by cases e) (by have := ok.l2; omega))
  have HY := hid hy
  have hL : ((pre.length : Int) == (cells.length : Int)) = true := by simp [hlen]
  clear hy he hlb ok hpre h1 h2 hn hlen
  go_enter Tryz.func96, Tryz.ntmps96
  go_wp2
  clear k1 k2 k3 k4 k5 k6 k7 k8
  refine (wpIn_wide (n := 0)).1 ?_
  refine wpIn_region_each 24 (fun i v W' => match i with | 0 => v = .pointer (some ⟨P, 0, none⟩) | 1 => v = .pointer (some ⟨P, 0, none⟩) | 2 => v = .pointer (some ⟨P, 0, none⟩) | 3 => v = .agg #[.int .i64 b, .slice At nt ct, .slice Af fs.length cf] | 4 => v = .slice (some ⟨y, 0, none⟩) pre.length m | 5 => v = .int .i64 pre.sum | 6 => v = .slice A0 cells.length c0 | 7 => v = .int .i64 cells.sum | 8 => v = .bool true | 9 => v = .bool false | 10 => v = .bool false | 11 => v = .pointer (some ⟨P, 0, none⟩) | 12 => v = .pointer (some ⟨P, 0, none⟩) | 13 => v = .pointer (some ⟨P, 0, none⟩) | 14 => v = .agg #[.int .i64 b, .slice At nt ct, .slice Af fs.length cf] | 15 => v = .int .i64 row | 16 => v = .slice (some ⟨y, 0, none⟩) pre.length m | 17 => v = .bool true | 18 => v = .bool false | 19 => v = .bool false | 20 => v = .bool false | 21 => v = .func (.yield l) #[] #[] | 22 => v = .slice (some ⟨y, 0, none⟩) pre.length m | 23 => ∃ A c, v = .slice A pre.length c ∧ pre.length ≤ c ∧ c ≤ maxLen ∧ IsInts W' W'.heap.size A pre ∧ (∀ a, A = some a → W.heap.size ≤ a.block ∧ ∃ cs, Blk W' a.block 3 cs) ∧ (A = none → c = 0) | _ => True) (fun W W' => Below W.heap.size W W') (fun _ _ => True) (by kernel_rfl) (by kernel_rfl) ?_ (fun h k => h.trans (k.mono h.size)) ⟨rfl, rfl, rfl, Nat.le_refl _, fun _ _ => rfl⟩ trivial (by kernel_rfl) ?_ ?_
  · intro i v W1 W2 hb h
    match i, h with
    | 0, h => exact h
    | 1, h => exact h
    | 2, h => exact h
    | 3, h => exact h
    | 4, h => exact h
    | 5, h => exact h
    | 6, h => exact h
    | 7, h => exact h
    | 8, h => exact h
    | 9, h => exact h
    | 10, h => exact h
    | 11, h => exact h
    | 12, h => exact h
    | 13, h => exact h
    | 14, h => exact h
    | 15, h => exact h
    | 16, h => exact h
    | 17, h => exact h
    | 18, h => exact h
    | 19, h => exact h
    | 20, h => exact h
    | 21, h => exact h
    | 22, h => exact h
    | 23, h =>
      obtain ⟨A, c, rfl, g1, g2, g3, g4, g5⟩ := h
      exact ⟨A, c, rfl, g1, g2, g3.at_ hb, fun a e => ⟨(g4 a e).1, ex_of (g4 a e).2 fun _ h => h.keep hb⟩, g5⟩
    | i + 24, h => trivial
  · refine ⟨?_, ?_, ?_, ?_, ?_, ?_, ?_, ?_, ?_, ?_, ?_, ?_, ?_, ?_, ?_, ?_, ?_, ?_, ?_, ?_, ?_, ?_, ?_, ?_, trivial⟩
    · -- 0: Op.load 83 t2
      intro li a1 W1 hA K hK
      have e2 := hA.par 2 (by kernel_rfl)
      obtain ⟨q1, q2, q3, q4, q5, q6, q7, q8⟩ := HF.out W1 hA.st
      have HS := hid hA.st
      refine opStep none 0 rfl rfl (fun c hc => by cases hc) ?_
      go_simp
      exact hK _ _ rfl (Below.refl _ _) trivial
    · -- 1: Op.nilCheck t16
      intro li a1 W1 hA K hK
      have e16 : a1.tmps.getD 16 undef = .pointer (some ⟨P, 0, none⟩) := hA.val 0 16 (by kernel_rfl) (by kernel_rfl)
      obtain ⟨q1, q2, q3, q4, q5, q6, q7, q8⟩ := HF.out W1 hA.st
      have HS := hid hA.st
      refine opStep none 0 rfl rfl (fun c hc => by cases hc) ?_
      go_simp
      exact hK _ _ rfl (Below.refl _ _) trivial
    · -- 2: Op.fieldAddr 124 t17 0
      intro li a1 W1 hA K hK
      have e17 : a1.tmps.getD 17 undef = .pointer (some ⟨P, 0, none⟩) := hA.val 1 17 (by kernel_rfl) (by kernel_rfl)
      obtain ⟨q1, q2, q3, q4, q5, q6, q7, q8⟩ := HF.out W1 hA.st
      have HS := hid hA.st
      refine opStep none 0 rfl rfl (fun c hc => by cases hc) ?_
      go_simp
      exact hK _ _ rfl (Below.refl _ _) trivial
    · -- 3: Op.load 33 t18
      intro li a1 W1 hA K hK
      have e18 : a1.tmps.getD 18 undef = .pointer (some ⟨P, 0, none⟩) := hA.val 2 18 (by kernel_rfl) (by kernel_rfl)
      obtain ⟨q1, q2, q3, q4, q5, q6, q7, q8⟩ := HF.out W1 hA.st
      have HS := hid hA.st
      refine opStep none 0 rfl rfl (fun c hc => by cases hc) ?_
      go_simp
      exact hK _ _ rfl (Below.refl _ _) trivial
    · -- 4: Op.move t0
      intro li a1 W1 hA K hK
      have e0 := hA.par 0 (by kernel_rfl)
      obtain ⟨q1, q2, q3, q4, q5, q6, q7, q8⟩ := HF.out W1 hA.st
      have HS := hid hA.st
      refine opStep none 0 rfl rfl (fun c hc => by cases hc) ?_
      go_simp
      exact hK _ _ rfl (Below.refl _ _) trivial
    · -- 5: Op.call { value (Operand.func 63), args := #[t20], argTypes := #[56] }
      intro li a1 W1 hA K hK
      have e20 : a1.tmps.getD 20 undef = .slice (some ⟨y, 0, none⟩) pre.length m := hA.val 4 20 (by kernel_rfl) (by kernel_rfl)
      obtain ⟨q1, q2, q3, q4, q5, q6, q7, q8⟩ := HF.out W1 hA.st
      have HS := hid hA.st
      refine opStep none 0 rfl rfl (fun c hc => by cases hc) ?_
      go_simp
      refine (T1.out W1 HS.out).mono ?_
      rintro e W2 ⟨rfl, rfl⟩
      exact hK _ _ rfl (Below.refl _ _) trivial
    · -- 6: Op.load 56 t1
      intro li a1 W1 hA K hK
      have e1 := hA.par 1 (by kernel_rfl)
      obtain ⟨q1, q2, q3, q4, q5, q6, q7, q8⟩ := HF.out W1 hA.st
      have HS := hid hA.st
      refine opStep none 0 rfl rfl (fun c hc => by cases hc) ?_
      go_simp
      exact hK _ _ rfl (Below.refl _ _) trivial
    · -- 7: Op.call { value (Operand.func 63), args := #[t22], argTypes := #[56] }
      intro li a1 W1 hA K hK
      have e22 : a1.tmps.getD 22 undef = .slice A0 cells.length c0 := hA.val 6 22 (by kernel_rfl) (by kernel_rfl)
      obtain ⟨q1, q2, q3, q4, q5, q6, q7, q8⟩ := HF.out W1 hA.st
      have HS := hid hA.st
      refine opStep none 0 rfl rfl (fun c hc => by cases hc) ?_
      go_simp
      refine (T2.out W1 HS.out).mono ?_
      rintro e W2 ⟨rfl, rfl⟩
      exact hK _ _ rfl (Below.refl _ _) trivial
    · -- 8: Op.call { value (Operand.func 70), args := #[t19, t21, t23], argTypes := #[33, 3, 3] }
      intro li a1 W1 hA K hK
      have e19 : a1.tmps.getD 19 undef = .agg #[.int .i64 b, .slice At nt ct, .slice Af fs.length cf] := hA.val 3 19 (by kernel_rfl) (by kernel_rfl)
      have e21 : a1.tmps.getD 21 undef = .int .i64 pre.sum := hA.val 5 21 (by kernel_rfl) (by kernel_rfl)
      have e23 : a1.tmps.getD 23 undef = .int .i64 cells.sum := hA.val 7 23 (by kernel_rfl) (by kernel_rfl)
      obtain ⟨q1, q2, q3, q4, q5, q6, q7, q8⟩ := HF.out W1 hA.st
      have HS := hid hA.st
      refine opStep none 0 rfl rfl (fun c hc => by cases hc) ?_
      go_simp
      refine (T3.out W1 HS.out).mono ?_
      rintro e W2 ⟨rfl, hb2⟩
      exact hK _ _ rfl hb2 trivial
    · -- 9: Op.unOp UnOp.not 4 t24
      intro li a1 W1 hA K hK
      have e24 : a1.tmps.getD 24 undef = .bool true := hA.val 8 24 (by kernel_rfl) (by kernel_rfl)
      obtain ⟨q1, q2, q3, q4, q5, q6, q7, q8⟩ := HF.out W1 hA.st
      have HS := hid hA.st
      refine opStep none 0 rfl rfl (fun c hc => by cases hc) ?_
      go_simp
      exact hK _ _ rfl (Below.refl _ _) trivial
    · -- 10: Op.move t25
      intro li a1 W1 hA K hK
      have e25 : a1.tmps.getD 25 undef = .bool false := hA.val 9 25 (by kernel_rfl) (by kernel_rfl)
      obtain ⟨q1, q2, q3, q4, q5, q6, q7, q8⟩ := HF.out W1 hA.st
      have HS := hid hA.st
      refine opStep none 0 rfl rfl (fun c hc => by cases hc) ?_
      go_simp
      exact hK _ _ rfl (Below.refl _ _) trivial
    · -- 11: Op.load 83 t2
      intro li a1 W1 hA K hK
      have e2 := hA.par 2 (by kernel_rfl)
      obtain ⟨q1, q2, q3, q4, q5, q6, q7, q8⟩ := HF.out W1 hA.st
      have HS := hid hA.st
      refine opStep none 0 rfl (wanted_yes rfl (show dstB _ 10 26 = true by kernel_rfl) (hA.val 10 26 (by kernel_rfl) (by kernel_rfl))) (fun c hc => by cases hc) ?_
      go_simp
      exact hK _ _ rfl (Below.refl _ _) trivial
    · -- 12: Op.nilCheck t27
      intro li a1 W1 hA K hK
      have e27 : a1.tmps.getD 27 undef = .pointer (some ⟨P, 0, none⟩) := hA.val 11 27 (by kernel_rfl) (by kernel_rfl)
      obtain ⟨q1, q2, q3, q4, q5, q6, q7, q8⟩ := HF.out W1 hA.st
      have HS := hid hA.st
      refine opStep none 0 rfl (wanted_yes rfl (show dstB _ 10 26 = true by kernel_rfl) (hA.val 10 26 (by kernel_rfl) (by kernel_rfl))) (fun c hc => by cases hc) ?_
      go_simp
      exact hK _ _ rfl (Below.refl _ _) trivial
    · -- 13: Op.fieldAddr 124 t28 0
      intro li a1 W1 hA K hK
      have e28 : a1.tmps.getD 28 undef = .pointer (some ⟨P, 0, none⟩) := hA.val 12 28 (by kernel_rfl) (by kernel_rfl)
      obtain ⟨q1, q2, q3, q4, q5, q6, q7, q8⟩ := HF.out W1 hA.st
      have HS := hid hA.st
      refine opStep none 0 rfl (wanted_yes rfl (show dstB _ 10 26 = true by kernel_rfl) (hA.val 10 26 (by kernel_rfl) (by kernel_rfl))) (fun c hc => by cases hc) ?_
      go_simp
      exact hK _ _ rfl (Below.refl _ _) trivial
    · -- 14: Op.load 33 t29
      intro li a1 W1 hA K hK
      have e29 : a1.tmps.getD 29 undef = .pointer (some ⟨P, 0, none⟩) := hA.val 13 29 (by kernel_rfl) (by kernel_rfl)
      obtain ⟨q1, q2, q3, q4, q5, q6, q7, q8⟩ := HF.out W1 hA.st
      have HS := hid hA.st
      refine opStep none 0 rfl (wanted_yes rfl (show dstB _ 10 26 = true by kernel_rfl) (hA.val 10 26 (by kernel_rfl) (by kernel_rfl))) (fun c hc => by cases hc) ?_
      go_simp
      exact hK _ _ rfl (Below.refl _ _) trivial
    · -- 15: Op.load 3 t3
      intro li a1 W1 hA K hK
      have e3 := hA.par 3 (by kernel_rfl)
      obtain ⟨q1, q2, q3, q4, q5, q6, q7, q8⟩ := HF.out W1 hA.st
      have HS := hid hA.st
      refine opStep none 0 rfl (wanted_yes rfl (show dstB _ 10 26 = true by kernel_rfl) (hA.val 10 26 (by kernel_rfl) (by kernel_rfl))) (fun c hc => by cases hc) ?_
      go_simp
      exact hK _ _ rfl (Below.refl _ _) trivial
    · -- 16: Op.move t0
      intro li a1 W1 hA K hK
      have e0 := hA.par 0 (by kernel_rfl)
      obtain ⟨q1, q2, q3, q4, q5, q6, q7, q8⟩ := HF.out W1 hA.st
      have HS := hid hA.st
      refine opStep none 0 rfl (wanted_yes rfl (show dstB _ 10 26 = true by kernel_rfl) (hA.val 10 26 (by kernel_rfl) (by kernel_rfl))) (fun c hc => by cases hc) ?_
      go_simp
      exact hK _ _ rfl (Below.refl _ _) trivial
    · -- 17: Op.call { value (Operand.func 71), args := #[t30, t31, t32], argTypes := #[33, 3, 56] }
      intro li a1 W1 hA K hK
      have e30 : a1.tmps.getD 30 undef = .agg #[.int .i64 b, .slice At nt ct, .slice Af fs.length cf] := hA.val 14 30 (by kernel_rfl) (by kernel_rfl)
      have e31 : a1.tmps.getD 31 undef = .int .i64 row := hA.val 15 31 (by kernel_rfl) (by kernel_rfl)
      have e32 : a1.tmps.getD 32 undef = .slice (some ⟨y, 0, none⟩) pre.length m := hA.val 16 32 (by kernel_rfl) (by kernel_rfl)
      obtain ⟨q1, q2, q3, q4, q5, q6, q7, q8⟩ := HF.out W1 hA.st
      have HS := hid hA.st
      refine opStep none 0 rfl (wanted_yes rfl (show dstB _ 10 26 = true by kernel_rfl) (hA.val 10 26 (by kernel_rfl) (by kernel_rfl))) (fun c hc => by cases hc) ?_
      go_simp
      refine (T4.out W1 HS.out).mono ?_
      rintro e W2 ⟨rfl, hb2⟩
      exact hK _ _ rfl hb2 trivial
    · -- 18: Op.unOp UnOp.not 4 t33
      intro li a1 W1 hA K hK
      have e33 : a1.tmps.getD 33 undef = .bool true := hA.val 17 33 (by kernel_rfl) (by kernel_rfl)
      obtain ⟨q1, q2, q3, q4, q5, q6, q7, q8⟩ := HF.out W1 hA.st
      have HS := hid hA.st
      refine opStep none 0 rfl (wanted_yes rfl (show dstB _ 10 26 = true by kernel_rfl) (hA.val 10 26 (by kernel_rfl) (by kernel_rfl))) (fun c hc => by cases hc) ?_
      go_simp
      exact hK _ _ rfl (Below.refl _ _) trivial
    · -- 19: Op.pick t26 (const (Value.bool true)) t34
      intro li a1 W1 hA K hK
      have e26 : a1.tmps.getD 26 undef = .bool false := hA.val 10 26 (by kernel_rfl) (by kernel_rfl)
      have e34 : a1.tmps.getD 34 undef = .bool false := hA.val 18 34 (by kernel_rfl) (by kernel_rfl)
      obtain ⟨q1, q2, q3, q4, q5, q6, q7, q8⟩ := HF.out W1 hA.st
      have HS := hid hA.st
      refine opStep none 0 rfl rfl (fun c hc => by cases hc) ?_
      go_simp
      exact hK _ _ rfl (Below.refl _ _) trivial
    · -- 20: Op.move t35
      intro li a1 W1 hA K hK
      have e35 : a1.tmps.getD 35 undef = .bool false := hA.val 19 35 (by kernel_rfl) (by kernel_rfl)
      obtain ⟨q1, q2, q3, q4, q5, q6, q7, q8⟩ := HF.out W1 hA.st
      have HS := hid hA.st
      refine opStep none 0 rfl rfl (fun c hc => by cases hc) ?_
      go_simp
      exact hK _ _ rfl (Below.refl _ _) trivial
    · -- 21: Op.load 118 t4
      intro li a1 W1 hA K hK
      have e4 := hA.par 4 (by kernel_rfl)
      obtain ⟨q1, q2, q3, q4, q5, q6, q7, q8⟩ := HF.out W1 hA.st
      have HS := hid hA.st
      refine opStep none 0 rfl (wanted_yes rfl (show dstB _ 20 36 = true by kernel_rfl) (hA.val 20 36 (by kernel_rfl) (by kernel_rfl))) (fun c hc => by cases hc) ?_
      go_simp
      exact hK _ _ rfl (Below.refl _ _) trivial
    · -- 22: Op.move t0
      intro li a1 W1 hA K hK
      have e0 := hA.par 0 (by kernel_rfl)
      obtain ⟨q1, q2, q3, q4, q5, q6, q7, q8⟩ := HF.out W1 hA.st
      have HS := hid hA.st
      refine opStep none 0 rfl (wanted_yes rfl (show dstB _ 20 36 = true by kernel_rfl) (hA.val 20 36 (by kernel_rfl) (by kernel_rfl))) (fun c hc => by cases hc) ?_
      go_simp
      exact hK _ _ rfl (Below.refl _ _) trivial
    · -- 23: Op.call { value (Operand.func 49), args := #[t38], argTypes := #[56] }
      intro li a1 W1 hA K hK
      have e38 : a1.tmps.getD 38 undef = .slice (some ⟨y, 0, none⟩) pre.length m := hA.val 22 38 (by kernel_rfl) (by kernel_rfl)
      obtain ⟨q1, q2, q3, q4, q5, q6, q7, q8⟩ := HF.out W1 hA.st
      have HS := hid hA.st
      refine opStep none 0 rfl (wanted_yes rfl (show dstB _ 20 36 = true by kernel_rfl) (hA.val 20 36 (by kernel_rfl) (by kernel_rfl))) (fun c hc => by cases hc) ?_
      go_simp
      refine (T5.out W1 HS.out).mono ?_
      rintro e W2 ⟨A, c, rfl, h1, h2, h3, h4, h5, h6⟩
      exact hK _ _ ⟨A, c, rfl, h1, h2, h3, fun a e => ⟨Nat.le_trans HS.out.size (h4 a e).1, (h4 a e).2⟩, h5⟩ h6 trivial
  · intro li a1 W1 hD
    obtain ⟨A, c, e39, g1, g2, g3, g4, g5⟩ := hD.val 23 39 (by kernel_rfl) (by kernel_rfl)
    have e37 : a1.tmps.getD 37 undef = .func (.yield l) #[] #[] := hD.val 21 37 (by kernel_rfl) (by kernel_rfl)
    have e36 : a1.tmps.getD 36 undef = .bool false := hD.val 20 36 (by kernel_rfl) (by kernel_rfl)
    refine tail_step (i := 24) rfl ?_
    refine opYield rfl (wanted_yes rfl (show dstB _ 20 36 = true by kernel_rfl) e36) (fun c hc => by cases hc) ?_ (HY.out A c W1 hD.st g3 g4 g1 g2 g5) ?_
    · simp [go_sem, e37, e39]
    · rintro e W2 ⟨rfl, hr⟩
      refine ⟨_, rfl, ?_⟩
      have hs : a1.tmps.size = 78 := hD.size
      have hd : a1.defers = [] := hD.defers
      have HR := hid hr
      clear HF T1 T2 T3 T4 T5 HY hD g1 g2 g3 g4 g5 e37 e39 hr
      have f40 := put_getD_same (a := a1) (d := 40) (v := .bool true) (by rw [hs]; decide)
      have f36 := (put_getD_other (a := a1) (d := 40) (d' := 36) (v := .bool true) (by decide)).trans e36
      replace hs := (put_size (a := a1) (d := some 40) (v := .bool true)).trans hs
      replace hd := (put_defers (a := a1) (d := some 40) (v := .bool true)).trans hd
      clear e36
      generalize a1.put (some 40) (.bool true) = a2 at *
      refine tail_val (i := 25) (W' := W2) (v := .bool true) none 0 rfl rfl rfl (fun c hc => by cases hc) (by go_simp) (by rw [hs]; decide) ?_
      intro a3 s3 d3 f41 _
      refine tail_val (i := 26) (W' := W2) (v := .bool true) none 0 rfl rfl rfl (fun c hc => by cases hc) (by go_simp) (by rw [s3, hs]; decide) ?_
      intro a4 s4 d4 f7 _
      replace hd := (d4.trans d3).trans hd
      clear s3 d3 f41 s4 d4 f40 f36 hs
      refine wpListIn_nil ?_
      go_wp2
      exact bodyPost_ret (v := .bool true) ((results_tmp Tryz.results96 _ _ _).trans (by rw [f7])) hd HR.out

set_option maxRecDepth 100000 in
set_option maxHeartbeats 4000000 in
theorem choose_drop {Bc Bw Br By Bh P l n : Nat} {A0 : Option Addr} {c0 : Nat} {cells : List Int} {row b : Int} {At : Option Addr} {ct nt : Nat} {Af : Option Addr} {cf : Nat} {fs : List Fx} {mp : Value} {W : World}
    {y m : Nat} {pre : List Int}
    (he : Env Bc Bw Br By Bh P l n A0 c0 cells row b At ct nt Af cf fs mp W) (hn : n ≤ W.heap.size) (hlb : LB W y m pre) (hlen : pre.length = cells.length) (ok : RowOk cells b fs) (hpre : ∀ x ∈ pre, 0 ≤ x ∧ x ≤ 10100)
    (h : testB b cells fs row pre = false) :
    Calls Tryz.prog 96 #[.slice (some ⟨y, 0, none⟩) pre.length m, .pointer (some ⟨Bc, 0, none⟩), .pointer (some ⟨Bw, 0, none⟩), .pointer (some ⟨Br, 0, none⟩), .pointer (some ⟨By, 0, none⟩), .pointer (some ⟨Bh, 0, none⟩)] W fun e W' => e = .returned (.bool true) ∧ Below W.heap.size W W' := by
  have k := he.reads
  obtain ⟨k1, k2, k3, k4, k5, k6, k7, k8⟩ := k
  have HF := hid (show ∀ q, _ from fun q => (he.below (below_xt W q) hn).reads)
  have T1 := hid (show ∀ q, _ from fun q => Calls.same_below (total_any _ m pre (xt W q) (hlb.below (below_xt W q) |>.ints (hlb.below (below_xt W q)).lt) (by have := ok.l2; omega) (fun x hx => by have := hpre x hx; omega)))
  have T2 := hid (show ∀ q, _ from fun q => Calls.same_below (total_any A0 c0 cells (xt W q) ((he.below (below_xt W q) hn).ic.more (by have := (below_xt W q).size; omega)) (by have := ok.l2; omega) (fun x hx => by have := ok.cell x hx; omega)))
  have T3 := hid (show ∀ q, _ from fun q => near_any b pre.sum cells.sum (.slice At nt ct) (.slice Af fs.length cf) (xt W q) ok.b1 ok.b2 ok.sum.1 ok.sum.2)
  have T4 := hid (show ∀ q, _ from fun q => holds_any (.int .i64 b) (.slice At nt ct) Af cf fs row (some ⟨y, 0, none⟩) m pre (xt W q) ((he.below (below_xt W q) hn).ix.more (by have := (below_xt W q).size; omega)) (hlb.below (below_xt W q) |>.ints (hlb.below (below_xt W q)).lt) ok.n (by have := ok.l2; omega) (fun f hf => by have := ok.col f hf; omega))
  have hL : ((pre.length : Int) == (cells.length : Int)) = true := by simp [hlen]
  have c1 : ∀ q, (xt W q).cell? ⟨Bc, 0, none⟩ = some (.slice A0 cells.length c0) := fun q => (HF.out q).1
  have c2 : ∀ q, (xt W q).cell? ⟨Bw, 0, none⟩ = some (.pointer (some ⟨P, 0, none⟩)) := fun q => (HF.out q).2.1
  have c3 : ∀ q, (xt W q).cell? ⟨Br, 0, none⟩ = some (.int .i64 row) := fun q => (HF.out q).2.2.1
  have c6 : ∀ q, (xt W q).cell? ⟨P, 0, none⟩ = some (.int .i64 b) := fun q => (HF.out q).2.2.2.2.2.1
  have c7 : ∀ q, (xt W q).cell? ⟨P, 1, none⟩ = some (.slice At nt ct) := fun q => (HF.out q).2.2.2.2.2.2.1
  have c8 : ∀ q, (xt W q).cell? ⟨P, 2, none⟩ = some (.slice Af fs.length cf) := fun q => (HF.out q).2.2.2.2.2.2.2
  clear he hlb ok hpre hn hlen HF
  cases h1 : nearB b pre.sum cells.sum
  · rw [h1] at T3
    clear h h1
    go_enter Tryz.func96, Tryz.ntmps96
    go_wp2
    refine wp_region_quiet_xt (by kernel_rfl) (by kernel_rfl) ?_
    repeat (go_big_quiet_step ((first | (go_at_call 94; with_reducible exact Calls.xt (T3.out _)) | (go_at_call 83; with_reducible exact Calls.xt (T1.out _)) | (go_at_call 83; with_reducible exact Calls.xt (T2.out _)))))
    refine wpQuiet_nil ?_
    intro w3 hw3
    replace hw3 := of_xt hw3
    go_wp2
    go_ret
    exact ⟨rfl, hw3⟩
  · have h2 : holdsB fs row pre = false := by simpa [testB, h1] using h
    rw [h1] at T3
    rw [h2] at T4
    clear h h1 h2
    go_enter Tryz.func96, Tryz.ntmps96
    go_wp2
    refine wp_region_quiet_xt (by kernel_rfl) (by kernel_rfl) ?_
    repeat (go_big_quiet_step ((first | (go_at_call 94; with_reducible exact Calls.xt (T3.out _)) | (go_at_call 97; with_reducible exact Calls.xt (T4.out _)) | (go_at_call 83; with_reducible exact Calls.xt (T1.out _)) | (go_at_call 83; with_reducible exact Calls.xt (T2.out _)))))
    refine wpQuiet_nil ?_
    intro w3 hw3
    replace hw3 := of_xt hw3
    go_wp2
    go_ret
    exact ⟨rfl, hw3⟩
end Go.Proofs.YtlnamjhgbdacbaaGreat
