/- The walks and the plain laws of this part of the program, part 9: what each computes. Conditions stand at each theorem. -/
import Derived.Below
import Derived.Test.YtlnamjhgbdacbaaGreatG1
import Derived.Test.YtlnamjhgbdacbaaGreatG6
import Derived.Test.YtlnamjhgbdacbaaGreatG7
import Derived.Test.YtlnamjhgbdacbaaGreatG8
/- A statement whose order is open: the law, with a phase that sees the activation. -/
namespace Go.Proofs.YtlnamjhgbdacbaaGreat
open Go.RowKit

structure Known2 (ops : Array Oper) (n : Nat) (R : Nat → Value → World → Prop) (St : World → World → Prop) (G : Array Bool → Act → World → Prop) (a : Act) (w : World) (listed : Array Bool) (a' : Act) (W : World) : Prop where
  inv : HeadInv .any ops n listed
  st : St w W
  ph : G listed a' W
  defers : a'.defers = a.defers
  size : a'.tmps.size = a.tmps.size
  rest : ∀ d, (∀ i, i < n → (ops[i]?).bind (·.dst) ≠ some d) → a'.tmps.getD d undef = a.tmps.getD d undef
  rel : ∀ i, i < n → listed.getD i false = true → ∀ d, (ops[i]?).bind (·.dst) = some d → R i (a'.tmps.getD d undef) W

theorem wpAnyIn_rel2 {F : Fence} {m : Nat} {P : Program} {ops : Array Oper} {n : Nat} {Q : Exit → Act → World → Prop} {a : Act} {w : World} {R : Nat → Value → World → Prop} {St : World → World → Prop} {G : Array Bool → Act → World → Prop}
    (hB : relB ops n = true) (hR : ∀ i v W W', St W W' → R i v W → R i v W') (hT : ∀ {A B C : World}, St A B → St B C → St A C)
    (hds : ∀ i, i < n → ∀ d, (ops[i]?).bind (·.dst) = some d → d < a.tmps.size)
    (hstep : ∀ i o (listed : Array Bool) (a' : Act) (W : World), i < n → ops[i]? = some o → listed.size = ops.size → listed.getD i false = false →
      (∀ j oj, ops[j]? = some oj → listed.getD j false = true → ∀ e ∈ oj.after, Region.binds .any e = true → listed.getD e.on false = true) →
      G listed a' W → St w W → a'.defers = a.defers → a'.tmps.size = a.tmps.size →
      (∀ d, (∀ i, i < n → (ops[i]?).bind (·.dst) ≠ some d) → a'.tmps.getD d undef = a.tmps.getD d undef) →
      (∀ j, (∃ e, e ∈ o.after ∧ Region.binds .any e = true ∧ e.on = j) → listed.getD j false = true ∧ ∀ d, (ops[j]?).bind (·.dst) = some d → R j (a'.tmps.getD d undef) W) →
      ∀ K : Act → World → Prop, (∀ v W', R i v W' → St W W' → G (listed.setIfInBounds i true) (a'.put o.dst v) W' → K (a'.put o.dst v) W') → wpOpIn F m P ops Q i K a' W)
    (hend : ∀ (listed : Array Bool) (a' : Act) (W : World), (∀ i, i < n → listed.getD i false = true) → G listed a' W → St w W → a'.defers = a.defers → a'.tmps.size = a.tmps.size →
      (∀ d, (∀ i, i < n → (ops[i]?).bind (·.dst) ≠ some d) → a'.tmps.getD d undef = a.tmps.getD d undef) →
      (∀ i, i < n → ∀ d, (ops[i]?).bind (·.dst) = some d → R i (a'.tmps.getD d undef) W) → wpListIn F m P ops Q (ops.toList.drop n) a' W) :
    ∀ (f : Nat) (listed : Array Bool) (a' : Act) (W : World), (unlistedOf n listed).length = f → Known2 ops n R St G a w listed a' W → wpAnyIn F m P .any ops Q (f + (ops.size - n)) listed a' W := by
  simp only [relB, Bool.and_eq_true, decide_eq_true_eq] at hB
  obtain ⟨⟨⟨⟨⟨hdeps, hdst⟩, hn⟩, hs⟩, hc⟩, hseq⟩ := hB
  intro f
  induction f with
  | zero =>
    intro listed a' W hf hk
    have hnone : ∀ i, i < n → listed.getD i false = true := by
      intro i hi
      cases hl : listed.getD i false with
      | true => rfl
      | false =>
        have : i ∈ unlistedOf n listed := List.mem_filter.2 ⟨List.mem_range.2 hi, by simp [hl]⟩
        rw [List.eq_nil_of_length_eq_zero hf] at this
        cases this
    have hcan : listed = Array.replicate n true ++ Array.replicate (ops.size - n) false := by
      apply Array.ext
      · simp [hk.inv.size]; omega
      · intro i h1 h2
        by_cases hi : i < n
        · have := hnone i hi
          rw [Array.getElem_append_left (by simpa using hi)]
          simpa [Array.getD_eq_getD_getElem?, h1] using this
        · have := hk.inv.tail i (by omega) (by rw [← hk.inv.size]; exact h1)
          rw [Array.getElem_append_right (by simpa using hi)]
          simpa [Array.getD_eq_getD_getElem?, h1] using this
    have hl : (ops.toList.drop n).length = ops.size - n := by simp
    rw [Nat.zero_add, ← hl]
    refine wpAnyIn_of_seq (ops.toList.drop n) n listed a' W (fun j => by simp [List.getElem?_drop]) (by rw [hl, hcan]; exact hseq) ?_
    exact hend listed a' W hnone hk.ph hk.st hk.defers hk.size hk.rest (fun i hi d hd => hk.rel i hi (hnone i hi) d hd)
  | succ f ih =>
    intro listed a' W hf hk
    have hne : unlistedOf n listed ≠ [] := fun h => by rw [h] at hf; cases hf
    obtain ⟨i0, hi0⟩ := List.exists_mem_of_ne_nil _ hne
    have hi0n : i0 < n := List.mem_range.1 (List.mem_filter.1 hi0).1
    have hi0f : listed.getD i0 false = false := by simpa using (List.mem_filter.1 hi0).2
    have hhead : ∀ i ∈ Region.ready .any ops listed, i < n := by
      intro i hi
      rcases Nat.lt_or_ge i n with h | h
      · exact h
      · exact absurd hi (tail_waits hs hc hn hk.inv (n - i0) i0 rfl hi0n (getD_in (by rw [hk.inv.size]; omega) hi0f) i h)
    have hready : Region.ready .any ops listed ≠ [] := by
      have key : ∀ m i, i ≤ m → i < n → listed.getD i false = false → ∃ j, j ∈ Region.ready .any ops listed := by
        intro m
        induction m with
        | zero =>
          intro i hi hin hl
          obtain rfl : i = 0 := by omega
          have ho : ops[0]? = some (ops[0]'(by omega)) := Array.getElem?_eq_getElem _
          exact ⟨0, mem_ready.2 ⟨getD_in (by rw [hk.inv.size]; omega) hl, _, ho, fun e he hb => absurd (depsB_spec hdeps ho he hb) (Nat.not_lt_zero _)⟩⟩
        | succ m ihm =>
          intro i hi hin hl
          have ho : ops[i]? = some (ops[i]'(by omega)) := Array.getElem?_eq_getElem _
          by_cases hall : ∀ e ∈ (ops[i]'(by omega)).after, Region.binds .any e = true → listed.getD e.on false = true
          · exact ⟨i, mem_ready.2 ⟨getD_in (by rw [hk.inv.size]; omega) hl, _, ho, hall⟩⟩
          · simp only [Classical.not_forall] at hall
            obtain ⟨e, he, hb, hnl⟩ := hall
            have hlt := depsB_spec hdeps ho he hb
            exact ihm e.on (by omega) (by omega) (by simpa using hnl)
      obtain ⟨j, hj⟩ := key i0 i0 (Nat.le_refl _) hi0n hi0f
      exact List.ne_nil_of_mem hj
    rw [show f + 1 + (ops.size - n) = (f + (ops.size - n)) + 1 by omega]
    refine ⟨fun h => absurd h hready, fun i hi => ?_⟩
    have hin := hhead i hi
    obtain ⟨hlt, o, ho, hall⟩ := mem_ready.1 hi
    have hif : listed.getD i false = false := getD_both hlt
    refine hstep i o listed a' W hin ho hk.inv.size hif hk.inv.closed hk.ph hk.st hk.defers hk.size hk.rest (fun j ⟨e, he, hb, hj⟩ => by
      subst hj
      exact ⟨hall e he hb, fun d hd => hk.rel e.on (by have := depsB_spec hdeps ho he hb; omega) (hall e he hb) d hd⟩) _ ?_
    intro v W' hv hst hg
    refine ih _ _ _ ?_ ⟨hk.inv.set hi hin, hT hk.st hst, hg, by rw [put_defers]; exact hk.defers, by rw [put_size]; exact hk.size, fun d hd => ?_, fun j hj hl d hd => ?_⟩
    · have hsz : i < listed.size := by rw [hk.inv.size]; omega
      have : (unlistedOf n (listed.setIfInBounds i true)) = (unlistedOf n listed).filter (fun j => !(j == i)) := by
        unfold unlistedOf
        rw [List.filter_filter]
        apply List.filter_congr
        intro j _
        by_cases hji : j = i
        · subst hji; rw [getD_set_eq hsz]; simp
        · rw [getD_set_oth (fun h => hji h.symm)]; simp [hji]
      rw [this]
      have hnd : (unlistedOf n listed).Nodup := List.Nodup.sublist List.filter_sublist List.nodup_range
      have hmem : i ∈ unlistedOf n listed := List.mem_filter.2 ⟨List.mem_range.2 hin, by simp [hif]⟩
      have he : (unlistedOf n listed).filter (fun j => !(j == i)) = (unlistedOf n listed).erase i := by
        rw [hnd.erase_eq_filter]; rfl
      rw [he, List.length_erase_of_mem hmem, hf]; rfl
    · have hne' : o.dst ≠ some d := by
        have := hd i hin
        rw [ho] at this
        exact this
      cases hod : o.dst with
      | none => simpa [Act.put, hod] using hk.rest d hd
      | some d' =>
        rw [put_getD_other (by rintro rfl; exact hne' hod)]
        exact hk.rest d hd
    · by_cases hji : j = i
      · subst hji
        rw [ho] at hd
        have hod : o.dst = some d := hd
        rw [hod, put_getD_same (by rw [hk.size]; exact hds j hj d (by rw [ho]; exact hod))]
        exact hv
      · rw [getD_set_oth (fun h => hji h.symm)] at hl
        have hR' := hR j _ _ _ hst (hk.rel j hj hl d hd)
        cases hod : o.dst with
        | none => simpa [Act.put, hod] using hR'
        | some d' =>
          rw [put_getD_other (by
            rintro rfl
            exact dstsB_spec hdst hin hj (fun h => hji h.symm) (by rw [ho]; exact hod) hd)]
          exact hR'

theorem wpIn_region_rel2 {F : Fence} {m : Nat} {P : Program} {id : Nat} {Q : Exit → Act → World → Prop} {a : Act} {w : World} {l : List Oper} (n : Nat) (R : Nat → Value → World → Prop) (St : World → World → Prop) (G : Array Bool → Act → World → Prop) (hm : P.follows .mixedOrders = true)
    (hB : relB l.toArray n = true) (hR : ∀ i v W W', St W W' → R i v W → R i v W') (hT : ∀ {A B C : World}, St A B → St B C → St A C) (h0 : St w { w with drawn := w.drawn + 1 }) (hG : G (Array.replicate l.length false) a { w with drawn := w.drawn + 1 })
    (hds : (List.range n).all (fun i => (((l.toArray[i]?).bind (·.dst)).all fun d => decide (d < a.tmps.size))) = true)
    (hstep : ∀ i o (listed : Array Bool) (a' : Act) (W : World), i < n → l[i]? = some o → listed.size = l.length → listed.getD i false = false →
      (∀ j oj, l[j]? = some oj → listed.getD j false = true → ∀ e ∈ oj.after, Region.binds .any e = true → listed.getD e.on false = true) →
      G listed a' W → St w W → a'.defers = a.defers → a'.tmps.size = a.tmps.size →
      (∀ d, (∀ i, i < n → (l.toArray[i]?).bind (·.dst) ≠ some d) → a'.tmps.getD d undef = a.tmps.getD d undef) →
      (∀ j, (∃ e, e ∈ o.after ∧ Region.binds .any e = true ∧ e.on = j) → listed.getD j false = true ∧ ∀ d, (l.toArray[j]?).bind (·.dst) = some d → R j (a'.tmps.getD d undef) W) →
      ∀ K : Act → World → Prop, (∀ v W', R i v W' → St W W' → G (listed.setIfInBounds i true) (a'.put o.dst v) W' → K (a'.put o.dst v) W') → wpOpIn F m P l.toArray Q i K a' W)
    (hend : ∀ (listed : Array Bool) (a' : Act) (W : World), (∀ i, i < n → listed.getD i false = true) → G listed a' W → St w W → a'.defers = a.defers → a'.tmps.size = a.tmps.size →
      (∀ d, (∀ i, i < n → (l.toArray[i]?).bind (·.dst) ≠ some d) → a'.tmps.getD d undef = a.tmps.getD d undef) →
      (∀ i, i < n → ∀ d, (l.toArray[i]?).bind (·.dst) = some d → R i (a'.tmps.getD d undef) W) → wpListIn F m P l.toArray Q (l.drop n) a' W) :
    (Code.region id l.toArray true).wpIn F m P Q a w := by
  refine wpIn_region_any hm ?_
  have hn : n < l.toArray.size := by
    simp only [relB, Bool.and_eq_true, decide_eq_true_eq] at hB
    exact hB.1.1.1.2
  have hu : (unlistedOf n (Array.replicate l.toArray.size false)).length = n := by
    have : unlistedOf n (Array.replicate l.toArray.size false) = List.range n := by
      unfold unlistedOf
      rw [List.filter_eq_self]
      intro i _
      rw [getD_replicate_false]; rfl
    rw [this, List.length_range]
  have hds' : ∀ i, i < n → ∀ d, (l.toArray[i]?).bind (·.dst) = some d → d < a.tmps.size := by
    intro i hi d hd
    have := List.all_eq_true.1 hds i (List.mem_range.2 hi)
    rw [hd] at this
    simpa using this
  have H := wpAnyIn_rel2 (F := F) (m := m) (P := P) (ops := l.toArray) (n := n) (Q := Q) (a := a) (w := w) (R := R) (St := St) (G := G) hB hR hT hds' (fun i o listed a' W hi ho hs h1 h2 => hstep i o listed a' W hi (by simpa using ho) (by simpa using hs) h1 (fun j oj hj => h2 j oj (by simpa using hj)))
    (fun listed a' W h0 h1 h2 h3 h4 h5 h6 => by simpa using hend listed a' W h0 h1 h2 h3 h4 h5 h6) n (Array.replicate l.toArray.size false) a { w with drawn := w.drawn + 1 } hu
    ⟨⟨by simp, fun j oj _ hl => (by rw [getD_replicate_false] at hl; cases hl), fun t _ ht => getD_in (by simpa using ht) (getD_replicate_false _ _)⟩, h0, by simpa using hG, rfl, rfl, fun _ _ => rfl, fun i _ hl => by rw [getD_replicate_false] at hl; cases hl⟩
  rwa [show n + (l.toArray.size - n) = l.toArray.size by omega] at H

structure At2 (l : List Oper) (n : Nat) (R : Nat → Value → World → Prop) (St : World → World → Prop) (G : Array Bool → Act → World → Prop) (a : Act) (w : World) (i : Nat) (o : Oper) (listed : Array Bool) (a' : Act) (W : World) : Prop where
  lsize : listed.size = l.length
  new : listed.getD i false = false
  closed : ∀ j oj, l[j]? = some oj → listed.getD j false = true → ∀ e ∈ oj.after, Region.binds .any e = true → listed.getD e.on false = true
  ph : G listed a' W
  st : St w W
  defers : a'.defers = a.defers
  size : a'.tmps.size = a.tmps.size
  rest : ∀ d, (∀ i, i < n → (l.toArray[i]?).bind (·.dst) ≠ some d) → a'.tmps.getD d undef = a.tmps.getD d undef
  dep : ∀ j, (∃ e, e ∈ o.after ∧ Region.binds .any e = true ∧ e.on = j) → listed.getD j false = true ∧ ∀ d, (l.toArray[j]?).bind (·.dst) = some d → R j (a'.tmps.getD d undef) W

structure Done2 (l : List Oper) (n : Nat) (R : Nat → Value → World → Prop) (St : World → World → Prop) (G : Array Bool → Act → World → Prop) (a : Act) (w : World) (listed : Array Bool) (a' : Act) (W : World) : Prop where
  all : ∀ i, i < n → listed.getD i false = true
  ph : G listed a' W
  st : St w W
  defers : a'.defers = a.defers
  size : a'.tmps.size = a.tmps.size
  rest : ∀ d, (∀ i, i < n → (l.toArray[i]?).bind (·.dst) ≠ some d) → a'.tmps.getD d undef = a.tmps.getD d undef
  dep : ∀ i, i < n → ∀ d, (l.toArray[i]?).bind (·.dst) = some d → R i (a'.tmps.getD d undef) W

section
variable {l : List Oper} {n : Nat} {R : Nat → Value → World → Prop} {St : World → World → Prop} {G : Array Bool → Act → World → Prop} {a : Act} {w : World} {i : Nat} {o : Oper} {listed : Array Bool} {a' : Act} {W : World}
theorem At2.val (h : At2 l n R St G a w i o listed a' W) (j d : Nat) (hj : edgeB o j = true) (hd : dstB l j d = true) : R j (a'.tmps.getD d undef) W := by
  refine (h.dep j (edgeB_spec hj)).2 d ?_
  simpa [dstB] using hd
theorem At2.has (h : At2 l n R St G a w i o listed a' W) (j : Nat) (hj : edgeB o j = true) : listed.getD j false = true := (h.dep j (edgeB_spec hj)).1
theorem At2.past (h : At2 l n R St G a w i o listed a' W) {j : Nat} (hl : listed.getD j false = true) (k : Nat) (hj : ((l[j]?).map fun o => edgeB o k).getD false = true) : listed.getD k false = true := by
  cases ho : l[j]? with
  | none => rw [ho] at hj; cases hj
  | some oj =>
    rw [ho] at hj
    obtain ⟨e, he, hb, hk⟩ := edgeB_spec (show edgeB oj k = true from hj)
    rw [← hk]
    exact h.closed j oj ho hl e he hb
theorem At2.par (h : At2 l n R St G a w i o listed a' W) (d : Nat) (hd : parB l n d = true) : a'.tmps.getD d undef = a.tmps.getD d undef := h.rest d (parB_spec hd)
theorem Done2.val (h : Done2 l n R St G a w listed a' W) (j d : Nat) (hj : decide (j < n) = true) (hd : dstB l j d = true) : R j (a'.tmps.getD d undef) W := by
  refine h.dep j (of_decide_eq_true hj) d ?_
  simpa [dstB] using hd
theorem Done2.par (h : Done2 l n R St G a w listed a' W) (d : Nat) (hd : parB l n d = true) : a'.tmps.getD d undef = a.tmps.getD d undef := h.rest d (parB_spec hd)
end
theorem wpIn_region_each2 {F : Fence} {m : Nat} {P : Program} {id : Nat} {Q : Exit → Act → World → Prop} {a : Act} {w : World} {l : List Oper} (n : Nat) (R : Nat → Value → World → Prop) (St : World → World → Prop) (G : Array Bool → Act → World → Prop) (hm : P.follows .mixedOrders = true)
    (hB : relB l.toArray n = true) (hR : ∀ i v W W', St W W' → R i v W → R i v W') (hT : ∀ {A B C : World}, St A B → St B C → St A C) (h0 : St w { w with drawn := w.drawn + 1 }) (hG : G (Array.replicate l.length false) a { w with drawn := w.drawn + 1 })
    (hds : (List.range n).all (fun i => (((l.toArray[i]?).bind (·.dst)).all fun d => decide (d < a.tmps.size))) = true)
    (hstep : AllI (fun i o => ∀ (listed : Array Bool) (a' : Act) (W : World), At2 l n R St G a w i o listed a' W →
      ∀ K : Act → World → Prop, (∀ v W', R i v W' → St W W' → G (listed.setIfInBounds i true) (a'.put o.dst v) W' → K (a'.put o.dst v) W') → wpOpIn F m P l.toArray Q i K a' W) 0 (l.take n))
    (hend : ∀ (listed : Array Bool) (a' : Act) (W : World), Done2 l n R St G a w listed a' W → wpListIn F m P l.toArray Q (l.drop n) a' W) :
    (Code.region id l.toArray true).wpIn F m P Q a w := by
  refine wpIn_region_rel2 n R St G hm hB hR hT h0 hG hds ?_ ?_
  · intro i o listed a' W hi ho h1 h2 h3 h4 h5 h6 h7 h8 h9 K hK
    have := hstep.get (i := i) (o := o) (by rw [List.getElem?_take_of_lt hi]; exact ho)
    rw [Nat.zero_add] at this
    exact this listed a' W ⟨h1, h2, h3, h4, h5, h6, h7, h8, h9⟩ K hK
  · intro listed a' W h1 h2 h3 h4 h5 h6 h7
    exact hend listed a' W ⟨h1, h2, h3, h4, h5, h6, h7⟩
section
variable {l : List Oper} {n : Nat} {R : Nat → Value → World → Prop} {St : World → World → Prop} {G : Array Bool → Act → World → Prop} {a : Act} {w : World} {li : Array Bool} {a' : Act} {W : World}
theorem Done2.act (h : Done2 l n R St G a w li a' W) (ds : List Nat) (hds : dstsIn l n ds = true) :
    a' = { tmps := (mix ds (fun i => a'.tmps.getD i undef) 0 a.tmps.toList).toArray, defers := a.defers } := by
  refine act_mix ds h.size h.defers fun i hi hc => h.rest i fun k hk e => ?_
  have h1 := List.all_eq_true.1 hds k (List.mem_range.2 hk)
  rw [e] at h1
  simp only [Option.all_some] at h1
  rw [h1] at hc
  cases hc
theorem Done2.act_then (h : Done2 l n R St G a w li a' W) (ds : List Nat) (hds : dstsIn l n ds = true) {a4 : Act} {d : Nat} (hs : a4.tmps.size = a'.tmps.size) (hd : a4.defers = a'.defers) (ho : ∀ d', d' ≠ d → a4.tmps.getD d' undef = a'.tmps.getD d' undef) (hdd : ds.contains d = true) :
    a4 = { tmps := (mix ds (fun i => a4.tmps.getD i undef) 0 a.tmps.toList).toArray, defers := a.defers } := by
  refine act_mix ds (hs.trans h.size) (hd.trans h.defers) fun i hi hc => (ho i (fun e => by rw [e, hdd] at hc; cases hc)).trans (h.rest i fun k hk e => ?_)
  have h1 := List.all_eq_true.1 hds k (List.mem_range.2 hk)
  rw [e] at h1
  simp only [Option.all_some] at h1
  rw [h1] at hc
  cases hc
theorem Done2.keeps (h : Done2 l n R St G a w li a' W) {ds : List Nat} (hds : dstsIn l n ds = true) : ∀ i, ds.contains i = false → a'.tmps.getD i undef = a.tmps.getD i undef := fun i hc => h.rest i fun k hk e => by
  have h1 := List.all_eq_true.1 hds k (List.mem_range.2 hk)
  rw [e] at h1
  simp only [Option.all_some] at h1
  rw [h1] at hc
  cases hc
end

end Go.Proofs.YtlnamjhgbdacbaaGreat
/- A table under construction: its box, its rows; a row that is appended to. -/
namespace Go.Proofs.YtlnamjhgbdacbaaGreat
open Go.RowKit Go.Shelf

/-- a list of numbers of the call's own, as a row -/
theorem own_row {W : World} {base : Nat} {v : Value} {xs : List Int} (h : W.ownsRow base 3 1 v xs.length (xs.map (Value.int .i64))) :
    ∃ A c, v = .slice A xs.length c ∧ Good (fun _ => False) W ⟨0, 0, xs⟩ A c := by
  rcases h.2 with ⟨rfl, h0⟩ | ⟨g, cap, cur, rfl, hb, hg, h1, h2, h3, h4⟩
  · have : xs = [] := List.eq_nil_of_length_eq_zero h0
    subst this
    exact ⟨none, 0, rfl, ⟨(fun k x hk => by simp at hk), (fun a e => by cases e), Nat.le_refl 0, Nat.zero_le maxLen, fun _ => rfl⟩⟩
  · refine ⟨_, cap, rfl, ⟨fun k x hk => ⟨_, rfl, (Array.getElem?_eq_some_iff.1 hg).1, h.cells (g := g) rfl k (.int .i64 x) (by rw [List.getElem?_map]; exact congrArg _ hk)⟩, fun a e => ?_, h1, h2, (fun e => by cases e)⟩⟩
    injection e with e
    subst e
    exact ⟨⟨_, hg⟩, id⟩
end Go.Proofs.YtlnamjhgbdacbaaGreat
/- Sums over indices, in plain words. No condition. -/
namespace Go.Proofs.YtlnamjhgbdacbaaGreat

/-- the sum of f 0 .. f (k - 1) -/
def sumN (f : Nat → Int) : Nat → Int
  | 0 => 0
  | k + 1 => sumN f k + f k
theorem sumN_zero (f : Nat → Int) : sumN f 0 = 0 := rfl
theorem sumN_succ (f : Nat → Int) (k : Nat) : sumN f (k + 1) = sumN f k + f k := rfl
theorem sumN_congr {f g : Nat → Int} : ∀ {k : Nat}, (∀ i, i < k → f i = g i) → sumN f k = sumN g k
  | 0, _ => rfl
  | k + 1, h => by rw [sumN_succ, sumN_succ, sumN_congr (k := k) fun i hi => h i (by omega), h k (by omega)]
theorem sumN_le {f g : Nat → Int} : ∀ {k : Nat}, (∀ i, i < k → f i ≤ g i) → sumN f k ≤ sumN g k
  | 0, _ => Int.le_refl _
  | k + 1, h => by
    have h1 := sumN_le (k := k) fun i hi => h i (by omega)
    have h2 := h k (by omega)
    rw [sumN_succ, sumN_succ]; omega
theorem sumN_add (f g : Nat → Int) : ∀ k, sumN (fun i => f i + g i) k = sumN f k + sumN g k
  | 0 => rfl
  | k + 1 => by rw [sumN_succ, sumN_succ, sumN_succ, sumN_add f g k]; omega
theorem sumN_sub (f g : Nat → Int) : ∀ k, sumN (fun i => f i - g i) k = sumN f k - sumN g k
  | 0 => rfl
  | k + 1 => by rw [sumN_succ, sumN_succ, sumN_succ, sumN_sub f g k]; omega
theorem sumN_const (c : Int) : ∀ k : Nat, sumN (fun _ => c) k = k * c
  | 0 => by simp [sumN]
  | k + 1 => by rw [sumN_succ, sumN_const c k, Int.natCast_add, Int.add_mul]; simp
theorem sumN_mul (f : Nat → Int) (c : Int) : ∀ k, sumN (fun i => f i * c) k = sumN f k * c
  | 0 => by simp [sumN]
  | k + 1 => by rw [sumN_succ, sumN_succ, sumN_mul f c k, Int.add_mul]
theorem sumN_null {f : Nat → Int} {k : Nat} (h : ∀ i, i < k → f i = 0) : sumN f k = 0 := by
  rw [sumN_congr h, sumN_const]; simp
theorem sumN_nonneg {f : Nat → Int} {k : Nat} (h : ∀ i, i < k → 0 ≤ f i) : 0 ≤ sumN f k := by
  have := sumN_le (f := fun _ => 0) (g := f) (k := k) h
  rw [sumN_const] at this; simpa using this
theorem sumN_bound {f : Nat → Int} {k : Nat} {M : Int} (h : ∀ i, i < k → f i ≤ M) : sumN f k ≤ k * M := by
  have := sumN_le (f := f) (g := fun _ => M) (k := k) h
  rwa [sumN_const] at this
theorem sumN_mono {f : Nat → Int} {j k : Nat} (hjk : j ≤ k) (h : ∀ i, i < k → 0 ≤ f i) : sumN f j ≤ sumN f k := by
  induction k with
  | zero => have : j = 0 := by omega
            subst this; exact Int.le_refl _
  | succ k ih =>
    by_cases e : j = k + 1
    · subst e; exact Int.le_refl _
    · have := ih (by omega) fun i hi => h i (by omega)
      have := h k (by omega)
      rw [sumN_succ]; omega
/-- one index alone counts -/
theorem sumN_one {f : Nat → Int} {j k : Nat} (hj : j < k) (h : ∀ i, i < k → i ≠ j → f i = 0) : sumN f k = f j := by
  induction k with
  | zero => omega
  | succ k ih =>
    rw [sumN_succ]
    by_cases e : j = k
    · subst e
      rw [sumN_null fun i hi => h i (by omega) (by omega)]; simp
    · rw [ih (by omega) (fun i hi hne => h i (by omega) hne), h k (by omega) (fun e' => e e'.symm)]; simp
/-- two orders of summing -/
theorem sumN_swap (f : Nat → Nat → Int) (a : Nat) : ∀ b, sumN (fun i => sumN (f i) b) a = sumN (fun j => sumN (fun i => f i j) a) b
  | 0 => by
    rw [sumN_zero]
    exact sumN_null fun _ _ => rfl
  | b + 1 => by
    rw [sumN_succ, ← sumN_swap f a b, ← sumN_add]
    exact sumN_congr fun i _ => rfl
/-- one value is changed -/
theorem sumN_set {f g : Nat → Int} {j k : Nat} (hj : j < k) (h : ∀ i, i < k → i ≠ j → f i = g i) : sumN f k = sumN g k + (f j - g j) := by
  have e : sumN (fun i => f i - g i) k = f j - g j := sumN_one hj fun i hi hne => by rw [h i hi hne]; omega
  rw [sumN_sub] at e
  omega
theorem sum_eq_sumN (xs : List Int) : xs.sum = sumN (fun i => xs.getD i 0) xs.length := by
  have key : ∀ k, k ≤ xs.length → (xs.take k).sum = sumN (fun i => xs.getD i 0) k := by
    intro k
    induction k with
    | zero => intro _; rfl
    | succ k ih =>
      intro hk
      have e : xs.getD k 0 = xs[k] := by rw [List.getD, List.getElem?_eq_getElem (by omega)]; rfl
      rw [List.take_succ_eq_append_getElem (by omega), List.sum_append, ih (by omega), sumN_succ, e]
      simp
  have := key xs.length (Nat.le_refl _)
  rwa [List.take_length] at this
/-- a sum by classes -/
theorem sumN_class (f : Nat → Int) (c : Nat → Nat) (k D : Nat) (h : ∀ i, i < k → c i < D) : sumN (fun d => sumN (fun i => if c i = d then f i else 0) k) D = sumN f k := by
  rw [← sumN_swap (fun i d => if c i = d then f i else 0) k D]
  refine sumN_congr fun i hi => ?_
  rw [sumN_one (h i hi) fun d _ hne => if_neg fun e => hne e.symm]
  exact if_pos rfl
/-- split by a test -/
theorem sumN_split (p : Nat → Bool) (f : Nat → Int) (k : Nat) : sumN f k = sumN (fun i => if p i then f i else 0) k + sumN (fun i => if p i then 0 else f i) k := by
  rw [← sumN_add]
  refine sumN_congr fun i _ => ?_
  cases p i <;> simp
end Go.Proofs.YtlnamjhgbdacbaaGreat
/- Maps of streets in plain words: their error, bounds, carried counts. No condition. -/
namespace Go.Proofs.YtlnamjhgbdacbaaGreat

structure Stt where
  o : Int
  n : Int
  wt : Int
  lo : Int
  hi : Int
structure Jn where
  a : Int
  b : Int
structure MapD where
  old : List Int
  nw : Int
  ss : List Stt
  js : List Jn
def MapD.S (m : MapD) (i : Nat) : Stt := m.ss.getD i ⟨0, 0, 0, 0, 0⟩
def MapD.at_ (m : MapD) (d : Nat) : Int := m.old.getD d 0
theorem MapD.S_eq {m : MapD} {i : Nat} {s : Stt} (h : m.ss[i]? = some s) : m.S i = s := by simp [MapD.S, List.getD, h]
theorem MapD.at_eq {m : MapD} {d : Nat} {x : Int} (h : m.old[d]? = some x) : m.at_ d = x := by simp [MapD.at_, List.getD, h]

/-- the sum over those of the first k streets of old district d that pass a test -/
def sumO (m : MapD) (d : Nat) (p : Nat → Bool) (g : Stt → Int) (k : Nat) : Int := sumN (fun i => if (m.S i).o = (d : Int) ∧ p i = true then g (m.S i) else 0) k
def tt : Nat → Bool := fun _ => true
def nt (p : Nat → Bool) : Nat → Bool := fun i => !p i
theorem sumO_skip {m : MapD} {d : Nat} {p : Nat → Bool} {g : Stt → Int} {k : Nat} {s : Stt} (h : m.ss[k]? = some s) (hd : s.o ≠ (d : Int)) : sumO m d p g (k + 1) = sumO m d p g k := by
  unfold sumO
  rw [sumN_succ, MapD.S_eq h, if_neg (fun e => hd e.1)]; simp
theorem sumO_take {m : MapD} {d : Nat} {p : Nat → Bool} {g : Stt → Int} {k : Nat} {s : Stt} (h : m.ss[k]? = some s) (hd : s.o = (d : Int)) (hp : p k = true) : sumO m d p g (k + 1) = sumO m d p g k + g s := by
  unfold sumO
  rw [sumN_succ, MapD.S_eq h, if_pos ⟨hd, hp⟩]
theorem sumO_drop {m : MapD} {d : Nat} {p : Nat → Bool} {g : Stt → Int} {k : Nat} (hp : p k = false) : sumO m d p g (k + 1) = sumO m d p g k := by
  unfold sumO
  rw [sumN_succ, if_neg (fun e => by rw [hp] at e; exact absurd e.2 (by decide))]; simp

def inB (n lo hi : Int) : Bool := decide (lo ≤ n ∧ n ≤ hi)
def rngOk (lo hi top : Int) : Bool := decide (0 ≤ lo ∧ lo ≤ hi ∧ hi ≤ top)
def sttOk (m : MapD) (s : Stt) : Bool := inB s.o 0 ((m.old.length : Int) - 1) && (inB s.n 0 (m.nw - 1) && (inB s.wt 0 1000 && rngOk s.lo s.hi 10000))
def jnOk (m : MapD) (j : Jn) : Bool := inB j.a 0 ((m.ss.length : Int) - 1) && (inB j.b 0 ((m.ss.length : Int) - 1) && !(j.a == j.b))
def cntOk (x : Int) : Bool := inB x 0 10000
def wghOk (m : MapD) (d : Nat) : Bool := !(sumO m d tt Stt.wt m.ss.length == 0)
/-- the number of a map's error -/
def chkM (m : MapD) : Int :=
  if decide (4 < (m.old.length : Int)) || (decide (8 < (m.ss.length : Int)) || decide (20 < (m.js.length : Int))) then 3 else
  if ((m.old.length : Int) == 0) || (((m.ss.length : Int) == 0) || (!m.old.all cntOk || (!inB m.nw 1 4 || (!m.ss.all (sttOk m) || (!(List.range m.old.length).all (wghOk m) || !m.js.all (jnOk m)))))) then 1 else 0
structure OkM (m : MapD) : Prop where
  d1 : 1 ≤ m.old.length
  d4 : m.old.length ≤ 4
  s1 : 1 ≤ m.ss.length
  s8 : m.ss.length ≤ 8
  j20 : m.js.length ≤ 20
  cnt : ∀ x ∈ m.old, 0 ≤ x ∧ x ≤ 10000
  n1 : 1 ≤ m.nw
  n4 : m.nw ≤ 4
  stt : ∀ s ∈ m.ss, 0 ≤ s.o ∧ s.o < m.old.length ∧ 0 ≤ s.n ∧ s.n < m.nw ∧ 0 ≤ s.wt ∧ s.wt ≤ 1000 ∧ 0 ≤ s.lo ∧ s.lo ≤ s.hi ∧ s.hi ≤ 10000
  wgh : ∀ d, d < m.old.length → sumO m d tt Stt.wt m.ss.length ≠ 0
  jn : ∀ j ∈ m.js, 0 ≤ j.a ∧ j.a < m.ss.length ∧ 0 ≤ j.b ∧ j.b < m.ss.length ∧ j.a ≠ j.b
theorem inB_iff {n lo hi : Int} : inB n lo hi = true ↔ lo ≤ n ∧ n ≤ hi := by simp [inB]
theorem sttOk_iff {m : MapD} {s : Stt} : sttOk m s = true ↔ 0 ≤ s.o ∧ s.o < m.old.length ∧ 0 ≤ s.n ∧ s.n < m.nw ∧ 0 ≤ s.wt ∧ s.wt ≤ 1000 ∧ 0 ≤ s.lo ∧ s.lo ≤ s.hi ∧ s.hi ≤ 10000 := by
  unfold sttOk rngOk
  simp only [Bool.and_eq_true, inB_iff, decide_eq_true_eq]
  omega
theorem jnOk_iff {m : MapD} {j : Jn} : jnOk m j = true ↔ 0 ≤ j.a ∧ j.a < m.ss.length ∧ 0 ≤ j.b ∧ j.b < m.ss.length ∧ j.a ≠ j.b := by
  unfold jnOk
  simp only [Bool.and_eq_true, inB_iff, Bool.not_eq_true', beq_eq_false_iff_ne]
  omega
theorem chk_okm {m : MapD} (h : chkM m = 0) : OkM m := by
  unfold chkM at h
  split at h
  · cases h
  · rename_i h1
    split at h
    · cases h
    · rename_i h2
      simp only [Bool.or_eq_true, decide_eq_true_eq, not_or] at h1
      simp only [Bool.or_eq_true, beq_iff_eq, not_or, Bool.not_eq_true', Bool.not_eq_false, List.all_eq_true] at h2
      obtain ⟨a1, a2, a3⟩ := h1
      obtain ⟨b1, b2, b3, b4, b5, b6, b7⟩ := h2
      refine ⟨by omega, by omega, by omega, by omega, by omega, fun x hx => ?_, (inB_iff.1 b4).1, (inB_iff.1 b4).2, fun s hs => sttOk_iff.1 (b5 s hs), fun d hd => ?_, fun j hj => jnOk_iff.1 (b7 j hj)⟩
      · exact inB_iff.1 (b3 x hx)
      · have := b6 d (List.mem_range.2 hd)
        unfold wghOk at this
        simpa using this
theorem okm_chk {m : MapD} (h : OkM m) : chkM m = 0 := by
  unfold chkM
  rw [if_neg, if_neg]
  · simp only [Bool.or_eq_true, beq_iff_eq, not_or, Bool.not_eq_true', Bool.not_eq_false, List.all_eq_true]
    refine ⟨by have := h.d1; omega, by have := h.s1; omega, fun x hx => inB_iff.2 (h.cnt x hx), inB_iff.2 ⟨h.n1, h.n4⟩, fun s hs => sttOk_iff.2 (h.stt s hs), fun d hd => ?_, fun j hj => jnOk_iff.2 (h.jn j hj)⟩
    have := h.wgh d (List.mem_range.1 hd)
    unfold wghOk
    simpa using this
  · simp only [Bool.or_eq_true, decide_eq_true_eq, not_or]
    have := h.d4; have := h.s8; have := h.j20
    omega
theorem chkM_cases (m : MapD) : chkM m = 0 ∨ chkM m = 1 ∨ chkM m = 3 := by
  unfold chkM
  split
  · exact .inr (.inr rfl)
  · split
    · exact .inr (.inl rfl)
    · exact .inl rfl
theorem OkM.sAt {m : MapD} (h : OkM m) {i : Nat} (hi : i < m.ss.length) : 0 ≤ (m.S i).o ∧ (m.S i).o < m.old.length ∧ 0 ≤ (m.S i).n ∧ (m.S i).n < m.nw ∧ 0 ≤ (m.S i).wt ∧ (m.S i).wt ≤ 1000 ∧ 0 ≤ (m.S i).lo ∧ (m.S i).lo ≤ (m.S i).hi ∧ (m.S i).hi ≤ 10000 := by
  have e : m.ss[i]? = some m.ss[i] := List.getElem?_eq_getElem hi
  rw [MapD.S_eq e]
  exact h.stt _ (List.getElem_mem hi)
theorem OkM.atB {m : MapD} (h : OkM m) {d : Nat} (hd : d < m.old.length) : 0 ≤ m.at_ d ∧ m.at_ d ≤ 10000 := by
  have e : m.old[d]? = some m.old[d] := List.getElem?_eq_getElem hd
  rw [MapD.at_eq e]
  exact h.cnt _ (List.getElem_mem hd)

/-- the bounds of the people of an old district in the streets that pass a test -/
def partLo (m : MapD) (p : Nat → Bool) (d : Nat) : Int := max (sumO m d p Stt.lo m.ss.length) (m.at_ d - sumO m d (nt p) Stt.hi m.ss.length)
def partHi (m : MapD) (p : Nat → Bool) (d : Nat) : Int := min (sumO m d p Stt.hi m.ss.length) (m.at_ d - sumO m d (nt p) Stt.lo m.ss.length)
def sizeLo (m : MapD) (p : Nat → Bool) (k : Nat) : Int := sumN (partLo m p) k
def sizeHi (m : MapD) (p : Nat → Bool) (k : Nat) : Int := sumN (partHi m p) k
/-- the streets that lie in a district of borders -/
def inD (l : Nat → Int) (d : Int) : Nat → Bool := fun i => l i == d
def ownL (m : MapD) : Nat → Int := fun i => (m.S i).n
def conD (m : MapD) (d : Nat) : Bool := inB (m.at_ d) (sumO m d tt Stt.lo m.ss.length) (sumO m d tt Stt.hi m.ss.length)
def conM (m : MapD) : Bool := (List.range m.old.length).all (conD m)
/-- the number of a map's error, also if it is not consistent -/
def cstM (m : MapD) : Int := if chkM m = 0 then (if conM m then 0 else 9) else chkM m
theorem sumO_bounds {m : MapD} {g : Stt → Int} {M : Int} (hM : 0 ≤ M) (d : Nat) (p : Nat → Bool) (k : Nat) (h : ∀ i, i < k → 0 ≤ g (m.S i) ∧ g (m.S i) ≤ M) : 0 ≤ sumO m d p g k ∧ sumO m d p g k ≤ k * M := by
  unfold sumO
  refine ⟨sumN_nonneg fun i hi => ?_, sumN_bound fun i hi => ?_⟩
  · split
    · exact (h i hi).1
    · exact Int.le_refl _
  · split
    · exact (h i hi).2
    · exact hM
theorem sumO_le {m : MapD} {g g' : Stt → Int} (d : Nat) (p : Nat → Bool) (k : Nat) (h : ∀ i, i < k → g (m.S i) ≤ g' (m.S i)) : sumO m d p g k ≤ sumO m d p g' k := by
  unfold sumO
  refine sumN_le fun i hi => ?_
  split
  · exact h i hi
  · exact Int.le_refl _
theorem sumO_split (m : MapD) (d : Nat) (p : Nat → Bool) (g : Stt → Int) (k : Nat) : sumO m d tt g k = sumO m d p g k + sumO m d (nt p) g k := by
  unfold sumO
  rw [← sumN_add]
  refine sumN_congr fun i _ => ?_
  by_cases e : (m.S i).o = (d : Int)
  · cases hp : p i <;> simp [e, tt, nt, hp]
  · simp [e]
end Go.Proofs.YtlnamjhgbdacbaaGreat
/- The order of Divide's parts: what it is, in plain words. -/
namespace Go.Proofs.YtlnamjhgbdacbaaGreat

theorem getD_set_at {α : Type} (l : List α) (i k : Nat) (a d : α) (hi : i < l.length) : (l.set i a).getD k d = if i = k then a else l.getD k d := by
  simp only [List.getD, List.getElem?_set]
  by_cases h : i = k
  · subst h; simp [hi]
  · simp [h]
theorem sum_set (l : List Int) : ∀ (i : Nat) (a : Int), i < l.length → (l.set i a).sum = l.sum - l.getD i 0 + a := by
  induction l with
  | nil => intro i a h; simp at h
  | cons x l ih =>
    intro i a h
    cases i with
    | zero => simp [List.getD]; omega
    | succ i =>
      have := ih i a (by simpa using h)
      simp only [List.set_cons_succ, List.sum_cons, this]
      simp [List.getD]; omega
theorem map_set' {α β : Type} (f : α → β) (l : List α) (i : Nat) (a : α) : (l.set i a).map f = (l.map f).set i (f a) := by
  rw [List.map_set]
theorem getD_map' (g : Nat → Int) (l : List Nat) (i : Nat) (hi : i < l.length) : (l.map g).getD i 0 = g (l.getD i 0) := by
  simp [List.getD, List.getElem?_map, List.getElem?_eq_getElem hi]
theorem sink_sum (key g : Nat → Int) : ∀ (j : Nat) (l : List Nat), j < l.length → ((sink key j l).map g).sum = (l.map g).sum
  | 0, _, _ => rfl
  | j + 1, l, hj => by
    unfold sink
    split
    · rw [sink_sum key g j _ (by simp; omega), map_set', map_set', sum_set _ _ _ (by simp; omega), sum_set _ _ _ (by simpa using hj), getD_set_at _ _ _ _ _ (by simpa using hj), if_neg (by omega), getD_map' g l _ hj, getD_map' g l _ (by omega)]
      omega
    · rfl
theorem insTo_sum (key g : Nat → Int) (l : List Nat) : ∀ i, i ≤ l.length → ((insTo key l i).map g).sum = (l.map g).sum
  | 0, _ => rfl
  | i + 1, hi => by rw [insTo, sink_sum key g i _ (by rw [insTo_len]; omega), insTo_sum key g l i (by omega)]

/-- a comes ahead of b -/
def Rk (key : Nat → Int) (a b : Nat) : Prop := key b < key a ∨ (key a = key b ∧ a < b)
theorem sink_sorted (key : Nat → Int) : ∀ (j t : Nat) (l : List Nat), j ≤ t → t < l.length →
    (∀ p q, p < q → q ≤ t → p ≠ j → q ≠ j → Rk key (l.getD p 0) (l.getD q 0)) → (∀ q, j < q → q ≤ t → Rk key (l.getD j 0) (l.getD q 0)) → (∀ p, p ≤ t → p ≠ j → l.getD p 0 < l.getD j 0) →
    (∀ p q, p < q → q ≤ t → Rk key ((sink key j l).getD p 0) ((sink key j l).getD q 0)) ∧ (∀ q, t < q → (sink key j l).getD q 0 = l.getD q 0)
  | 0, t, l, _, _, h1, h2, _ => by
    refine ⟨fun p q hpq hq => ?_, fun q _ => rfl⟩
    show Rk key (l.getD p 0) (l.getD q 0)
    by_cases hp : p = 0
    · subst hp; exact h2 q hpq hq
    · exact h1 p q hpq hq hp (by omega)
  | j + 1, t, l, hj, ht, h1, h2, h3 => by
    unfold sink
    split
    · rename_i hlt
      have hg : ∀ k, ((l.set (j + 1) (l.getD j 0)).set j (l.getD (j + 1) 0)).getD k 0 = if j = k then l.getD (j + 1) 0 else if j + 1 = k then l.getD j 0 else l.getD k 0 := fun k => by
        rw [getD_set_at _ _ _ _ _ (by simp; omega), getD_set_at _ _ _ _ _ (by omega)]
      have := sink_sorted key j t ((l.set (j + 1) (l.getD j 0)).set j (l.getD (j + 1) 0)) (by omega) (by simpa using ht) ?_ ?_ ?_
      · refine ⟨this.1, fun q hq => ?_⟩
        rw [this.2 q hq, hg, if_neg (by omega), if_neg (by omega)]
      · intro p q hpq hq hp hq'
        rw [hg, hg, if_neg (show ¬ j = p by omega), if_neg (show ¬ j = q by omega)]
        by_cases e : j + 1 = p
        · rw [if_pos e, if_neg (by omega)]
          exact h1 j q (by omega) hq (by omega) (by omega)
        · rw [if_neg e]
          by_cases e2 : j + 1 = q
          · rw [if_pos e2]
            exact h1 p j (by omega) (by omega) (by omega) (by omega)
          · rw [if_neg e2]
            exact h1 p q hpq hq (by omega) (by omega)
      · intro q hjq hq
        rw [hg, hg, if_pos rfl, if_neg (show ¬ j = q by omega)]
        by_cases e : j + 1 = q
        · rw [if_pos e]; exact .inl hlt
        · rw [if_neg e]; exact h2 q (by omega) hq
      · intro p hp hpj
        rw [hg, hg, if_pos rfl, if_neg (show ¬ j = p by omega)]
        by_cases e : j + 1 = p
        · rw [if_pos e]; exact h3 j (by omega) (by omega)
        · rw [if_neg e]; exact h3 p hp (by omega)
    · rename_i hlt
      refine ⟨fun p q hpq hq => ?_, fun q _ => rfl⟩
      by_cases hp : p = j + 1
      · subst hp; exact h2 q hpq hq
      · by_cases hq' : q = j + 1
        · subst hq'
          have hx := h3 p (by omega) hp
          by_cases e : p = j
          · subst e
            unfold Rk; omega
          · have := h1 p j (by omega) (by omega) hp (by omega)
            unfold Rk at this ⊢; omega
        · exact h1 p q hpq hq hp hq'
theorem sink_bound (key : Nat → Int) (M : Nat) : ∀ (j t : Nat) (l : List Nat), j ≤ t → t < l.length → (∀ p, p ≤ t → l.getD p 0 < M) → ∀ p, p ≤ t → (sink key j l).getD p 0 < M
  | 0, _, _, _, _, h => h
  | j + 1, t, l, hj, ht, h => by
    unfold sink
    split
    · refine sink_bound key M j t _ (by omega) (by simpa using ht) fun p hp => ?_
      rw [getD_set_at _ _ _ _ _ (by simp; omega), getD_set_at _ _ _ _ _ (by omega)]
      split
      · exact h _ (by omega)
      · split
        · exact h _ (by omega)
        · exact h p hp
    · exact h
theorem insTo_sorted (key : Nat → Int) (n : Nat) : ∀ i, i ≤ n → (∀ p q, p < q → q < i → Rk key ((insTo key (List.range n) i).getD p 0) ((insTo key (List.range n) i).getD q 0)) ∧
    (∀ q, i ≤ q → q < n → (insTo key (List.range n) i).getD q 0 = q) ∧ (∀ p, p < i → (insTo key (List.range n) i).getD p 0 < i)
  | 0, _ => ⟨fun p q _ h => absurd h (Nat.not_lt_zero _), fun q _ hq => by simp [insTo, List.getD, hq], fun p h => absurd h (Nat.not_lt_zero _)⟩
  | i + 1, hi => by
    obtain ⟨a1, a2, a3⟩ := insTo_sorted key n i (by omega)
    have hl : (insTo key (List.range n) i).length = n := by rw [insTo_len, List.length_range]
    have hx := a2 i (Nat.le_refl _) (by omega)
    have := sink_sorted key i i (insTo key (List.range n) i) (Nat.le_refl _) (by omega) (fun p q hpq hq hp hq' => a1 p q hpq (by omega)) (fun q h1 h2 => absurd h1 (by omega)) (fun p hp hp' => by rw [hx]; exact a3 p (by omega))
    refine ⟨fun p q hpq hq => this.1 p q hpq (by omega), fun q hq hqn => by rw [insTo, this.2 q (by omega)]; exact a2 q (by omega) hqn, ?_⟩
    intro p hp
    rw [insTo]
    exact sink_bound key (i + 1) i i _ (Nat.le_refl _) (by omega) (fun p hp => by
      by_cases e : p = i
      · rw [e, hx]; omega
      · have := a3 p (by omega); omega) p (by omega)

/-- an order of the first n numbers by a key, the greatest first -/
structure Ord (key : Nat → Int) (n : Nat) (o : List Nat) : Prop where
  len : o.length = n
  lt : ∀ p, p < n → o.getD p 0 < n
  srt : ∀ p q, p < q → q < n → Rk key (o.getD p 0) (o.getD q 0)
  sum : ∀ g : Nat → Int, (o.map g).sum = ((List.range n).map g).sum
theorem ord_ins (key : Nat → Int) (n : Nat) : Ord key n (insTo key (List.range n) n) := by
  have h := insTo_sorted key n n (Nat.le_refl _)
  exact ⟨by rw [insTo_len, List.length_range], h.2.2, fun p q h1 h2 => h.1 p q h1 h2, fun g => insTo_sum key g _ _ (by simp)⟩
theorem sum_nonneg : ∀ (l : List Int), (∀ y ∈ l, 0 ≤ y) → 0 ≤ l.sum
  | [], _ => by simp
  | y :: l, h => by
    rw [List.sum_cons]
    have := sum_nonneg l fun z hz => h z (List.mem_cons_of_mem _ hz)
    have := h y (by simp)
    omega
theorem sum_ge : ∀ (l : List Int), (∀ y ∈ l, 0 ≤ y) → ∀ y ∈ l, y ≤ l.sum
  | [], _, y, hy => by simp at hy
  | x :: l, h, y, hy => by
    rw [List.sum_cons]
    have h1 := sum_nonneg l fun z hz => h z (List.mem_cons_of_mem _ hz)
    rcases List.mem_cons.1 hy with rfl | hy
    · omega
    · have := sum_ge l (fun z hz => h z (List.mem_cons_of_mem _ hz)) y hy
      have := h x (by simp)
      omega
section
variable {key : Nat → Int} {n : Nat} {o : List Nat}
theorem Ord.inj (h : Ord key n o) {p q : Nat} (hp : p < n) (hq : q < n) (e : o.getD p 0 = o.getD q 0) : p = q := by
  rcases Nat.lt_trichotomy p q with hl | hl | hl
  · have := h.srt p q hl hq; unfold Rk at this; rw [e] at this; omega
  · exact hl
  · have := h.srt q p hl hp; unfold Rk at this; rw [e] at this; omega
theorem Ord.mem (h : Ord key n o) {i : Nat} (hi : i < n) : ∃ p, p < n ∧ o.getD p 0 = i := by
  have hs := h.sum fun x => if x = i then 1 else 0
  have h1 : (1 : Int) ≤ ((List.range n).map fun x => if x = i then (1 : Int) else 0).sum :=
    sum_ge _ (fun y hy => by obtain ⟨x, _, rfl⟩ := List.mem_map.1 hy; show (0 : Int) ≤ if x = i then 1 else 0; split <;> omega) 1 (List.mem_map.2 ⟨i, by simpa using hi, by simp⟩)
  by_cases hm : i ∈ o
  · obtain ⟨p, hp⟩ := List.getElem?_of_mem hm
    exact ⟨p, by rw [← h.len]; exact (List.getElem?_eq_some_iff.1 hp).1, by simp [List.getD, hp]⟩
  · have : (o.map fun x => if x = i then (1 : Int) else 0).sum = 0 := by
      have hz : ∀ l : List Nat, i ∉ l → (l.map fun x => if x = i then (1 : Int) else 0).sum = 0 := by
        intro l
        induction l with
        | nil => intro _; rfl
        | cons x l ih =>
          intro hx
          rw [List.map_cons, List.sum_cons, ih (fun hh => hx (List.mem_cons_of_mem _ hh)), if_neg (fun e => hx (by rw [e]; simp))]; rfl
      exact hz o hm
    omega
end
theorem order_ord (whole sum : Int) (ws : List Int) : Ord (restOf whole sum ws) ws.length (orderOf whole sum ws) := ord_ins _ _

theorem bumpTo_at (whole sum : Int) (ws : List Int) {i p : Nat} (hp : p < ws.length) (hi : (orderOf whole sum ws).getD p 0 = i) : ∀ j, j ≤ ws.length →
    (bumpTo whole sum ws j).getD i 0 = (baseOf whole sum ws).getD i 0 + if p < j then 1 else 0
  | 0, _ => by simp [bumpTo]
  | j + 1, hj => by
    have O := order_ord whole sum ws
    have hl := O.len
    have ih := bumpTo_at whole sum ws hp hi j (by omega)
    have hil : i < ws.length := by rw [← hi]; exact O.lt p hp
    have hgj : (orderOf whole sum ws).getD j 0 = (orderOf whole sum ws)[j]'(by omega) := by simp [List.getD, List.getElem?_eq_getElem (show j < (orderOf whole sum ws).length by omega)]
    rw [bumpTo_succ (List.getElem?_eq_getElem (by omega : j < (orderOf whole sum ws).length)), ← hgj]
    have hjl := O.lt j (by omega)
    unfold bump
    rw [getD_set_at _ _ _ _ _ (by rw [bumpTo_len]; exact hjl)]
    by_cases e : j = p
    · subst e
      rw [if_pos hi, hi, ih, if_neg (by omega), if_pos (by omega)]; omega
    · have hne : (orderOf whole sum ws).getD j 0 ≠ i := fun h => e (O.inj (by omega) hp (h.trans hi.symm))
      rw [if_neg hne, ih]
      by_cases hpj : p < j
      · rw [if_pos hpj, if_pos (by omega)]
      · rw [if_neg hpj, if_neg (by omega)]
theorem bumpTo_sum (whole sum : Int) (ws : List Int) : ∀ j, j ≤ ws.length → (bumpTo whole sum ws j).sum = (baseOf whole sum ws).sum + j
  | 0, _ => by simp [bumpTo]
  | j + 1, hj => by
    have O := order_ord whole sum ws
    have hl := O.len
    have hgj : (orderOf whole sum ws).getD j 0 = (orderOf whole sum ws)[j]'(by omega) := by simp [List.getD, List.getElem?_eq_getElem (show j < (orderOf whole sum ws).length by omega)]
    rw [bumpTo_succ (List.getElem?_eq_getElem (by omega : j < (orderOf whole sum ws).length)), ← hgj]
    have hjl := O.lt j (by omega)
    unfold bump
    rw [sum_set _ _ _ (by rw [bumpTo_len]; exact hjl), bumpTo_sum whole sum ws j (by omega)]
    omega

theorem range_map (f : Int → Int) (ws : List Int) : (List.range ws.length).map (fun i => f (ws.getD i 0)) = ws.map f := by
  refine List.ext_getElem (by simp) fun i h1 h2 => ?_
  simp at h2
  simp [List.getD, List.getElem?_eq_getElem h2]
theorem rest_sum (whole sum : Int) : ∀ ws : List Int, (ws.map fun x => (whole * x) % sum).sum = whole * ws.sum - sum * (baseOf whole sum ws).sum
  | [] => by simp [baseOf]
  | x :: ws => by
    have ih := rest_sum whole sum ws
    have e1 : (baseOf whole sum (x :: ws)).sum = whole * x / sum + (baseOf whole sum ws).sum := by simp [baseOf]
    have h1 := Int.mul_ediv_add_emod (whole * x) sum
    rw [List.map_cons, List.sum_cons, ih, e1, List.sum_cons, Int.mul_add, Int.mul_add]
    omega
theorem take_sum_le (b : Int) : ∀ (l : List Int), (∀ y ∈ l, y ≤ b) → l.sum ≤ l.length * b
  | [], _ => by simp
  | y :: l, h => by
    rw [List.sum_cons, List.length_cons, Int.natCast_add, Int.add_mul]
    have := take_sum_le b l fun z hz => h z (List.mem_cons_of_mem _ hz)
    have := h y (by simp)
    simp only [Int.natCast_one, Int.one_mul]; omega

section
variable {whole : Int} {ws : List Int}
theorem left_le (ok : DOk whole ws.sum ws) (hne : ws ≠ []) : (leftOf whole ws.sum ws : Int) = whole - (baseOf whole ws.sum ws).sum ∧ leftOf whole ws.sum ws < ws.length := by
  have := left_bounds (whole := whole) ok.s0 hne
  unfold leftOf
  omega
theorem rest_range (ok : DOk whole ws.sum ws) (i : Nat) : 0 ≤ restOf whole ws.sum ws i ∧ restOf whole ws.sum ws i < ws.sum := by
  have := ok.s0
  unfold restOf
  exact ⟨Int.emod_nonneg _ (by omega), Int.emod_lt_of_pos _ (by omega)⟩
/-- who gets one more has a rest -/
theorem rest_pos (ok : DOk whole ws.sum ws) (hne : ws ≠ []) {p : Nat} (hp : p < leftOf whole ws.sum ws) : 0 < restOf whole ws.sum ws ((orderOf whole ws.sum ws).getD p 0) := by
  obtain ⟨e1, e2⟩ := left_le ok hne
  have O := order_ord whole ws.sum ws
  by_cases hz : 0 < restOf whole ws.sum ws ((orderOf whole ws.sum ws).getD p 0)
  · exact hz
  · exfalso
    have hs := O.sum (restOf whole ws.sum ws)
    rw [show (List.range ws.length).map (restOf whole ws.sum ws) = ws.map fun x => (whole * x) % ws.sum from range_map (fun x => (whole * x) % ws.sum) ws, rest_sum] at hs
    have hsplit : ((orderOf whole ws.sum ws).map (restOf whole ws.sum ws)).sum = (((orderOf whole ws.sum ws).map (restOf whole ws.sum ws)).take p).sum + (((orderOf whole ws.sum ws).map (restOf whole ws.sum ws)).drop p).sum := by rw [← List.sum_append, List.take_append_drop]
    have hd : (((orderOf whole ws.sum ws).map (restOf whole ws.sum ws)).drop p).sum ≤ 0 := by
      have := take_sum_le 0 (((orderOf whole ws.sum ws).map (restOf whole ws.sum ws)).drop p) fun y hy => by
        obtain ⟨q, hq⟩ := List.getElem?_of_mem hy
        rw [List.getElem?_drop, List.getElem?_map] at hq
        cases hx : (orderOf whole ws.sum ws)[p + q]? with
        | none => rw [hx] at hq; cases hq
        | some x =>
          rw [hx] at hq
          have hlt := (List.getElem?_eq_some_iff.1 hx).1
          rw [O.len] at hlt
          have hgx : (orderOf whole ws.sum ws).getD (p + q) 0 = x := by simp [List.getD, hx]
          simp at hq
          by_cases e : q = 0
          · subst e
            rw [Nat.add_zero] at hgx
            rw [hgx] at hz
            omega
          · have := O.srt p (p + q) (by omega) hlt
            rw [hgx] at this
            unfold Rk at this
            omega
      simpa using this
    have ht := take_sum_le (ws.sum - 1) (((orderOf whole ws.sum ws).map (restOf whole ws.sum ws)).take p) fun y hy => by
      obtain ⟨x, _, rfl⟩ := List.mem_map.1 (List.mem_of_mem_take hy)
      have := (rest_range ok x).2
      omega
    have hlen : (((orderOf whole ws.sum ws).map (restOf whole ws.sum ws)).take p).length = p := by simp [O.len]; omega
    rw [hlen] at ht
    have e3 : whole * ws.sum - ws.sum * (baseOf whole ws.sum ws).sum = (leftOf whole ws.sum ws : Int) * ws.sum := by
      rw [e1, Int.sub_mul, Int.mul_comm ws.sum]
    rw [e3] at hs
    have hs0 := ok.s0
    have h4 : (leftOf whole ws.sum ws : Int) * ws.sum ≤ (p : Int) * (ws.sum - 1) := by omega
    have h5 : (p : Int) * (ws.sum - 1) ≤ (p : Int) * ws.sum := Int.mul_le_mul_of_nonneg_left (by omega) (by omega)
    have h6 : ((p : Int) + 1) * ws.sum ≤ (leftOf whole ws.sum ws : Int) * ws.sum := Int.mul_le_mul_of_nonneg_right (by omega) (by omega)
    rw [Int.add_mul, Int.one_mul] at h6
    omega
end
end Go.Proofs.YtlnamjhgbdacbaaGreat
/- The parts of a total: what they are, in plain words. -/
namespace Go.Proofs.YtlnamjhgbdacbaaGreat

theorem getD_some {α : Type} {l : List α} {i : Nat} {x d : α} (h : l[i]? = some x) : l.getD i d = x := by simp [List.getD, h]
section
variable {whole : Int} {ws : List Int}
theorem div_len (ws : List Int) (whole : Int) : (divOf ws whole).length = ws.length := bumpTo_len _ _ _ _
theorem div_sum (ok : DOk whole ws.sum ws) (hne : ws ≠ []) : (divOf ws whole).sum = whole := by
  obtain ⟨e1, e2⟩ := left_le ok hne
  unfold divOf
  rw [bumpTo_sum _ _ _ _ (by omega)]
  omega
theorem div_at (ok : DOk whole ws.sum ws) (hne : ws ≠ []) {i : Nat} {x o : Int} (hx : ws[i]? = some x) (ho : (divOf ws whole)[i]? = some o) :
    ∃ p, p < ws.length ∧ (orderOf whole ws.sum ws).getD p 0 = i ∧ o = whole * x / ws.sum + if p < leftOf whole ws.sum ws then 1 else 0 := by
  obtain ⟨e1, e2⟩ := left_le ok hne
  have hi := (List.getElem?_eq_some_iff.1 hx).1
  obtain ⟨p, hp, e⟩ := (order_ord whole ws.sum ws).mem hi
  refine ⟨p, hp, e, ?_⟩
  have := bumpTo_at whole ws.sum ws hp e (leftOf whole ws.sum ws) (by omega)
  have hb : (baseOf whole ws.sum ws).getD i 0 = whole * x / ws.sum := getD_some (by simp [baseOf, hx])
  rw [hb] at this
  rw [← this]
  exact (getD_some ho).symm
theorem rest_at (s : Int) {i : Nat} {x : Int} (hx : ws[i]? = some x) : restOf whole s ws i = whole * x % s := by unfold restOf; rw [getD_some hx]
/-- each part differs from its share by less than one -/
theorem div_near (ok : DOk whole ws.sum ws) (hne : ws ≠ []) {i : Nat} {x o : Int} (hx : ws[i]? = some x) (ho : (divOf ws whole)[i]? = some o) : -ws.sum < o * ws.sum - whole * x ∧ o * ws.sum - whole * x < ws.sum := by
  obtain ⟨p, hp, e, rfl⟩ := div_at ok hne hx ho
  have hr := rest_range ok i
  rw [rest_at _ hx] at hr
  have h1 := Int.mul_ediv_add_emod (whole * x) ws.sum
  rw [Int.mul_comm ws.sum] at h1
  by_cases h : p < leftOf whole ws.sum ws
  · rw [if_pos h, Int.add_mul]
    have := rest_pos ok hne h
    rw [e, rest_at _ hx] at this
    omega
  · rw [if_neg h, Int.add_mul]
    omega
/-- the greater weight never gets less -/
theorem div_mono (ok : DOk whole ws.sum ws) (hne : ws ≠ []) {i k : Nat} {x y o u : Int} (hx : ws[i]? = some x) (ho : (divOf ws whole)[i]? = some o) (hy : ws[k]? = some y) (hu : (divOf ws whole)[k]? = some u) (h : y < x) : u ≤ o := by
  obtain ⟨p, hp, e, rfl⟩ := div_at ok hne hx ho
  obtain ⟨q, hq, e', rfl⟩ := div_at ok hne hy hu
  obtain ⟨l1, l2⟩ := left_le ok hne
  have h1 := Int.mul_ediv_add_emod (whole * x) ws.sum
  have h2 := Int.mul_ediv_add_emod (whole * y) ws.sum
  have hs := ok.s0
  have hle : whole * y ≤ whole * x := Int.mul_le_mul_of_nonneg_left (by omega) ok.w0
  have hd : whole * y / ws.sum ≤ whole * x / ws.sum := Int.ediv_le_ediv (by omega) hle
  by_cases hw : whole = 0
  · have hb : (baseOf whole ws.sum ws).sum = 0 := by
      rw [hw]
      have : ∀ l : List Int, (baseOf 0 ws.sum l).sum = 0 := by
        intro l
        induction l with
        | nil => rfl
        | cons z l ih =>
          have : (baseOf 0 ws.sum (z :: l)).sum = 0 * z / ws.sum + (baseOf 0 ws.sum l).sum := by simp [baseOf]
          rw [this, ih]; simp
      exact this ws
    rw [if_neg (show ¬ p < leftOf whole ws.sum ws by omega), if_neg (show ¬ q < leftOf whole ws.sum ws by omega)]
    omega
  · have hlt : whole * y < whole * x := Int.mul_lt_mul_of_pos_left h (by have := ok.w0; omega)
    by_cases heq : whole * y / ws.sum = whole * x / ws.sum
    · rw [heq] at h2
      have hk : restOf whole ws.sum ws k < restOf whole ws.sum ws i := by
        rw [rest_at _ hx, rest_at _ hy]
        omega
      have hpq : p < q := by
        rcases Nat.lt_trichotomy p q with hl | hl | hl
        · exact hl
        · subst hl; rw [e] at e'; subst e'; omega
        · have := (order_ord whole ws.sum ws).srt q p hl hp
          rw [e, e'] at this
          unfold Rk at this; omega
      rw [heq]
      by_cases hql : q < leftOf whole ws.sum ws
      · rw [if_pos hql, if_pos (show p < leftOf whole ws.sum ws by omega)]; omega
      · rw [if_neg hql]
        split <;> omega
    · split <;> split <;> omega
end
/-- all weights times the same number -/
theorem sink_key {f g : Nat → Int} (h : ∀ a b, f a < f b ↔ g a < g b) : ∀ (j : Nat) (l : List Nat), sink f j l = sink g j l
  | 0, _ => rfl
  | j + 1, l => by
    unfold sink
    by_cases hc : g (l.getD j 0) < g (l.getD (j + 1) 0)
    · rw [if_pos hc, if_pos ((h _ _).2 hc)]
      exact sink_key h j _
    · rw [if_neg hc, if_neg (fun hh => hc ((h _ _).1 hh))]
theorem insTo_key {f g : Nat → Int} (h : ∀ a b, f a < f b ↔ g a < g b) (l : List Nat) : ∀ i, insTo f l i = insTo g l i
  | 0 => rfl
  | i + 1 => by rw [insTo, insTo, insTo_key h l i, sink_key h]
theorem sum_times (n : Int) : ∀ ws : List Int, (ws.map fun x => n * x).sum = n * ws.sum
  | [] => by simp
  | x :: ws => by rw [List.map_cons, List.sum_cons, List.sum_cons, sum_times n ws, Int.mul_add]
theorem div_times {n whole : Int} (hn : 1 ≤ n) (ws : List Int) : divOf (ws.map fun x => n * x) whole = divOf ws whole := by
  have hb : baseOf whole (n * ws.sum) (ws.map fun x => n * x) = baseOf whole ws.sum ws := by
    unfold baseOf
    rw [List.map_map]
    refine List.map_congr_left fun x _ => ?_
    show whole * (n * x) / (n * ws.sum) = whole * x / ws.sum
    rw [show whole * (n * x) = n * (whole * x) by rw [← Int.mul_assoc, Int.mul_comm whole n, Int.mul_assoc]]
    exact Int.mul_ediv_mul_of_pos _ _ (by omega)
  have hr : ∀ i, restOf whole (n * ws.sum) (ws.map fun x => n * x) i = n * restOf whole ws.sum ws i := fun i => by
    unfold restOf
    have hg : (ws.map fun x => n * x).getD i 0 = n * ws.getD i 0 := by
      simp only [List.getD, List.getElem?_map]
      cases ws[i]? <;> simp
    rw [hg, show whole * (n * ws.getD i 0) = n * (whole * ws.getD i 0) by rw [← Int.mul_assoc, Int.mul_comm whole n, Int.mul_assoc]]
    exact Int.mul_emod_mul_of_pos _ _ (by omega)
  have ho : orderOf whole (n * ws.sum) (ws.map fun x => n * x) = orderOf whole ws.sum ws := by
    unfold orderOf
    rw [List.length_map]
    refine insTo_key (fun a b => ?_) _ _
    rw [hr, hr]
    exact Int.mul_lt_mul_left (by omega)
  unfold divOf bumpTo leftOf
  rw [sum_times, hb, ho]
theorem div_e {ws : List Int} {whole m : Int} (hm : m ≤ 10000) (hl : ws.length ≤ 12) (hx : ∀ x ∈ ws, 0 ≤ x ∧ x ≤ m) (hs : ws.sum ≠ 0) (hw : 0 ≤ whole ∧ whole ≤ 100000) : divE ws whole = 0 := by
  unfold divE
  rw [if_neg (by omega), if_neg, if_neg (by simpa using hs)]
  have h1 : (ws.all fun x => withinB x 0 10000) = true := List.all_eq_true.2 fun x hx' => by have := hx x hx'; simp [withinB]; omega
  have h2 : withinB whole 0 100000 = true := by simp [withinB]; omega
  rw [h1, h2]; simp
end Go.Proofs.YtlnamjhgbdacbaaGreat
/- The carried counts of all streets, in plain words. Conditions stand at each theorem. -/
namespace Go.Proofs.YtlnamjhgbdacbaaGreat

/-- the streets of old district d among the first k, and their weights -/
def atTo (m : MapD) (d : Nat) : Nat → List Nat
  | 0 => []
  | k + 1 => atTo m d k ++ (if (m.S k).o = (d : Int) then [k] else [])
def wsTo (m : MapD) (d : Nat) : Nat → List Int
  | 0 => []
  | k + 1 => wsTo m d k ++ (if (m.S k).o = (d : Int) then [(m.S k).wt] else [])
theorem atTo_skip {m : MapD} {d k : Nat} {s : Stt} (h : m.ss[k]? = some s) (hd : s.o ≠ (d : Int)) : atTo m d (k + 1) = atTo m d k ∧ wsTo m d (k + 1) = wsTo m d k := by
  simp only [atTo, wsTo, MapD.S_eq h, if_neg hd, List.append_nil, and_self]
theorem atTo_take {m : MapD} {d k : Nat} {s : Stt} (h : m.ss[k]? = some s) (hd : s.o = (d : Int)) : atTo m d (k + 1) = atTo m d k ++ [k] ∧ wsTo m d (k + 1) = wsTo m d k ++ [s.wt] := by
  simp only [atTo, wsTo, MapD.S_eq h, if_pos hd, and_self]
theorem atTo_len (m : MapD) (d : Nat) : ∀ k, (atTo m d k).length = (wsTo m d k).length ∧ (atTo m d k).length ≤ k
  | 0 => ⟨rfl, Nat.le_refl _⟩
  | k + 1 => by
    obtain ⟨h1, h2⟩ := atTo_len m d k
    simp only [atTo, wsTo, List.length_append]
    split <;> simp <;> omega
theorem atTo_mem {m : MapD} {d : Nat} : ∀ {k i : Nat}, i ∈ atTo m d k ↔ i < k ∧ (m.S i).o = (d : Int)
  | 0, i => by simp [atTo]
  | k + 1, i => by
    simp only [atTo, List.mem_append, atTo_mem (k := k)]
    by_cases e : (m.S k).o = (d : Int)
    · rw [if_pos e]
      simp only [List.mem_singleton]
      constructor
      · rintro (⟨h1, h2⟩ | rfl)
        · exact ⟨by omega, h2⟩
        · exact ⟨by omega, e⟩
      · rintro ⟨h1, h2⟩
        by_cases e' : i = k
        · exact .inr e'
        · exact .inl ⟨by omega, h2⟩
    · rw [if_neg e]
      constructor
      · rintro (⟨h1, h2⟩ | h)
        · exact ⟨by omega, h2⟩
        · simp at h
      · rintro ⟨h1, h2⟩
        by_cases e' : i = k
        · subst e'; exact absurd h2 e
        · exact .inl ⟨by omega, h2⟩
theorem wsTo_mem {m : MapD} {d : Nat} (h : ∀ i, i < m.ss.length → 0 ≤ (m.S i).wt ∧ (m.S i).wt ≤ 1000) : ∀ {k : Nat}, k ≤ m.ss.length → ∀ x ∈ wsTo m d k, 0 ≤ x ∧ x ≤ 1000
  | 0, _, x, hx => by simp [wsTo] at hx
  | k + 1, hk, x, hx => by
    simp only [wsTo, List.mem_append] at hx
    rcases hx with hx | hx
    · exact wsTo_mem h (k := k) (by omega) x hx
    · by_cases e : (m.S k).o = (d : Int)
      · rw [if_pos e] at hx
        simp at hx
        subst hx
        exact h k (by omega)
      · rw [if_neg e] at hx; simp at hx
theorem wsTo_sum (m : MapD) (d : Nat) : ∀ k, (wsTo m d k).sum = sumO m d tt Stt.wt k
  | 0 => rfl
  | k + 1 => by
    have ih := wsTo_sum m d k
    unfold sumO at *
    simp only [wsTo, List.sum_append, ih, sumN_succ]
    by_cases e : (m.S k).o = (d : Int)
    · simp [e, tt]
    · simp [e]
def putTo (out : List Int) (at_ : List Nat) (ps : List Int) : Nat → List Int
  | 0 => out
  | j + 1 => (putTo out at_ ps j).set (at_.getD j 0) (ps.getD j 0)
theorem putTo_len (out : List Int) (at_ : List Nat) (ps : List Int) : ∀ j, (putTo out at_ ps j).length = out.length
  | 0 => rfl
  | j + 1 => by simp [putTo, putTo_len out at_ ps j]
/-- the parts of district d -/
def parts (m : MapD) (d : Nat) : List Int := divOf (wsTo m d m.ss.length) (m.at_ d)
def carTo (m : MapD) : Nat → List Int
  | 0 => List.replicate m.ss.length 0
  | d + 1 => putTo (carTo m d) (atTo m d m.ss.length) (parts m d) (atTo m d m.ss.length).length
theorem carTo_len (m : MapD) : ∀ d, (carTo m d).length = m.ss.length
  | 0 => by simp [carTo]
  | d + 1 => by rw [carTo, putTo_len, carTo_len m d]
def car (m : MapD) : List Int := carTo m m.old.length
theorem OkM.divE {m : MapD} (ok : OkM m) {d : Nat} (hd : d < m.old.length) : divE (wsTo m d m.ss.length) (m.at_ d) = 0 := by
  have hs8 := ok.s8
  have hl := atTo_len m d m.ss.length
  refine div_e (m := 1000) (by omega) (by omega) (wsTo_mem (fun i hi => by have := ok.sAt hi; omega) (Nat.le_refl _)) ?_ ⟨(ok.atB hd).1, by have := (ok.atB hd).2; omega⟩
  rw [wsTo_sum]
  exact ok.wgh d hd
theorem parts_len (m : MapD) (d : Nat) : (parts m d).length = (atTo m d m.ss.length).length := by
  unfold parts
  rw [div_len, (atTo_len m d m.ss.length).1]
end Go.Proofs.YtlnamjhgbdacbaaGreat
/- Words for maps in memory: lists of streets and of joins. No condition. -/
namespace Go.Proofs.YtlnamjhgbdacbaaGreat
open Go.RowKit

/-- the slice at A reads as these streets, below block n -/
def IsStts (w : World) (n : Nat) (A : Option Addr) (ss : List Stt) : Prop :=
  ∀ k s, ss[k]? = some s → ∃ a, A = some a ∧ a.block < n ∧ w.cell? (a.add (k * 5)) = some (.int .i64 s.o) ∧ w.cell? ⟨(a.add (k * 5)).block, (a.add (k * 5)).off + 1, none⟩ = some (.int .i64 s.n) ∧ w.cell? ⟨(a.add (k * 5)).block, (a.add (k * 5)).off + 2, none⟩ = some (.int .i64 s.wt) ∧ w.cell? ⟨(a.add (k * 5)).block, (a.add (k * 5)).off + 3, none⟩ = some (.int .i64 s.lo) ∧ w.cell? ⟨(a.add (k * 5)).block, (a.add (k * 5)).off + 4, none⟩ = some (.int .i64 s.hi)
def IsJns (w : World) (n : Nat) (A : Option Addr) (js : List Jn) : Prop :=
  ∀ k j, js[k]? = some j → ∃ a, A = some a ∧ a.block < n ∧ w.cell? (a.add (k * 2)) = some (.int .i64 j.a) ∧ w.cell? ⟨(a.add (k * 2)).block, (a.add (k * 2)).off + 1, none⟩ = some (.int .i64 j.b)
section
variable {w w' : World} {n m : Nat} {A : Option Addr}
theorem IsStts.below {ss : List Stt} (h : IsStts w n A ss) (hb : Below n w w') : IsStts w' n A ss := fun k s hk => by
  obtain ⟨a, e, hl, h0, h1, h2, h3, h4⟩ := h k s hk
  have g : ∀ o, w'.cell? ⟨(a.add (k * 5)).block, o, none⟩ = w.cell? ⟨(a.add (k * 5)).block, o, none⟩ := fun o => hb.cell (by show (a.add _).block < n; rw [block_of_add]; exact hl)
  exact ⟨a, e, hl, (hb.cell (by rw [block_of_add]; exact hl)).trans h0, (g _).trans h1, (g _).trans h2, (g _).trans h3, (g _).trans h4⟩
theorem IsStts.more {ss : List Stt} (h : IsStts w n A ss) (hm : n ≤ m) : IsStts w m A ss := fun k s hk => by
  obtain ⟨a, e, hl, h0⟩ := h k s hk
  exact ⟨a, e, by omega, h0⟩
theorem IsJns.below {js : List Jn} (h : IsJns w n A js) (hb : Below n w w') : IsJns w' n A js := fun k s hk => by
  obtain ⟨a, e, hl, h0, h1⟩ := h k s hk
  exact ⟨a, e, hl, (hb.cell (by rw [block_of_add]; exact hl)).trans h0, (hb.cell (by show (a.add _).block < n; rw [block_of_add]; exact hl)).trans h1⟩
theorem IsJns.more {js : List Jn} (h : IsJns w n A js) (hm : n ≤ m) : IsJns w m A js := fun k s hk => by
  obtain ⟨a, e, hl, h0⟩ := h k s hk
  exact ⟨a, e, by omega, h0⟩
end
theorem IsStts.at_ {w w' : World} {A : Option Addr} {ss : List Stt} (h : IsStts w w.heap.size A ss) (hb : Below w.heap.size w w') : IsStts w' w'.heap.size A ss := (h.below hb).more hb.size
theorem IsJns.at_ {w w' : World} {A : Option Addr} {js : List Jn} (h : IsJns w w.heap.size A js) (hb : Below w.heap.size w w') : IsJns w' w'.heap.size A js := (h.below hb).more hb.size
/-- a map's lists lie in memory -/
structure MIn (m : MapD) (A : Option Addr) (c : Nat) (A2 : Option Addr) (c2 : Nat) (A3 : Option Addr) (c3 : Nat) (w : World) : Prop where
  io : IsInts w w.heap.size A m.old
  is : IsStts w w.heap.size A2 m.ss
  ij : IsJns w w.heap.size A3 m.js
  l1 : m.old.length ≤ c
  m1 : c ≤ maxLen
  l2 : m.ss.length ≤ c2
  m2 : c2 ≤ maxLen
  l3 : m.js.length ≤ c3
  m3 : c3 ≤ maxLen
theorem MIn.at_ {m : MapD} {A : Option Addr} {c : Nat} {A2 : Option Addr} {c2 : Nat} {A3 : Option Addr} {c3 : Nat} {w w' : World} (h : MIn m A c A2 c2 A3 c3 w) (hb : Below w.heap.size w w') : MIn m A c A2 c2 A3 c3 w' :=
  ⟨h.io.at_ hb, h.is.at_ hb, h.ij.at_ hb, h.l1, h.m1, h.l2, h.m2, h.l3, h.m3⟩
theorem xt_c2 {w : World} {g : Nat} {t : TypeId} {x y : Value} (h : Blk w g t #[x, y]) : (∀ q, (xt w q).cell? ⟨g, 0, none⟩ = some x) ∧ (∀ q, (xt w q).cell? ⟨g, 1, none⟩ = some y) :=
  ⟨fun q => (h.keep (below_xt w q)).c2.1, fun q => (h.keep (below_xt w q)).c2.2⟩
end Go.Proofs.YtlnamjhgbdacbaaGreat
/- border's all: whether each element of a list passes a test. -/
namespace Go.Proofs.YtlnamjhgbdacbaaGreat
open Go.RowKit Go.Shelf

set_option maxRecDepth 10000 in
set_option maxHeartbeats 400000 in
theorem ball_int1 (g : Nat) (bnd cap : Array Value) (B : Nat) (t : Bool) (x : Int) (W : World) (eg : ∀ args w, (callFunc g args).run Tryz.prog w = .ok (.enter g args) w) (hB : Blk W B 105 #[.func (.func g) bnd cap])
    (hp : Calls Tryz.prog g (bnd.push (.int .i64 x) ++ cap) W fun e W' => e = .returned (.bool t) ∧ Below W.heap.size W W') :
    Calls Tryz.prog 75 #[.int .i64 x, .pointer (some ⟨B, 0, none⟩)] W fun e W' => e = .returned (.bool (!t)) ∧ Below W.heap.size W W' := by
  have c0 := hB.c1
  have HP := hid hp
  clear hp hB
  go_enter Tryz.func75, Tryz.ntmps75
  go_wp2_with fail
  refine HP.out.mono ?_
  rintro e w2 ⟨rfl, hb2⟩
  go_wp2
  go_ret
  exact ⟨rfl, hb2⟩

set_option maxHeartbeats 400000 in
theorem ball_int (p : Int → Bool) (A : Option Addr) (c : Nat) (xs : List Int) (w : World) (h : IsInts w w.heap.size A xs) (hl : xs.length ≤ c) (hm : c ≤ maxLen)
    (g : Nat) (bnd cap : Array Value) (eg : ∀ args w, (callFunc g args).run Tryz.prog w = .ok (.enter g args) w) (hp : PredI g bnd cap p xs w) :
    Calls Tryz.prog 50 #[.slice A xs.length c, .func (.func g) bnd cap] w fun e w' => e = .returned (.bool (xs.all p)) ∧ Below w.heap.size w w' := by
  have hB : Below w.heap.size w (w.alloc (.cells #[.func (.func g) bnd cap] 105)) := (Below.refl _ _).alloc (Nat.le_refl _) _
  have HI := hid (has_int (fun x => !p x) A c xs _ (h.at_ hB) hl hm 75 #[] #[.pointer (some ⟨w.heap.size, 0, none⟩)] (enters_of Tryz.func75 (by kernel_rfl) rfl)
    (fun W x hW hx => ball_int1 g bnd cap w.heap.size (p x) x W eg ((Blk.new _ _ _).keep hW) (hp W x (hB.trans (hW.mono hB.size)) hx)))
  have HN : Hid ((!xs.any fun x => !p x) = xs.all p) := hid (by simp [List.all_eq_not_any_not])
  clear hp h eg
  go_enter Tryz.func50, Tryz.ntmps50
  go_wp2_with fail
  refine HI.out.mono ?_
  rintro e w2 ⟨rfl, hb2⟩
  go_wp2
  go_ret
  exact ⟨by rw [← HN.out]; rfl, hB.trans (hb2.mono hB.size)⟩

/-- a test of elements: what it says, in each world that has only grown -/
def PredS (g : Nat) (bnd cap : Array Value) (p : Stt → Bool) (xs : List Stt) (w : World) : Prop :=
  ∀ W x, Below w.heap.size w W → x ∈ xs → Calls Tryz.prog g (bnd.push (.agg #[.int .i64 x.o, .int .i64 x.n, .int .i64 x.wt, .int .i64 x.lo, .int .i64 x.hi]) ++ cap) W fun e W' => e = .returned (.bool (p x)) ∧ Below W.heap.size W W'

set_option maxRecDepth 10000 in
set_option maxHeartbeats 400000 in
theorem ball_stt1 (g : Nat) (bnd cap : Array Value) (B : Nat) (t : Bool) (x : Stt) (W : World) (eg : ∀ args w, (callFunc g args).run Tryz.prog w = .ok (.enter g args) w) (hB : Blk W B 132 #[.func (.func g) bnd cap])
    (hp : ∀ W1, Below W.heap.size W W1 → Calls Tryz.prog g (bnd.push (.agg #[.int .i64 x.o, .int .i64 x.n, .int .i64 x.wt, .int .i64 x.lo, .int .i64 x.hi]) ++ cap) W1 fun e W' => e = .returned (.bool t) ∧ Below W1.heap.size W1 W') :
    Calls Tryz.prog 77 #[.agg #[.int .i64 x.o, .int .i64 x.n, .int .i64 x.wt, .int .i64 x.lo, .int .i64 x.hi], .pointer (some ⟨B, 0, none⟩)] W fun e W' => e = .returned (.bool (!t)) ∧ Below W.heap.size W W' := by
  have c0 := hB.c1
  have hlt := hB.lt
  have hbW : Below W.heap.size W (W.alloc (.cells #[.int .i64 x.o, .int .i64 x.n, .int .i64 x.wt, .int .i64 x.lo, .int .i64 x.hi] 70)) := (Below.refl _ _).alloc (Nat.le_refl _) _
  have HP := hid (hp _ hbW)
  clear hp hB
  go_enter Tryz.func77, Tryz.ntmps77
  go_wp2_with fail
  refine HP.out.mono ?_
  rintro e w2 ⟨rfl, hb2⟩
  go_wp2
  go_ret
  exact ⟨rfl, hbW.trans (hb2.mono hbW.size)⟩

set_option maxRecDepth 10000 in
set_option maxHeartbeats 400000 in
theorem bidx_stt (f : Value) (q : Stt → Bool) (A : Option Addr) (c : Nat) (xs : List Stt) (w : World) (h : IsStts w w.heap.size A xs) (hl : xs.length ≤ c) (hm : c ≤ maxLen)
    (g : Nat) (bnd cap : Array Value) (hf : f = .func (.func g) bnd cap) (eg : ∀ args w, (callFunc g args).run Tryz.prog w = .ok (.enter g args) w) (hp : PredS g bnd cap q xs w) :
    Calls Tryz.prog 111 #[.slice A xs.length c, f] w fun e w' => e = .returned (.int .i64 (idxOf q xs)) ∧ Below w.heap.size w w' := by
  subst hf
  unfold maxLen at hm
  have HP := hid hp
  clear hp
  go_enter Tryz.func111, Tryz.ntmps111
  go_wp2
  go_loopw [8] (fun i wr => ∃ k : Nat, k ≤ xs.length ∧ i = .int .i64 k ∧ Below w.heap.size w wr ∧ (xs.take k).any q = false) (fun i _ => xs.length - (intOf i).toNat)
  case atStart => exact ⟨0, Nat.zero_le _, rfl, Below.refl _ _, rfl⟩
  case round =>
    obtain ⟨k, hk, rfl, hbr, hno⟩ := hrel
    have HN := hid hno; clear hno
    by_cases hlt : k < xs.length
    · obtain ⟨a, rfl, hb, f0, f1, f2, f3, f4⟩ := h.below hbr k xs[k] (List.getElem?_eq_getElem hlt)
      have HC := hid (HP.out wr xs[k] hbr (List.getElem_mem hlt))
      have HH := hid (@idxOf_hit Stt q xs k hlt)
      have HT := hid (any_take q xs k hlt)
      generalize xs[k] = x at *
      cases hq : q x
      all_goals
        have HQ := hid hq
        clear hq
        go_wp2_with fail
        refine HC.out.mono ?_
        rintro e w2 ⟨rfl, hb2⟩
        rw [HQ.out]
        go_wp2
      · go_roundw
        case rel => exact ⟨k + 1, by omega, by go_num, hbr.trans (hb2.mono hbr.size), by rw [HT.out, HN.out, HQ.out]; rfl⟩
        case measure => simp [intOf]; omega
      · go_ret
        exact ⟨by rw [HH.out HN.out HQ.out]; rfl, hbr.trans (hb2.mono hbr.size)⟩
    · obtain rfl : k = xs.length := by omega
      rw [List.take_length] at HN
      have HM := hid (idxOf_miss HN.out)
      go_wp2
      go_ret
      exact ⟨by rw [HM.out]; rfl, hbr⟩

set_option maxHeartbeats 400000 in
theorem bhas_stt (q : Stt → Bool) (A : Option Addr) (c : Nat) (xs : List Stt) (w : World) (h : IsStts w w.heap.size A xs) (hl : xs.length ≤ c) (hm : c ≤ maxLen)
    (g : Nat) (bnd cap : Array Value) (eg : ∀ args w, (callFunc g args).run Tryz.prog w = .ok (.enter g args) w) (hp : PredS g bnd cap q xs w) :
    Calls Tryz.prog 76 #[.slice A xs.length c, .func (.func g) bnd cap] w fun e w' => e = .returned (.bool (xs.any q)) ∧ Below w.heap.size w w' := by
  have HI := hid (bidx_stt _ q A c xs w h hl hm g bnd cap rfl eg hp)
  have HN := hid (idxOf_nonneg q xs)
  clear hp h eg
  go_enter Tryz.func76, Tryz.ntmps76
  go_wp2_with fail
  refine HI.out.mono ?_
  rintro e w2 ⟨rfl, hb2⟩
  go_wp2
  go_ret
  exact ⟨by rw [← HN.out]; rfl, hb2⟩

set_option maxHeartbeats 400000 in
theorem ball_stt (p : Stt → Bool) (A : Option Addr) (c : Nat) (xs : List Stt) (w : World) (h : IsStts w w.heap.size A xs) (hl : xs.length ≤ c) (hm : c ≤ maxLen)
    (g : Nat) (bnd cap : Array Value) (eg : ∀ args w, (callFunc g args).run Tryz.prog w = .ok (.enter g args) w) (hp : PredS g bnd cap p xs w) :
    Calls Tryz.prog 53 #[.slice A xs.length c, .func (.func g) bnd cap] w fun e w' => e = .returned (.bool (xs.all p)) ∧ Below w.heap.size w w' := by
  have hB : Below w.heap.size w (w.alloc (.cells #[.func (.func g) bnd cap] 132)) := (Below.refl _ _).alloc (Nat.le_refl _) _
  have HI := hid (bhas_stt (fun x => !p x) A c xs _ (h.at_ hB) hl hm 77 #[] #[.pointer (some ⟨w.heap.size, 0, none⟩)] (enters_of Tryz.func77 (by kernel_rfl) rfl)
    (fun W x hW hx => ball_stt1 g bnd cap w.heap.size (p x) x W eg ((Blk.new _ _ _).keep hW) (fun W1 h1 => hp W1 x (hB.trans ((hW.trans (h1.mono hW.size)).mono hB.size)) hx)))
  have HN : Hid ((!xs.any fun x => !p x) = xs.all p) := hid (by simp [List.all_eq_not_any_not])
  clear hp h eg
  go_enter Tryz.func53, Tryz.ntmps53
  go_wp2_with fail
  refine HI.out.mono ?_
  rintro e w2 ⟨rfl, hb2⟩
  go_wp2
  go_ret
  exact ⟨by rw [← HN.out]; rfl, hB.trans (hb2.mono hB.size)⟩

/-- a test of elements: what it says, in each world that has only grown -/
def PredJ (g : Nat) (bnd cap : Array Value) (p : Jn → Bool) (xs : List Jn) (w : World) : Prop :=
  ∀ W x, Below w.heap.size w W → x ∈ xs → Calls Tryz.prog g (bnd.push (.agg #[.int .i64 x.a, .int .i64 x.b]) ++ cap) W fun e W' => e = .returned (.bool (p x)) ∧ Below W.heap.size W W'

set_option maxRecDepth 10000 in
set_option maxHeartbeats 400000 in
theorem ball_jn1 (g : Nat) (bnd cap : Array Value) (B : Nat) (t : Bool) (x : Jn) (W : World) (eg : ∀ args w, (callFunc g args).run Tryz.prog w = .ok (.enter g args) w) (hB : Blk W B 133 #[.func (.func g) bnd cap])
    (hp : ∀ W1, Below W.heap.size W W1 → Calls Tryz.prog g (bnd.push (.agg #[.int .i64 x.a, .int .i64 x.b]) ++ cap) W1 fun e W' => e = .returned (.bool t) ∧ Below W1.heap.size W1 W') :
    Calls Tryz.prog 79 #[.agg #[.int .i64 x.a, .int .i64 x.b], .pointer (some ⟨B, 0, none⟩)] W fun e W' => e = .returned (.bool (!t)) ∧ Below W.heap.size W W' := by
  have c0 := hB.c1
  have hlt := hB.lt
  have hbW : Below W.heap.size W (W.alloc (.cells #[.int .i64 x.a, .int .i64 x.b] 77)) := (Below.refl _ _).alloc (Nat.le_refl _) _
  have HP := hid (hp _ hbW)
  clear hp hB
  go_enter Tryz.func79, Tryz.ntmps79
  go_wp2_with fail
  refine HP.out.mono ?_
  rintro e w2 ⟨rfl, hb2⟩
  go_wp2
  go_ret
  exact ⟨rfl, hbW.trans (hb2.mono hbW.size)⟩

set_option maxRecDepth 10000 in
set_option maxHeartbeats 400000 in
theorem bidx_jn (f : Value) (q : Jn → Bool) (A : Option Addr) (c : Nat) (xs : List Jn) (w : World) (h : IsJns w w.heap.size A xs) (hl : xs.length ≤ c) (hm : c ≤ maxLen)
    (g : Nat) (bnd cap : Array Value) (hf : f = .func (.func g) bnd cap) (eg : ∀ args w, (callFunc g args).run Tryz.prog w = .ok (.enter g args) w) (hp : PredJ g bnd cap q xs w) :
    Calls Tryz.prog 112 #[.slice A xs.length c, f] w fun e w' => e = .returned (.int .i64 (idxOf q xs)) ∧ Below w.heap.size w w' := by
  subst hf
  unfold maxLen at hm
  have HP := hid hp
  clear hp
  go_enter Tryz.func112, Tryz.ntmps112
  go_wp2
  go_loopw [8] (fun i wr => ∃ k : Nat, k ≤ xs.length ∧ i = .int .i64 k ∧ Below w.heap.size w wr ∧ (xs.take k).any q = false) (fun i _ => xs.length - (intOf i).toNat)
  case atStart => exact ⟨0, Nat.zero_le _, rfl, Below.refl _ _, rfl⟩
  case round =>
    obtain ⟨k, hk, rfl, hbr, hno⟩ := hrel
    have HN := hid hno; clear hno
    by_cases hlt : k < xs.length
    · obtain ⟨a, rfl, hb, f0, f1⟩ := h.below hbr k xs[k] (List.getElem?_eq_getElem hlt)
      have HC := hid (HP.out wr xs[k] hbr (List.getElem_mem hlt))
      have HH := hid (@idxOf_hit Jn q xs k hlt)
      have HT := hid (any_take q xs k hlt)
      generalize xs[k] = x at *
      cases hq : q x
      all_goals
        have HQ := hid hq
        clear hq
        go_wp2_with fail
        refine HC.out.mono ?_
        rintro e w2 ⟨rfl, hb2⟩
        rw [HQ.out]
        go_wp2
      · go_roundw
        case rel => exact ⟨k + 1, by omega, by go_num, hbr.trans (hb2.mono hbr.size), by rw [HT.out, HN.out, HQ.out]; rfl⟩
        case measure => simp [intOf]; omega
      · go_ret
        exact ⟨by rw [HH.out HN.out HQ.out]; rfl, hbr.trans (hb2.mono hbr.size)⟩
    · obtain rfl : k = xs.length := by omega
      rw [List.take_length] at HN
      have HM := hid (idxOf_miss HN.out)
      go_wp2
      go_ret
      exact ⟨by rw [HM.out]; rfl, hbr⟩

set_option maxHeartbeats 400000 in
theorem bhas_jn (q : Jn → Bool) (A : Option Addr) (c : Nat) (xs : List Jn) (w : World) (h : IsJns w w.heap.size A xs) (hl : xs.length ≤ c) (hm : c ≤ maxLen)
    (g : Nat) (bnd cap : Array Value) (eg : ∀ args w, (callFunc g args).run Tryz.prog w = .ok (.enter g args) w) (hp : PredJ g bnd cap q xs w) :
    Calls Tryz.prog 78 #[.slice A xs.length c, .func (.func g) bnd cap] w fun e w' => e = .returned (.bool (xs.any q)) ∧ Below w.heap.size w w' := by
  have HI := hid (bidx_jn _ q A c xs w h hl hm g bnd cap rfl eg hp)
  have HN := hid (idxOf_nonneg q xs)
  clear hp h eg
  go_enter Tryz.func78, Tryz.ntmps78
  go_wp2_with fail
  refine HI.out.mono ?_
  rintro e w2 ⟨rfl, hb2⟩
  go_wp2
  go_ret
  exact ⟨by rw [← HN.out]; rfl, hb2⟩

set_option maxHeartbeats 400000 in
theorem ball_jn (p : Jn → Bool) (A : Option Addr) (c : Nat) (xs : List Jn) (w : World) (h : IsJns w w.heap.size A xs) (hl : xs.length ≤ c) (hm : c ≤ maxLen)
    (g : Nat) (bnd cap : Array Value) (eg : ∀ args w, (callFunc g args).run Tryz.prog w = .ok (.enter g args) w) (hp : PredJ g bnd cap p xs w) :
    Calls Tryz.prog 55 #[.slice A xs.length c, .func (.func g) bnd cap] w fun e w' => e = .returned (.bool (xs.all p)) ∧ Below w.heap.size w w' := by
  have hB : Below w.heap.size w (w.alloc (.cells #[.func (.func g) bnd cap] 133)) := (Below.refl _ _).alloc (Nat.le_refl _) _
  have HI := hid (bhas_jn (fun x => !p x) A c xs _ (h.at_ hB) hl hm 79 #[] #[.pointer (some ⟨w.heap.size, 0, none⟩)] (enters_of Tryz.func79 (by kernel_rfl) rfl)
    (fun W x hW hx => ball_jn1 g bnd cap w.heap.size (p x) x W eg ((Blk.new _ _ _).keep hW) (fun W1 h1 => hp W1 x (hB.trans ((hW.trans (h1.mono hW.size)).mono hB.size)) hx)))
  have HN : Hid ((!xs.any fun x => !p x) = xs.all p) := hid (by simp [List.all_eq_not_any_not])
  clear hp h eg
  go_enter Tryz.func55, Tryz.ntmps55
  go_wp2_with fail
  refine HI.out.mono ?_
  rintro e w2 ⟨rfl, hb2⟩
  go_wp2
  go_ret
  exact ⟨by rw [← HN.out]; rfl, hB.trans (hb2.mono hB.size)⟩
end Go.Proofs.YtlnamjhgbdacbaaGreat
