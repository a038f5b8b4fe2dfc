/- The parts of a total in plain words, the copy of a list, an argument opened. Conditions stand at each theorem. -/
import Derived.Deep.Upon
import Derived.ChangeSlices
import Derived.Test.YtgoianldiomdoaaG1
import Derived.Test.YtgoianldiomdoaaG5
import Derived.Test.YtgoianldiomdoaaG6
/- The order of Divide's parts: what it is, in plain words. -/
namespace Go.Proofs.Ytgoianldiomdoaa

theorem getD_set_at {α : Type} (l : List α) (i k : Nat) (a d : α) (hi : i < l.length) : (l.set i a).getD k d = if i = k then a else l.getD k d := by
  simp only [List.getD, List.getElem?_set]
  by_cases h : i = k
  · subst h; simp [hi]
  · simp [h]
theorem sum_set (l : List Int) : ∀ (i : Nat) (a : Int), i < l.length → (l.set i a).sum = l.sum - l.getD i 0 + a := by
  induction l with
  | nil => intro i a h; simp at h
  | cons x l ih =>
    intro i a h
    cases i with
    | zero => simp [List.getD]; omega
    | succ i =>
      have := ih i a (by simpa using h)
      simp only [List.set_cons_succ, List.sum_cons, this]
      simp [List.getD]; omega
theorem map_set' {α β : Type} (f : α → β) (l : List α) (i : Nat) (a : α) : (l.set i a).map f = (l.map f).set i (f a) := by
  rw [List.map_set]
theorem getD_map' (g : Nat → Int) (l : List Nat) (i : Nat) (hi : i < l.length) : (l.map g).getD i 0 = g (l.getD i 0) := by
  simp [List.getD, List.getElem?_map, List.getElem?_eq_getElem hi]
theorem sink_sum (key g : Nat → Int) : ∀ (j : Nat) (l : List Nat), j < l.length → ((sink key j l).map g).sum = (l.map g).sum
  | 0, _, _ => rfl
  | j + 1, l, hj => by
    unfold sink
    split
    · rw [sink_sum key g j _ (by simp; omega), map_set', map_set', sum_set _ _ _ (by simp; omega), sum_set _ _ _ (by simpa using hj), getD_set_at _ _ _ _ _ (by simpa using hj), if_neg (by omega), getD_map' g l _ hj, getD_map' g l _ (by omega)]
      omega
    · rfl
theorem insTo_sum (key g : Nat → Int) (l : List Nat) : ∀ i, i ≤ l.length → ((insTo key l i).map g).sum = (l.map g).sum
  | 0, _ => rfl
  | i + 1, hi => by rw [insTo, sink_sum key g i _ (by rw [insTo_len]; omega), insTo_sum key g l i (by omega)]

/-- a comes ahead of b -/
def Rk (key : Nat → Int) (a b : Nat) : Prop := key b < key a ∨ (key a = key b ∧ a < b)
theorem sink_sorted (key : Nat → Int) : ∀ (j t : Nat) (l : List Nat), j ≤ t → t < l.length →
    (∀ p q, p < q → q ≤ t → p ≠ j → q ≠ j → Rk key (l.getD p 0) (l.getD q 0)) → (∀ q, j < q → q ≤ t → Rk key (l.getD j 0) (l.getD q 0)) → (∀ p, p ≤ t → p ≠ j → l.getD p 0 < l.getD j 0) →
    (∀ p q, p < q → q ≤ t → Rk key ((sink key j l).getD p 0) ((sink key j l).getD q 0)) ∧ (∀ q, t < q → (sink key j l).getD q 0 = l.getD q 0)
  | 0, t, l, _, _, h1, h2, _ => by
    refine ⟨fun p q hpq hq => ?_, fun q _ => rfl⟩
    show Rk key (l.getD p 0) (l.getD q 0)
    by_cases hp : p = 0
    · subst hp; exact h2 q hpq hq
    · exact h1 p q hpq hq hp (by omega)
  | j + 1, t, l, hj, ht, h1, h2, h3 => by
    unfold sink
    split
    · rename_i hlt
      have hg : ∀ k, ((l.set (j + 1) (l.getD j 0)).set j (l.getD (j + 1) 0)).getD k 0 = if j = k then l.getD (j + 1) 0 else if j + 1 = k then l.getD j 0 else l.getD k 0 := fun k => by
        rw [getD_set_at _ _ _ _ _ (by simp; omega), getD_set_at _ _ _ _ _ (by omega)]
      have := sink_sorted key j t ((l.set (j + 1) (l.getD j 0)).set j (l.getD (j + 1) 0)) (by omega) (by simpa using ht) ?_ ?_ ?_
      · refine ⟨this.1, fun q hq => ?_⟩
        rw [this.2 q hq, hg, if_neg (by omega), if_neg (by omega)]
      · intro p q hpq hq hp hq'
        rw [hg, hg, if_neg (show ¬ j = p by omega), if_neg (show ¬ j = q by omega)]
        by_cases e : j + 1 = p
        · rw [if_pos e, if_neg (by omega)]
          exact h1 j q (by omega) hq (by omega) (by omega)
        · rw [if_neg e]
          by_cases e2 : j + 1 = q
          · rw [if_pos e2]
            exact h1 p j (by omega) (by omega) (by omega) (by omega)
          · rw [if_neg e2]
            exact h1 p q hpq hq (by omega) (by omega)
      · intro q hjq hq
        rw [hg, hg, if_pos rfl, if_neg (show ¬ j = q by omega)]
        by_cases e : j + 1 = q
        · rw [if_pos e]; exact .inl hlt
        · rw [if_neg e]; exact h2 q (by omega) hq
      · intro p hp hpj
        rw [hg, hg, if_pos rfl, if_neg (show ¬ j = p by omega)]
        by_cases e : j + 1 = p
        · rw [if_pos e]; exact h3 j (by omega) (by omega)
        · rw [if_neg e]; exact h3 p hp (by omega)
    · rename_i hlt
      refine ⟨fun p q hpq hq => ?_, fun q _ => rfl⟩
      by_cases hp : p = j + 1
      · subst hp; exact h2 q hpq hq
      · by_cases hq' : q = j + 1
        · subst hq'
          have hx := h3 p (by omega) hp
          by_cases e : p = j
          · subst e
            unfold Rk; omega
          · have := h1 p j (by omega) (by omega) hp (by omega)
            unfold Rk at this ⊢; omega
        · exact h1 p q hpq hq hp hq'
theorem sink_bound (key : Nat → Int) (M : Nat) : ∀ (j t : Nat) (l : List Nat), j ≤ t → t < l.length → (∀ p, p ≤ t → l.getD p 0 < M) → ∀ p, p ≤ t → (sink key j l).getD p 0 < M
  | 0, _, _, _, _, h => h
  | j + 1, t, l, hj, ht, h => by
    unfold sink
    split
    · refine sink_bound key M j t _ (by omega) (by simpa using ht) fun p hp => ?_
      rw [getD_set_at _ _ _ _ _ (by simp; omega), getD_set_at _ _ _ _ _ (by omega)]
      split
      · exact h _ (by omega)
      · split
        · exact h _ (by omega)
        · exact h p hp
    · exact h
theorem insTo_sorted (key : Nat → Int) (n : Nat) : ∀ i, i ≤ n → (∀ p q, p < q → q < i → Rk key ((insTo key (List.range n) i).getD p 0) ((insTo key (List.range n) i).getD q 0)) ∧
    (∀ q, i ≤ q → q < n → (insTo key (List.range n) i).getD q 0 = q) ∧ (∀ p, p < i → (insTo key (List.range n) i).getD p 0 < i)
  | 0, _ => ⟨fun p q _ h => absurd h (Nat.not_lt_zero _), fun q _ hq => by simp [insTo, List.getD, hq], fun p h => absurd h (Nat.not_lt_zero _)⟩
  | i + 1, hi => by
    obtain ⟨a1, a2, a3⟩ := insTo_sorted key n i (by omega)
    have hl : (insTo key (List.range n) i).length = n := by rw [insTo_len, List.length_range]
    have hx := a2 i (Nat.le_refl _) (by omega)
    have := sink_sorted key i i (insTo key (List.range n) i) (Nat.le_refl _) (by omega) (fun p q hpq hq hp hq' => a1 p q hpq (by omega)) (fun q h1 h2 => absurd h1 (by omega)) (fun p hp hp' => by rw [hx]; exact a3 p (by omega))
    refine ⟨fun p q hpq hq => this.1 p q hpq (by omega), fun q hq hqn => by rw [insTo, this.2 q (by omega)]; exact a2 q (by omega) hqn, ?_⟩
    intro p hp
    rw [insTo]
    exact sink_bound key (i + 1) i i _ (Nat.le_refl _) (by omega) (fun p hp => by
      by_cases e : p = i
      · rw [e, hx]; omega
      · have := a3 p (by omega); omega) p (by omega)

/-- an order of the first n numbers by a key, the greatest first -/
structure Ord (key : Nat → Int) (n : Nat) (o : List Nat) : Prop where
  len : o.length = n
  lt : ∀ p, p < n → o.getD p 0 < n
  srt : ∀ p q, p < q → q < n → Rk key (o.getD p 0) (o.getD q 0)
  sum : ∀ g : Nat → Int, (o.map g).sum = ((List.range n).map g).sum
theorem ord_ins (key : Nat → Int) (n : Nat) : Ord key n (insTo key (List.range n) n) := by
  have h := insTo_sorted key n n (Nat.le_refl _)
  exact ⟨by rw [insTo_len, List.length_range], h.2.2, fun p q h1 h2 => h.1 p q h1 h2, fun g => insTo_sum key g _ _ (by simp)⟩
theorem sum_nonneg : ∀ (l : List Int), (∀ y ∈ l, 0 ≤ y) → 0 ≤ l.sum
  | [], _ => by simp
  | y :: l, h => by
    rw [List.sum_cons]
    have := sum_nonneg l fun z hz => h z (List.mem_cons_of_mem _ hz)
    have := h y (by simp)
    omega
theorem sum_ge : ∀ (l : List Int), (∀ y ∈ l, 0 ≤ y) → ∀ y ∈ l, y ≤ l.sum
  | [], _, y, hy => by simp at hy
  | x :: l, h, y, hy => by
    rw [List.sum_cons]
    have h1 := sum_nonneg l fun z hz => h z (List.mem_cons_of_mem _ hz)
    rcases List.mem_cons.1 hy with rfl | hy
    · omega
    · have := sum_ge l (fun z hz => h z (List.mem_cons_of_mem _ hz)) y hy
      have := h x (by simp)
      omega
section
variable {key : Nat → Int} {n : Nat} {o : List Nat}
theorem Ord.inj (h : Ord key n o) {p q : Nat} (hp : p < n) (hq : q < n) (e : o.getD p 0 = o.getD q 0) : p = q := by
  rcases Nat.lt_trichotomy p q with hl | hl | hl
  · have := h.srt p q hl hq; unfold Rk at this; rw [e] at this; omega
  · exact hl
  · have := h.srt q p hl hp; unfold Rk at this; rw [e] at this; omega
theorem Ord.mem (h : Ord key n o) {i : Nat} (hi : i < n) : ∃ p, p < n ∧ o.getD p 0 = i := by
  have hs := h.sum fun x => if x = i then 1 else 0
  have h1 : (1 : Int) ≤ ((List.range n).map fun x => if x = i then (1 : Int) else 0).sum :=
    sum_ge _ (fun y hy => by obtain ⟨x, _, rfl⟩ := List.mem_map.1 hy; show (0 : Int) ≤ if x = i then 1 else 0; split <;> omega) 1 (List.mem_map.2 ⟨i, by simpa using hi, by simp⟩)
  by_cases hm : i ∈ o
  · obtain ⟨p, hp⟩ := List.getElem?_of_mem hm
    exact ⟨p, by rw [← h.len]; exact (List.getElem?_eq_some_iff.1 hp).1, by simp [List.getD, hp]⟩
  · have : (o.map fun x => if x = i then (1 : Int) else 0).sum = 0 := by
      have hz : ∀ l : List Nat, i ∉ l → (l.map fun x => if x = i then (1 : Int) else 0).sum = 0 := by
        intro l
        induction l with
        | nil => intro _; rfl
        | cons x l ih =>
          intro hx
          rw [List.map_cons, List.sum_cons, ih (fun hh => hx (List.mem_cons_of_mem _ hh)), if_neg (fun e => hx (by rw [e]; simp))]; rfl
      exact hz o hm
    omega
end
theorem order_ord (whole sum : Int) (ws : List Int) : Ord (restOf whole sum ws) ws.length (orderOf whole sum ws) := ord_ins _ _

theorem bumpTo_at (whole sum : Int) (ws : List Int) {i p : Nat} (hp : p < ws.length) (hi : (orderOf whole sum ws).getD p 0 = i) : ∀ j, j ≤ ws.length →
    (bumpTo whole sum ws j).getD i 0 = (baseOf whole sum ws).getD i 0 + if p < j then 1 else 0
  | 0, _ => by simp [bumpTo]
  | j + 1, hj => by
    have O := order_ord whole sum ws
    have hl := O.len
    have ih := bumpTo_at whole sum ws hp hi j (by omega)
    have hil : i < ws.length := by rw [← hi]; exact O.lt p hp
    have hgj : (orderOf whole sum ws).getD j 0 = (orderOf whole sum ws)[j]'(by omega) := by simp [List.getD, List.getElem?_eq_getElem (show j < (orderOf whole sum ws).length by omega)]
    rw [bumpTo_succ (List.getElem?_eq_getElem (by omega : j < (orderOf whole sum ws).length)), ← hgj]
    have hjl := O.lt j (by omega)
    unfold bump
    rw [getD_set_at _ _ _ _ _ (by rw [bumpTo_len]; exact hjl)]
    by_cases e : j = p
    · subst e
      rw [if_pos hi, hi, ih, if_neg (by omega), if_pos (by omega)]; omega
    · have hne : (orderOf whole sum ws).getD j 0 ≠ i := fun h => e (O.inj (by omega) hp (h.trans hi.symm))
      rw [if_neg hne, ih]
      by_cases hpj : p < j
      · rw [if_pos hpj, if_pos (by omega)]
      · rw [if_neg hpj, if_neg (by omega)]
theorem bumpTo_sum (whole sum : Int) (ws : List Int) : ∀ j, j ≤ ws.length → (bumpTo whole sum ws j).sum = (baseOf whole sum ws).sum + j
  | 0, _ => by simp [bumpTo]
  | j + 1, hj => by
    have O := order_ord whole sum ws
    have hl := O.len
    have hgj : (orderOf whole sum ws).getD j 0 = (orderOf whole sum ws)[j]'(by omega) := by simp [List.getD, List.getElem?_eq_getElem (show j < (orderOf whole sum ws).length by omega)]
    rw [bumpTo_succ (List.getElem?_eq_getElem (by omega : j < (orderOf whole sum ws).length)), ← hgj]
    have hjl := O.lt j (by omega)
    unfold bump
    rw [sum_set _ _ _ (by rw [bumpTo_len]; exact hjl), bumpTo_sum whole sum ws j (by omega)]
    omega

theorem range_map (f : Int → Int) (ws : List Int) : (List.range ws.length).map (fun i => f (ws.getD i 0)) = ws.map f := by
  refine List.ext_getElem (by simp) fun i h1 h2 => ?_
  simp at h2
  simp [List.getD, List.getElem?_eq_getElem h2]
theorem rest_sum (whole sum : Int) : ∀ ws : List Int, (ws.map fun x => (whole * x) % sum).sum = whole * ws.sum - sum * (baseOf whole sum ws).sum
  | [] => by simp [baseOf]
  | x :: ws => by
    have ih := rest_sum whole sum ws
    have e1 : (baseOf whole sum (x :: ws)).sum = whole * x / sum + (baseOf whole sum ws).sum := by simp [baseOf]
    have h1 := Int.mul_ediv_add_emod (whole * x) sum
    rw [List.map_cons, List.sum_cons, ih, e1, List.sum_cons, Int.mul_add, Int.mul_add]
    omega
theorem take_sum_le (b : Int) : ∀ (l : List Int), (∀ y ∈ l, y ≤ b) → l.sum ≤ l.length * b
  | [], _ => by simp
  | y :: l, h => by
    rw [List.sum_cons, List.length_cons, Int.natCast_add, Int.add_mul]
    have := take_sum_le b l fun z hz => h z (List.mem_cons_of_mem _ hz)
    have := h y (by simp)
    simp only [Int.natCast_one, Int.one_mul]; omega

section
variable {whole : Int} {ws : List Int}
theorem left_le (ok : DOk whole ws.sum ws) (hne : ws ≠ []) : (leftOf whole ws.sum ws : Int) = whole - (baseOf whole ws.sum ws).sum ∧ leftOf whole ws.sum ws < ws.length := by
  have := left_bounds (whole := whole) ok.s0 hne
  unfold leftOf
  omega
theorem rest_range (ok : DOk whole ws.sum ws) (i : Nat) : 0 ≤ restOf whole ws.sum ws i ∧ restOf whole ws.sum ws i < ws.sum := by
  have := ok.s0
  unfold restOf
  exact ⟨Int.emod_nonneg _ (by omega), Int.emod_lt_of_pos _ (by omega)⟩
/-- who gets one more has a rest -/
theorem rest_pos (ok : DOk whole ws.sum ws) (hne : ws ≠ []) {p : Nat} (hp : p < leftOf whole ws.sum ws) : 0 < restOf whole ws.sum ws ((orderOf whole ws.sum ws).getD p 0) := by
  obtain ⟨e1, e2⟩ := left_le ok hne
  have O := order_ord whole ws.sum ws
  by_cases hz : 0 < restOf whole ws.sum ws ((orderOf whole ws.sum ws).getD p 0)
  · exact hz
  · exfalso
    have hs := O.sum (restOf whole ws.sum ws)
    rw [show (List.range ws.length).map (restOf whole ws.sum ws) = ws.map fun x => (whole * x) % ws.sum from range_map (fun x => (whole * x) % ws.sum) ws, rest_sum] at hs
    have hsplit : ((orderOf whole ws.sum ws).map (restOf whole ws.sum ws)).sum = (((orderOf whole ws.sum ws).map (restOf whole ws.sum ws)).take p).sum + (((orderOf whole ws.sum ws).map (restOf whole ws.sum ws)).drop p).sum := by rw [← List.sum_append, List.take_append_drop]
    have hd : (((orderOf whole ws.sum ws).map (restOf whole ws.sum ws)).drop p).sum ≤ 0 := by
      have := take_sum_le 0 (((orderOf whole ws.sum ws).map (restOf whole ws.sum ws)).drop p) fun y hy => by
        obtain ⟨q, hq⟩ := List.getElem?_of_mem hy
        rw [List.getElem?_drop, List.getElem?_map] at hq
        cases hx : (orderOf whole ws.sum ws)[p + q]? with
        | none => rw [hx] at hq; cases hq
        | some x =>
          rw [hx] at hq
          have hlt := (List.getElem?_eq_some_iff.1 hx).1
          rw [O.len] at hlt
          have hgx : (orderOf whole ws.sum ws).getD (p + q) 0 = x := by simp [List.getD, hx]
          simp at hq
          by_cases e : q = 0
          · subst e
            rw [Nat.add_zero] at hgx
            rw [hgx] at hz
            omega
          · have := O.srt p (p + q) (by omega) hlt
            rw [hgx] at this
            unfold Rk at this
            omega
      simpa using this
    have ht := take_sum_le (ws.sum - 1) (((orderOf whole ws.sum ws).map (restOf whole ws.sum ws)).take p) fun y hy => by
      obtain ⟨x, _, rfl⟩ := List.mem_map.1 (List.mem_of_mem_take hy)
      have := (rest_range ok x).2
      omega
    have hlen : (((orderOf whole ws.sum ws).map (restOf whole ws.sum ws)).take p).length = p := by simp [O.len]; omega
    rw [hlen] at ht
    have e3 : whole * ws.sum - ws.sum * (baseOf whole ws.sum ws).sum = (leftOf whole ws.sum ws : Int) * ws.sum := by
      rw [e1, Int.sub_mul, Int.mul_comm ws.sum]
    rw [e3] at hs
    have hs0 := ok.s0
    have h4 : (leftOf whole ws.sum ws : Int) * ws.sum ≤ (p : Int) * (ws.sum - 1) := by omega
    have h5 : (p : Int) * (ws.sum - 1) ≤ (p : Int) * ws.sum := Int.mul_le_mul_of_nonneg_left (by omega) (by omega)
    have h6 : ((p : Int) + 1) * ws.sum ≤ (leftOf whole ws.sum ws : Int) * ws.sum := Int.mul_le_mul_of_nonneg_right (by omega) (by omega)
    rw [Int.add_mul, Int.one_mul] at h6
    omega
end
end Go.Proofs.Ytgoianldiomdoaa
/- The parts of a total: what they are, in plain words. -/
namespace Go.Proofs.Ytgoianldiomdoaa

theorem getD_some {α : Type} {l : List α} {i : Nat} {x d : α} (h : l[i]? = some x) : l.getD i d = x := by simp [List.getD, h]
section
variable {whole : Int} {ws : List Int}
theorem div_len (ws : List Int) (whole : Int) : (divOf ws whole).length = ws.length := bumpTo_len _ _ _ _
theorem div_sum (ok : DOk whole ws.sum ws) (hne : ws ≠ []) : (divOf ws whole).sum = whole := by
  obtain ⟨e1, e2⟩ := left_le ok hne
  unfold divOf
  rw [bumpTo_sum _ _ _ _ (by omega)]
  omega
theorem div_at (ok : DOk whole ws.sum ws) (hne : ws ≠ []) {i : Nat} {x o : Int} (hx : ws[i]? = some x) (ho : (divOf ws whole)[i]? = some o) :
    ∃ p, p < ws.length ∧ (orderOf whole ws.sum ws).getD p 0 = i ∧ o = whole * x / ws.sum + if p < leftOf whole ws.sum ws then 1 else 0 := by
  obtain ⟨e1, e2⟩ := left_le ok hne
  have hi := (List.getElem?_eq_some_iff.1 hx).1
  obtain ⟨p, hp, e⟩ := (order_ord whole ws.sum ws).mem hi
  refine ⟨p, hp, e, ?_⟩
  have := bumpTo_at whole ws.sum ws hp e (leftOf whole ws.sum ws) (by omega)
  have hb : (baseOf whole ws.sum ws).getD i 0 = whole * x / ws.sum := getD_some (by simp [baseOf, hx])
  rw [hb] at this
  rw [← this]
  exact (getD_some ho).symm
theorem rest_at (s : Int) {i : Nat} {x : Int} (hx : ws[i]? = some x) : restOf whole s ws i = whole * x % s := by unfold restOf; rw [getD_some hx]
/-- each part differs from its share by less than one -/
theorem div_near (ok : DOk whole ws.sum ws) (hne : ws ≠ []) {i : Nat} {x o : Int} (hx : ws[i]? = some x) (ho : (divOf ws whole)[i]? = some o) : -ws.sum < o * ws.sum - whole * x ∧ o * ws.sum - whole * x < ws.sum := by
  obtain ⟨p, hp, e, rfl⟩ := div_at ok hne hx ho
  have hr := rest_range ok i
  rw [rest_at _ hx] at hr
  have h1 := Int.mul_ediv_add_emod (whole * x) ws.sum
  rw [Int.mul_comm ws.sum] at h1
  by_cases h : p < leftOf whole ws.sum ws
  · rw [if_pos h, Int.add_mul]
    have := rest_pos ok hne h
    rw [e, rest_at _ hx] at this
    omega
  · rw [if_neg h, Int.add_mul]
    omega
/-- the greater weight never gets less -/
theorem div_mono (ok : DOk whole ws.sum ws) (hne : ws ≠ []) {i k : Nat} {x y o u : Int} (hx : ws[i]? = some x) (ho : (divOf ws whole)[i]? = some o) (hy : ws[k]? = some y) (hu : (divOf ws whole)[k]? = some u) (h : y < x) : u ≤ o := by
  obtain ⟨p, hp, e, rfl⟩ := div_at ok hne hx ho
  obtain ⟨q, hq, e', rfl⟩ := div_at ok hne hy hu
  obtain ⟨l1, l2⟩ := left_le ok hne
  have h1 := Int.mul_ediv_add_emod (whole * x) ws.sum
  have h2 := Int.mul_ediv_add_emod (whole * y) ws.sum
  have hs := ok.s0
  have hle : whole * y ≤ whole * x := Int.mul_le_mul_of_nonneg_left (by omega) ok.w0
  have hd : whole * y / ws.sum ≤ whole * x / ws.sum := Int.ediv_le_ediv (by omega) hle
  by_cases hw : whole = 0
  · have hb : (baseOf whole ws.sum ws).sum = 0 := by
      rw [hw]
      have : ∀ l : List Int, (baseOf 0 ws.sum l).sum = 0 := by
        intro l
        induction l with
        | nil => rfl
        | cons z l ih =>
          have : (baseOf 0 ws.sum (z :: l)).sum = 0 * z / ws.sum + (baseOf 0 ws.sum l).sum := by simp [baseOf]
          rw [this, ih]; simp
      exact this ws
    rw [if_neg (show ¬ p < leftOf whole ws.sum ws by omega), if_neg (show ¬ q < leftOf whole ws.sum ws by omega)]
    omega
  · have hlt : whole * y < whole * x := Int.mul_lt_mul_of_pos_left h (by have := ok.w0; omega)
    by_cases heq : whole * y / ws.sum = whole * x / ws.sum
    · rw [heq] at h2
      have hk : restOf whole ws.sum ws k < restOf whole ws.sum ws i := by
        rw [rest_at _ hx, rest_at _ hy]
        omega
      have hpq : p < q := by
        rcases Nat.lt_trichotomy p q with hl | hl | hl
        · exact hl
        · subst hl; rw [e] at e'; subst e'; omega
        · have := (order_ord whole ws.sum ws).srt q p hl hp
          rw [e, e'] at this
          unfold Rk at this; omega
      rw [heq]
      by_cases hql : q < leftOf whole ws.sum ws
      · rw [if_pos hql, if_pos (show p < leftOf whole ws.sum ws by omega)]; omega
      · rw [if_neg hql]
        split <;> omega
    · split <;> split <;> omega
end
/-- all weights times the same number -/
theorem sink_key {f g : Nat → Int} (h : ∀ a b, f a < f b ↔ g a < g b) : ∀ (j : Nat) (l : List Nat), sink f j l = sink g j l
  | 0, _ => rfl
  | j + 1, l => by
    unfold sink
    by_cases hc : g (l.getD j 0) < g (l.getD (j + 1) 0)
    · rw [if_pos hc, if_pos ((h _ _).2 hc)]
      exact sink_key h j _
    · rw [if_neg hc, if_neg (fun hh => hc ((h _ _).1 hh))]
theorem insTo_key {f g : Nat → Int} (h : ∀ a b, f a < f b ↔ g a < g b) (l : List Nat) : ∀ i, insTo f l i = insTo g l i
  | 0 => rfl
  | i + 1 => by rw [insTo, insTo, insTo_key h l i, sink_key h]
theorem sum_times (n : Int) : ∀ ws : List Int, (ws.map fun x => n * x).sum = n * ws.sum
  | [] => by simp
  | x :: ws => by rw [List.map_cons, List.sum_cons, List.sum_cons, sum_times n ws, Int.mul_add]
theorem div_times {n whole : Int} (hn : 1 ≤ n) (ws : List Int) : divOf (ws.map fun x => n * x) whole = divOf ws whole := by
  have hb : baseOf whole (n * ws.sum) (ws.map fun x => n * x) = baseOf whole ws.sum ws := by
    unfold baseOf
    rw [List.map_map]
    refine List.map_congr_left fun x _ => ?_
    show whole * (n * x) / (n * ws.sum) = whole * x / ws.sum
    rw [show whole * (n * x) = n * (whole * x) by rw [← Int.mul_assoc, Int.mul_comm whole n, Int.mul_assoc]]
    exact Int.mul_ediv_mul_of_pos _ _ (by omega)
  have hr : ∀ i, restOf whole (n * ws.sum) (ws.map fun x => n * x) i = n * restOf whole ws.sum ws i := fun i => by
    unfold restOf
    have hg : (ws.map fun x => n * x).getD i 0 = n * ws.getD i 0 := by
      simp only [List.getD, List.getElem?_map]
      cases ws[i]? <;> simp
    rw [hg, show whole * (n * ws.getD i 0) = n * (whole * ws.getD i 0) by rw [← Int.mul_assoc, Int.mul_comm whole n, Int.mul_assoc]]
    exact Int.mul_emod_mul_of_pos _ _ (by omega)
  have ho : orderOf whole (n * ws.sum) (ws.map fun x => n * x) = orderOf whole ws.sum ws := by
    unfold orderOf
    rw [List.length_map]
    refine insTo_key (fun a b => ?_) _ _
    rw [hr, hr]
    exact Int.mul_lt_mul_left (by omega)
  unfold divOf bumpTo leftOf
  rw [sum_times, hb, ho]
theorem div_e {ws : List Int} {whole m : Int} (hm : m ≤ 10000) (hl : ws.length ≤ 12) (hx : ∀ x ∈ ws, 0 ≤ x ∧ x ≤ m) (hs : ws.sum ≠ 0) (hw : 0 ≤ whole ∧ whole ≤ 100000) : divE ws whole = 0 := by
  unfold divE
  rw [if_neg (by omega), if_neg, if_neg (by simpa using hs)]
  have h1 : (ws.all fun x => withinB x 0 10000) = true := List.all_eq_true.2 fun x hx' => by have := hx x hx'; simp [withinB]; omega
  have h2 : withinB whole 0 100000 = true := by simp [withinB]; omega
  rw [h1, h2]; simp
end Go.Proofs.Ytgoianldiomdoaa
/- The law's own copy of a list. -/
namespace Go.Proofs.Ytgoianldiomdoaa
open Go.RowKit Go.Shelf

set_option maxRecDepth 10000 in
set_option maxHeartbeats 400000 in
theorem list_any (A : Option Addr) (c : Nat) (xs : List Int) (w : World) (h : IsInts w w.heap.size A xs) (hA : A = none → c = 0) (hl : xs.length ≤ 1000000) :
    Calls Try.prog 30 #[.slice A xs.length c] w (GivesInts xs w) := by
  obtain ⟨i0, hi0, hz0, hz1, hz2⟩ := info_parts int_info
  cases A with
  | none =>
    have hx : xs = [] := by
      cases xs with
      | nil => rfl
      | cons x l => obtain ⟨a, e, _⟩ := h 0 x rfl; cases e
    subst hx
    obtain rfl := hA rfl
    have hr : (Builtin.append_ #[56, 56] 56 #[.slice none 0 0, .slice none 0 0]).run Try.prog w = .ok (.slice none 0 0) w := by
      exact run_append_nothing (P := Try.prog) w 56 56 56 3 i0 Try.underlying56 hi0 none 0 0 (Nat.le_refl _) (.slice none 0 0) (Src.ofNil w Try.underlying56 0)
    go_enter Try.func30, Try.ntmps30
    go_wp2
    go_ret
    exact ⟨none, 0, rfl, Nat.le_refl _, Nat.zero_le _, (fun k x hk => by simp at hk), (fun a e => by cases e), fun _ => rfl, Below.refl _ _⟩
  | some a =>
    have hnews := hid (ints_news h)
    have HO := hid (World.ownsRow_nil w w.heap.size 3 1)
    clear hA h
    go_enter Try.func30, Try.ntmps30
    go_wp2_with (at_builtin; refine wpList_append_own_at _ rfl _ _ 56 rfl w.heap.size 3 i0 (.int .i64 0) 1 8 Try.underlying56 hi0 hz0 hz1 hz2 rfl (by decide) _ 0 [] rfl HO.out a xs.length c (xs.map (Value.int .i64)) rfl (by simp) hnews.out (ints_one xs) (by simp only [maxLen]; omega) (by omega) (by simp) ?_; intro v' w1 hown' hgrow _ _)
    go_ret
    obtain ⟨A1, c1, rfl, h1, h2, h3, h4, h5⟩ := own_ints (xs := xs) (n := 0 + xs.length) (by omega) (by simpa using hown')
    exact ⟨A1, c1, rfl, h1, h2, h3, h4, h5, (Below.refl _ _).grown hgrow (Nat.le_refl _) (fun k hk => by cases hk)⟩
end Go.Proofs.Ytgoianldiomdoaa
/- Opening an argument that is a list of numbers. -/
namespace Go.Proofs.Ytgoianldiomdoaa
open Go.ChangeShapes Go.WideShapes Go.ChangeAt Go.RowKit

section
variable {H : Type} {enc : TypeId × Value → H}
theorem of_slice {a b : Option Addr} {n m c d : Nat} {v : Value} (h : v = .slice a n c) (e : v.cells.toList = [.slice b m d]) : v = .slice b m d := by
  subst h
  simpa [Value.cells] using e
set_option maxRecDepth 100000 in
/-- a list of numbers of one kind, as an argument -/
theorem open_nums {W : World} {r : Reach} {b0 : Nat} {t e : TypeId} {k : IntKind} {v : Value} {d : DataW H} {ps : List MemPlace} (ht : Try.prog.underlying t = some (.slice e)) (he : Try.prog.underlying e = some (.int k)) (hc : Try.prog.cellsOf e = 1)
    (hval : Value.okWide Try.prog W r b0 t v) (hd : DataW.Trod enc Try.prog W 0 (fun _ => true) true t v d ps) :
    ∃ (A : Option Addr) (c : Nat) (xs : List Int), v = .slice A xs.length c ∧ xs.length ≤ c ∧ c ≤ maxLen ∧ (A = none → c = 0) ∧ (∀ x ∈ xs, k.min ≤ x ∧ x ≤ k.max) ∧
      ∀ i x, xs[i]? = some x → ∃ a, A = some a ∧ a.block < W.heap.size ∧ W.cell? (a.add i) = some (.int k x) := by
  obtain ⟨fuel, h⟩ := hd
  obtain ⟨a0, n0, c0, hv⟩ := okWide_slice ht hval
  rcases open_ints ht he hc h with ⟨e1, _⟩ | ⟨a, len, cap, zs, e1, _, hl, hm, hz, _, hcell, hwf⟩
  · have := of_slice hv e1
    subst this
    exact ⟨none, 0, [], rfl, Nat.le_refl 0, Nat.zero_le maxLen, fun _ => rfl, (fun x hx => by simp at hx), fun i x hx => by simp at hx⟩
  · have := of_slice hv e1
    subst this
    simp only [if_true] at hz
    have hlt : (zs.take len).length = len := by rw [List.length_take]; omega
    refine ⟨some a, cap, zs.take len, by rw [hlt], by omega, hm, (fun e => by cases e), (fun x hx => by simpa [Lit.wf] using hwf x (List.mem_of_mem_take hx)), fun i x hx => ?_⟩
    rw [List.getElem?_take] at hx
    split at hx
    · have hi := (List.getElem?_eq_some_iff.1 hx).1
      have hcl := hcell i hi
      rw [show zs.getD i 0 = x by simp [List.getD, hx]] at hcl
      exact ⟨a, rfl, by have := block_lt_of_cell hcl; rwa [block_of_add] at this, hcl⟩
    · cases hx
end
end Go.Proofs.Ytgoianldiomdoaa
