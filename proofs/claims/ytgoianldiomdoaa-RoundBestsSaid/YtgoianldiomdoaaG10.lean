/- All roundings of a table, in order, and the tests of a rounding, the program's and the reference's. Conditions stand at each theorem. -/
import Derived.StillTailTactics
import Derived.Deep.OwnRows
import Derived.Test.YtgoianldiomdoaaG1
import Derived.Test.YtgoianldiomdoaaG3
import Derived.Test.YtgoianldiomdoaaG6
import Derived.Test.YtgoianldiomdoaaG9
/- A table of multiples without fixes has one rounding: itself. -/
namespace Go.Proofs.Ytgoianldiomdoaa

/-- all cells are multiples -/
def Mult (b : Int) (cs : List (List Int)) : Prop := ∀ r ∈ cs, ∀ x ∈ r, x % b = 0
theorem low_mult {b x : Int} (h : x % b = 0) : lowOf b x = x := by unfold lowOf; omega
theorem high_mult {b x : Int} (hb : 2 ≤ b) (h : x % b = 0) : highOf b x = x := by
  unfold highOf lowOf
  have e : (x + b - 1) % b = b - 1 := by
    rw [show x + b - 1 = (b - 1) + x by omega, Int.add_emod, h, Int.add_zero, Int.emod_emod]
    exact Int.emod_eq_of_lt (by omega) (by omega)
  omega
theorem near_self {b x : Int} (h : x % b = 0) : nearB b x x = true := by unfold nearB; rw [low_mult h]; simp
theorem mult_add {b x y : Int} (h1 : x % b = 0) (h2 : y % b = 0) : (x + y) % b = 0 := by rw [Int.add_emod, h1, h2]; rfl
theorem mult_sum {b : Int} : ∀ {xs : List Int}, (∀ x ∈ xs, x % b = 0) → xs.sum % b = 0
  | [], _ => by simp
  | x :: xs, h => by
    rw [List.sum_cons]
    exact mult_add (h x (by simp)) (mult_sum fun y hy => h y (List.mem_cons_of_mem _ hy))
theorem mult_getD {b : Int} {xs : List Int} (h : ∀ x ∈ xs, x % b = 0) (i : Nat) : xs.getD i 0 % b = 0 := by
  rw [List.getD]
  cases hx : xs[i]? with
  | none => simp
  | some x => exact h x (List.mem_of_getElem? hx)
theorem cands_mult {b : Int} (hb : 2 ≤ b) : ∀ {xs : List Int}, (∀ x ∈ xs, x % b = 0) → cands b xs = [xs]
  | [], _ => rfl
  | x :: xs, h => by
    have hx := h x (by simp)
    rw [cands, cands_mult hb (fun y hy => h y (List.mem_cons_of_mem _ hy)), low_mult hx, high_mult hb hx]
    simp
def MultS (b : Int) (s : S4) : Prop := s.a % b = 0 ∧ s.b % b = 0 ∧ s.c % b = 0 ∧ s.d % b = 0
theorem mult_plus {b : Int} {s : S4} {xs : List Int} (h : MultS b s) (hx : ∀ x ∈ xs, x % b = 0) : MultS b (plusS s xs) :=
  ⟨mult_add h.1 (mult_getD hx 0), mult_add h.2.1 (mult_getD hx 1), mult_add h.2.2.1 (mult_getD hx 2), mult_add h.2.2.2 (mult_getD hx 3)⟩
theorem mult_added {b : Int} {cs : List (List Int)} (h : Mult b cs) : MultS b (addedS cs) := by
  unfold addedS
  have : ∀ (l : List (List Int)) (s : S4), (∀ r ∈ l, ∀ x ∈ r, x % b = 0) → MultS b s → MultS b (l.foldl plusS s) := by
    intro l
    induction l with
    | nil => intro s _ h; exact h
    | cons r l ih => intro s hl hs; rw [List.foldl_cons]; exact ih _ (fun r' hr' => hl r' (List.mem_cons_of_mem _ hr')) (mult_plus hs (hl r (by simp)))
  exact this cs _ h ⟨by simp, by simp, by simp, by simp⟩
theorem mult_comp {b : Int} {s : S4} (h : MultS b s) (i : Nat) : comp s i % b = 0 := by
  obtain ⟨h1, h2, h3, h4⟩ := h
  match i with
  | 0 => exact h1
  | 1 => exact h2
  | 2 => exact h3
  | i + 3 => exact h4
theorem cost_self (xs : List Int) : rowCost xs xs = 0 := by
  unfold rowCost
  have : ∀ k, costTo xs xs k = 0 := by
    intro k
    induction k with
    | zero => rfl
    | succ k ih => rw [costTo_succ, ih]; simp [awayOf]
  exact this _
theorem spec_exact {b : Int} {cs : List (List Int)} (hb : 2 ≤ b) (h : Mult b cs) : ∀ k, k ≤ cs.length →
    (spec b cs [] k (addedS (cs.take (cs.length - k)))).ways = 1 ∧ (spec b cs [] k (addedS (cs.take (cs.length - k)))).change = 0 ∧ (0 < k → (spec b cs [] k (addedS (cs.take (cs.length - k)))).first = rowAt cs k)
  | 0, _ => by
    have hm := mult_added h
    rw [Nat.sub_zero, List.take_length]
    have hc : closesB b cs (addedS cs) = true := by
      unfold closesB closesTo
      rw [Bool.and_eq_true]
      refine ⟨List.all_eq_true.2 fun i _ => near_self (mult_comp hm i), near_self ?_⟩
      unfold sumS
      exact mult_sum fun x hx => by
        simp only [List.mem_cons, List.not_mem_nil, or_false] at hx
        rcases hx with rfl | rfl | rfl | rfl
        · exact hm.1
        · exact hm.2.1
        · exact hm.2.2.1
        · exact hm.2.2.2
    unfold spec
    rw [if_pos hc]
    exact ⟨rfl, rfl, fun h => absurd h (Nat.lt_irrefl 0)⟩
  | k + 1, hk => by
    obtain ⟨i1, i2, _⟩ := spec_exact hb h k (by omega)
    have hr := rowAt_get (cs := cs) (k := k) hk
    have hrow : ∀ x ∈ rowAt cs (k + 1), x % b = 0 := h _ (List.mem_of_getElem? hr)
    have ho : outsAt b cs [] (k + 1) = [rowAt cs (k + 1)] := by
      unfold outsAt outs
      rw [cands_mult hb hrow]
      have ht : testB b (rowAt cs (k + 1)) [] ((cs.length - (k + 1) : Nat) : Int) (rowAt cs (k + 1)) = true := by
        unfold testB
        rw [near_self (mult_sum hrow)]
        rfl
      simp [ht]
    have hadd : plusS (addedS (cs.take (cs.length - (k + 1)))) (rowAt cs (k + 1)) = addedS (cs.take (cs.length - k)) := by
      obtain ⟨hlt, e⟩ := List.getElem?_eq_some_iff.1 hr
      rw [show cs.length - k = cs.length - (k + 1) + 1 by omega, added_succ _ _ hlt, e]
    have hs : spec b cs [] (k + 1) (addedS (cs.take (cs.length - (k + 1)))) = ⟨1, 0, rowAt cs (k + 1)⟩ := by
      rw [spec, ho, List.foldl_cons, List.foldl_nil, hadd]
      unfold stepR
      rw [i1, i2, cost_self]
      simp
    rw [hs]
    exact ⟨rfl, rfl, fun _ => rfl⟩
theorem sAt_exact {b : Int} {cs : List (List Int)} (hb : 2 ≤ b) (h : Mult b cs) : ∀ j, j ≤ cs.length → sAt b cs [] j = addedS (cs.take j)
  | 0, _ => rfl
  | j + 1, hj => by
    have ih := sAt_exact hb h j (by omega)
    have hx := spec_exact hb h (cs.length - j) (by omega)
    rw [show cs.length - (cs.length - j) = j by omega] at hx
    have hr := rowAt_get (cs := cs) (k := cs.length - j - 1) (by omega)
    rw [show cs.length - (cs.length - j - 1 + 1) = j by omega, show cs.length - j - 1 + 1 = cs.length - j by omega] at hr
    obtain ⟨hlt, e⟩ := List.getElem?_eq_some_iff.1 hr
    show plusS (sAt b cs [] j) (spec b cs [] (cs.length - j) (sAt b cs [] j)).first = _
    rw [ih, hx.2.2 (by omega), added_succ _ _ hlt, e]
theorem best_exact {b : Int} {cs : List (List Int)} (hb : 2 ≤ b) (h : Mult b cs) : bestOf b cs [] cs.length zeroS = cs := by
  refine List.ext_getElem? fun j => ?_
  by_cases hj : j < cs.length
  · have hg := bestOf_get (b := b) (cs := cs) (fs := []) j 0 cs.length (by omega) hj
    simp only [Nat.zero_add] at hg
    have e0 : sAt b cs [] 0 = zeroS := rfl
    rw [e0, sAt_exact hb h j (by omega)] at hg
    have hx := spec_exact hb h (cs.length - j) (by omega)
    rw [show cs.length - (cs.length - j) = j by omega] at hx
    rw [hx.2.2 (by omega)] at hg
    have hr := rowAt_get (cs := cs) (k := cs.length - j - 1) (by omega)
    rw [show cs.length - (cs.length - j - 1 + 1) = j by omega, show cs.length - j - 1 + 1 = cs.length - j by omega] at hr
    rw [hg, hr]
  · rw [List.getElem?_eq_none (by rw [bestOf_len]; omega), List.getElem?_eq_none (by omega)]
theorem ways_exact {b : Int} {cs : List (List Int)} (hb : 2 ≤ b) (h : Mult b cs) : (spec b cs [] cs.length zeroS).ways = 1 ∧ (spec b cs [] cs.length zeroS).change = 0 := by
  have hx := spec_exact hb h cs.length (Nat.le_refl _)
  rw [Nat.sub_self, List.take_zero] at hx
  exact ⟨hx.1, hx.2.1⟩
/-- the table whose cells are replaced by multiples -/
def multOf (b : Int) (cs : List (List Int)) : List (List Int) := cs.map fun r => r.map fun x => x - x % b
theorem mult_of (b : Int) (cs : List (List Int)) : Mult b (multOf b cs) := by
  intro r hr x hx
  obtain ⟨r0, _, rfl⟩ := List.mem_map.1 hr
  obtain ⟨x0, _, rfl⟩ := List.mem_map.1 hx
  rw [Int.sub_emod, Int.emod_emod, Int.sub_self]; rfl
theorem chk_exact {b : Int} {cs : List (List Int)} {fs : List Fx} (h : chkE b cs fs = 0) : chkE b (multOf b cs) [] = 0 := by
  have ok := chk_ok h
  have hlen : (multOf b cs).length = cs.length := by simp [multOf]
  have hcols : colsOf (multOf b cs) = colsOf cs := by
    cases cs with
    | nil => rfl
    | cons r cs => simp [multOf, colsOf]
  have hrow : ∀ r ∈ multOf b cs, r.length = colsOf cs ∧ ∀ x ∈ r, 0 ≤ x ∧ x ≤ 10000 := by
    intro r hr
    obtain ⟨r0, h0, rfl⟩ := List.mem_map.1 hr
    refine ⟨by rw [List.length_map]; exact ok.okc.row r0 h0, fun x hx => ?_⟩
    obtain ⟨x0, hx0, rfl⟩ := List.mem_map.1 hx
    have hc := ok.okc.cell r0 h0 x0 hx0
    have h1 := Int.emod_nonneg x0 (show b ≠ 0 by have := ok.okc.b1; omega)
    have h2 := Int.mul_ediv_add_emod x0 b
    have h3 := Int.mul_nonneg (show 0 ≤ b by have := ok.okc.b1; omega) (Int.ediv_nonneg hc.1 (show 0 ≤ b by have := ok.okc.b1; omega))
    omega
  refine chk_fine ⟨by rw [hlen]; exact ok.okc.n2, by simp, fun xs hx => by rw [(hrow xs hx).1]; exact ok.okc.c2⟩ (by have := ok.okc.b1; have := ok.okc.b2; simp [withinB]; omega) (by rw [hcols]; have := ok.okc.c1; omega) (fun xs hx => ?_) (fun f hf => by simp at hf)
  unfold rowB
  rw [Bool.and_eq_true]
  refine ⟨by rw [(hrow xs hx).1, hcols]; simp, List.all_eq_true.2 fun x hx' => ?_⟩
  have := (hrow xs hx).2 x hx'
  simp [withinB]; omega
end Go.Proofs.Ytgoianldiomdoaa
/- All roundings of a table, in order; what the search finds is the first best of them. -/
namespace Go.Proofs.Ytgoianldiomdoaa

/-- x is the first of the smallest -/
def Best {α : Type} (R : List α) (c : α → Int) (x : α) : Prop := ∃ P Q, R = P ++ x :: Q ∧ (∀ y ∈ P, c x < c y) ∧ (∀ y ∈ Q, c x ≤ c y)
section
variable {α β : Type} {R S : List α} {c : α → Int} {x y : α}
theorem Best.mem (h : Best R c x) : x ∈ R := by
  obtain ⟨P, Q, rfl, _, _⟩ := h
  simp
theorem Best.le (h : Best R c x) (hy : y ∈ R) : c x ≤ c y := by
  obtain ⟨P, Q, rfl, hp, hq⟩ := h
  rcases List.mem_append.1 hy with hy | hy
  · exact Int.le_of_lt (hp y hy)
  · rcases List.mem_cons.1 hy with rfl | hy
    · exact Int.le_refl _
    · exact hq y hy
theorem Best.left (h : Best R c x) (hs : ∀ y ∈ S, c x ≤ c y) : Best (R ++ S) c x := by
  obtain ⟨P, Q, rfl, hp, hq⟩ := h
  refine ⟨P, Q ++ S, by simp, hp, fun y hy => ?_⟩
  rcases List.mem_append.1 hy with hy | hy
  · exact hq y hy
  · exact hs y hy
theorem Best.right (h : Best S c x) (hs : ∀ y ∈ R, c x < c y) : Best (R ++ S) c x := by
  obtain ⟨P, Q, rfl, hp, hq⟩ := h
  refine ⟨R ++ P, Q, by simp, fun y hy => ?_, hq⟩
  rcases List.mem_append.1 hy with hy | hy
  · exact hs y hy
  · exact hp y hy
theorem Best.map (h : Best R c x) (f : α → β) (c' : β → Int) (d : Int) (hf : ∀ y, c' (f y) = c y + d) : Best (R.map f) c' (f x) := by
  obtain ⟨P, Q, rfl, hp, hq⟩ := h
  refine ⟨P.map f, Q.map f, by simp, fun y hy => ?_, fun y hy => ?_⟩
  · obtain ⟨z, hz, rfl⟩ := List.mem_map.1 hy
    have := hp z hz
    rw [hf, hf]; omega
  · obtain ⟨z, hz, rfl⟩ := List.mem_map.1 hy
    have := hq z hz
    rw [hf, hf]; omega
/-- the first best one among those that come in order -/
theorem Best.after {r : α → α → Prop} (h : Best R c x) (hp : R.Pairwise r) (hy : y ∈ R) (hc : c y ≤ c x) : y = x ∨ r x y := by
  obtain ⟨P, Q, rfl, h1, h2⟩ := h
  rcases List.mem_append.1 hy with hy | hy
  · have := h1 y hy; omega
  · rcases List.mem_cons.1 hy with rfl | hy
    · exact .inl rfl
    · exact .inr ((List.pairwise_cons.1 (List.pairwise_append.1 hp).2.1).1 y hy)
theorem Best.unique (h : Best R c x) (k : Best R c y) : x = y := by
  obtain ⟨P, Q, e, h1, h2⟩ := h
  obtain ⟨P', Q', e', k1, k2⟩ := k
  have g1 : R[P.length]? = some x := by rw [e]; simp
  have g2 : R[P'.length]? = some y := by rw [e']; simp
  rcases Nat.lt_trichotomy P.length P'.length with hl | hl | hl
  · have : x ∈ P' := by
      rw [e', List.getElem?_append_left hl] at g1
      exact List.mem_of_getElem? g1
    have := k1 x this
    have hq : y ∈ Q := by
      rw [e, List.getElem?_append_right (by omega)] at g2
      obtain ⟨m, hm⟩ : ∃ m, P'.length - P.length = m + 1 := ⟨P'.length - P.length - 1, by omega⟩
      rw [hm, List.getElem?_cons_succ] at g2
      exact List.mem_of_getElem? g2
    have := h2 y hq
    omega
  · rw [hl] at g1; rw [g1] at g2; exact Option.some.inj g2
  · have : y ∈ P := by
      rw [e, List.getElem?_append_left hl] at g2
      exact List.mem_of_getElem? g2
    have := h1 y this
    have hq : x ∈ Q' := by
      rw [e', List.getElem?_append_right (by omega)] at g1
      obtain ⟨m, hm⟩ : ∃ m, P.length - P'.length = m + 1 := ⟨P.length - P'.length - 1, by omega⟩
      rw [hm, List.getElem?_cons_succ] at g1
      exact List.mem_of_getElem? g1
    have := k2 x hq
    omega
end

/-- all roundings from a spot on -/
def rnds (b : Int) (cs : List (List Int)) (fs : List Fx) : Nat → S4 → List (List (List Int))
  | 0, s => if closesB b cs s then [[]] else []
  | k + 1, s => (outsAt b cs fs (k + 1)).flatMap fun l => (rnds b cs fs k (plusS s l)).map (l :: ·)
def costK (cs : List (List Int)) : Nat → List (List Int) → Int
  | k + 1, l :: ls => costK cs k ls + rowCost l (rowAt cs (k + 1))
  | _, _ => 0

def Inv (c' : List (List Int) → Int) (bst : List Int → List (List Int)) (acc : Rst) (R : List (List (List Int))) : Prop :=
  acc.ways = R.length ∧ (R ≠ [] → Best R c' (acc.first :: bst acc.first) ∧ acc.change = c' (acc.first :: bst acc.first))
theorem fold_rnds (cells : List Int) (g : List Int → Rst) (S : List Int → List (List (List Int))) (bst : List Int → List (List Int)) (c c' : List (List Int) → Int)
    (hg : ∀ l, (g l).ways = (S l).length ∧ (S l ≠ [] → Best (S l) c (bst l) ∧ (g l).change = c (bst l)))
    (hc : ∀ l y, c' (l :: y) = c y + rowCost l cells) :
    ∀ (L : List (List Int)) (acc : Rst) (R : List (List (List Int))), Inv c' bst acc R → Inv c' bst (L.foldl (fun acc l => stepR cells (g l) acc l) acc) (R ++ L.flatMap fun l => (S l).map (l :: ·))
  | [], acc, R, h => by simpa using h
  | l :: L, acc, R, h => by
    rw [List.foldl_cons, List.flatMap_cons, ← List.append_assoc]
    refine fold_rnds cells g S bst c c' hg hc L _ _ ?_
    obtain ⟨h1, h2⟩ := h
    obtain ⟨g1, g2⟩ := hg l
    unfold stepR
    by_cases hS : S l = []
    · have : (g l).ways = 0 := by rw [g1, hS]; rfl
      rw [if_pos (by simpa using this), hS]
      simpa [Inv] using ⟨h1, h2⟩
    · have hp : 0 < (S l).length := List.length_pos_iff.2 hS
      have hw : ¬ ((g l).ways == 0) = true := by simp; omega
      obtain ⟨b1, b2⟩ := g2 hS
      have b3 := b1.map (l :: ·) c' (rowCost l cells) (fun y => hc l y)
      rw [if_neg hw]
      have hlen : acc.ways + (g l).ways = ((R ++ (S l).map (l :: ·)).length : Nat) := by rw [h1, g1]; simp
      by_cases hR : R = []
      · have : acc.ways = 0 := by rw [h1, hR]; rfl
        rw [if_pos (by simp [this])]
        refine ⟨hlen, fun _ => ?_⟩
        subst hR
        rw [List.nil_append]
        exact ⟨b3, by show (g l).change + rowCost l cells = _; rw [hc, b2]⟩
      · have hRp : 0 < R.length := List.length_pos_iff.2 hR
        obtain ⟨a1, a2⟩ := h2 hR
        by_cases hlt : (g l).change + rowCost l cells < acc.change
        · rw [if_pos (by simp [hlt])]
          refine ⟨hlen, fun _ => ⟨b3.right fun y hy => ?_, by show (g l).change + rowCost l cells = _; rw [hc, b2]⟩⟩
          have := a1.le hy
          show c' (l :: bst l) < c' y
          rw [hc, ← b2]; omega
        · rw [if_neg (by simp; omega)]
          refine ⟨hlen, fun _ => ⟨a1.left fun y hy => ?_, a2⟩⟩
          have := b3.le hy
          have e : c' (l :: bst l) = c (bst l) + rowCost l cells := hc l _
          show c' (acc.first :: bst acc.first) ≤ c' y
          omega

/-- what the search knows of a spot -/
theorem spec_rnds (b : Int) (cs : List (List Int)) (fs : List Fx) : ∀ (k : Nat) (s : S4), (spec b cs fs k s).ways = (rnds b cs fs k s).length ∧
    (rnds b cs fs k s ≠ [] → Best (rnds b cs fs k s) (costK cs k) (bestOf b cs fs k s) ∧ (spec b cs fs k s).change = costK cs k (bestOf b cs fs k s))
  | 0, s => by
    unfold spec rnds
    by_cases h : closesB b cs s = true
    · rw [if_pos h, if_pos h]
      exact ⟨rfl, fun _ => ⟨⟨[], [], rfl, by simp, by simp⟩, rfl⟩⟩
    · rw [if_neg h, if_neg h]
      exact ⟨rfl, fun h => absurd rfl h⟩
  | k + 1, s => by
    have := fold_rnds (rowAt cs (k + 1)) (fun l => spec b cs fs k (plusS s l)) (fun l => rnds b cs fs k (plusS s l)) (fun l => bestOf b cs fs k (plusS s l)) (costK cs k) (costK cs (k + 1))
      (fun l => spec_rnds b cs fs k (plusS s l)) (fun l y => rfl) (outsAt b cs fs (k + 1)) ⟨0, 0, []⟩ [] ⟨rfl, fun h => absurd rfl h⟩
    rw [List.nil_append] at this
    exact this

theorem cands_mem {b : Int} : ∀ {xs l : List Int}, l ∈ cands b xs ↔ l.length = xs.length ∧ ∀ (i : Nat) (x y : Int), xs[i]? = some x → l[i]? = some y → nearB b y x = true
  | [], l => by
    simp only [cands, List.mem_singleton]
    exact ⟨fun h => by subst h; exact ⟨rfl, (fun i x y hx _ => by simp at hx)⟩, fun h => List.eq_nil_of_length_eq_zero h.1⟩
  | n :: ns, l => by
    have ih := fun l' => cands_mem (b := b) (xs := ns) (l := l')
    simp only [cands, List.mem_append, List.mem_map]
    constructor
    · intro h
      have : ∃ v l', (v = lowOf b n ∨ v = highOf b n) ∧ l' ∈ cands b ns ∧ v :: l' = l := by
        rcases h with ⟨l', h', rfl⟩ | h
        · exact ⟨_, l', .inl rfl, h', rfl⟩
        · split at h
          · cases h
          · obtain ⟨l', h', rfl⟩ := List.mem_map.1 h
            exact ⟨_, l', .inr rfl, h', rfl⟩
      obtain ⟨v, l', hv, hl, rfl⟩ := this
      obtain ⟨h1, h2⟩ := (ih l').1 hl
      refine ⟨by simp [h1], fun i x y hx hy => ?_⟩
      cases i with
      | zero =>
        simp at hx hy
        subst hx hy
        unfold nearB
        rcases hv with rfl | rfl <;> simp
      | succ i => exact h2 i x y (by simpa using hx) (by simpa using hy)
    · rintro ⟨h1, h2⟩
      cases l with
      | nil => simp at h1
      | cons v l' =>
        have hl : l' ∈ cands b ns := (ih l').2 ⟨by simpa using h1, fun i x y hx hy => h2 (i + 1) x y (by simpa using hx) (by simpa using hy)⟩
        have hv := h2 0 n v rfl rfl
        unfold nearB at hv
        simp only [Bool.or_eq_true, beq_iff_eq] at hv
        by_cases he : lowOf b n = v
        · exact .inl ⟨l', hl, by rw [he]⟩
        · have he2 : highOf b n = v := hv.resolve_left he
          refine .inr ?_
          rw [if_neg (by rw [he2]; simpa using he)]
          exact List.mem_map.2 ⟨l', hl, by rw [he2]⟩
theorem outs_iff {b : Int} {cells : List Int} {fs : List Fx} {row : Int} {l : List Int} : l ∈ outs b cells fs row [] cells ↔ l ∈ cands b cells ∧ testB b cells fs row l = true := by
  unfold outs
  rw [List.mem_filter]
  simp
theorem rnds_mem {b : Int} {cs : List (List Int)} {fs : List Fx} : ∀ {k : Nat} {s : S4} {x : List (List Int)}, x ∈ rnds b cs fs k s ↔ x.length = k ∧ (∀ (i : Nat) (l : List Int), x[i]? = some l → l ∈ outsAt b cs fs (k - i)) ∧ closesB b cs (x.foldl plusS s) = true
  | 0, s, x => by
    unfold rnds
    by_cases h : closesB b cs s = true
    · rw [if_pos h, List.mem_singleton]
      exact ⟨fun e => by subst e; exact ⟨rfl, (fun i l hl => by simp at hl), h⟩, fun e => List.eq_nil_of_length_eq_zero e.1⟩
    · rw [if_neg h]
      refine ⟨(fun e => by cases e), fun e => ?_⟩
      have := List.eq_nil_of_length_eq_zero e.1
      subst this
      exact absurd e.2.2 h
  | k + 1, s, x => by
    unfold rnds
    simp only [List.mem_flatMap, List.mem_map]
    constructor
    · rintro ⟨l, hl, y, hy, rfl⟩
      obtain ⟨h1, h2, h3⟩ := rnds_mem.1 hy
      refine ⟨by simp [h1], fun i l' hl' => ?_, h3⟩
      cases i with
      | zero => simp at hl'; subst hl'; exact hl
      | succ i =>
        have := h2 i l' (by simpa using hl')
        rwa [show k + 1 - (i + 1) = k - i by omega]
    · rintro ⟨h1, h2, h3⟩
      cases x with
      | nil => simp at h1
      | cons l y =>
        refine ⟨l, h2 0 l rfl, y, rnds_mem.2 ⟨by simpa using h1, fun i l' hl' => ?_, h3⟩, rfl⟩
        have := h2 (i + 1) l' (by simpa using hl')
        rwa [show k + 1 - (i + 1) = k - i by omega] at this

/-- a table of numbers is a rounding -/
structure IsR (b : Int) (cs : List (List Int)) (fs : List Fx) (x : List (List Int)) : Prop where
  len : x.length = cs.length
  row : ∀ (i : Nat) (cells l : List Int), cs[i]? = some cells → x[i]? = some l → l ∈ cands b cells ∧ testB b cells fs i l = true
  close : closesB b cs (addedS x) = true
theorem outsAt_at {b : Int} {cs : List (List Int)} {fs : List Fx} {i : Nat} {cells l : List Int} (hc : cs[i]? = some cells) : l ∈ outsAt b cs fs (cs.length - i) ↔ l ∈ cands b cells ∧ testB b cells fs i l = true := by
  have hi := (List.getElem?_eq_some_iff.1 hc).1
  unfold outsAt rowAt
  rw [show cs.length - (cs.length - i) = i by omega, List.getD, hc]
  exact outs_iff
theorem rnds_isR {b : Int} {cs : List (List Int)} {fs : List Fx} {x : List (List Int)} : x ∈ rnds b cs fs cs.length zeroS ↔ IsR b cs fs x := by
  rw [rnds_mem]
  constructor
  · rintro ⟨h1, h2, h3⟩
    exact ⟨h1, fun i cells l hc hl => (outsAt_at hc).1 (h2 i l hl), h3⟩
  · rintro ⟨h1, h2, h3⟩
    refine ⟨h1, fun i l hl => ?_, h3⟩
    have hi := (List.getElem?_eq_some_iff.1 hl).1
    have hc := List.getElem?_eq_getElem (l := cs) (i := i) (by omega)
    exact (outsAt_at hc).2 (h2 i _ l hc hl)
theorem costK_sum {cs : List (List Int)} : ∀ {k : Nat} {x : List (List Int)}, x.length = k → k ≤ cs.length → costK cs k x = ((List.range k).map fun i => rowCost (x.getD i []) (cs.getD (cs.length - k + i) [])).sum
  | 0, x, _, _ => by cases x <;> rfl
  | k + 1, [], h, _ => by simp at h
  | k + 1, l :: ls, h, hk => by
    rw [costK, costK_sum (k := k) (by simpa using h) (by omega), List.range_succ_eq_map, List.map_cons, List.sum_cons, List.map_map, Int.add_comm]
    congr 1
    congr 1
    apply List.map_congr_left
    intro i _
    show _ = rowCost ((l :: ls).getD (i + 1) []) (cs.getD (cs.length - (k + 1) + (i + 1)) [])
    rw [show cs.length - (k + 1) + (i + 1) = cs.length - k + i by omega, List.getD_cons_succ]
theorem costK_change {cs x : List (List Int)} (h : x.length = cs.length) : costK cs cs.length x = changeOf x cs := by
  rw [costK_sum h (Nat.le_refl _)]
  unfold changeOf chgTo
  rw [h]
  congr 1
  apply List.map_congr_left
  intro i _
  rw [show cs.length - cs.length + i = i by omega]

/-- smaller at the first place where they differ -/
def ltL : List Int → List Int → Bool
  | x :: a, y :: b => decide (x < y) || (x == y && ltL a b)
  | _, _ => false
def ltT : List (List Int) → List (List Int) → Bool
  | x :: a, y :: b => ltL x y || (x == y && ltT a b)
  | _, _ => false
theorem ltL_asymm : ∀ {a b : List Int}, ltL a b = true → ltL b a = false
  | [], _, h => by simp [ltL] at h
  | _ :: _, [], h => by simp [ltL] at h
  | x :: a, y :: b, h => by
    simp only [ltL, Bool.or_eq_true, decide_eq_true_eq, Bool.and_eq_true, beq_iff_eq] at h
    simp only [ltL, Bool.or_eq_false_iff, decide_eq_false_iff_not, Bool.and_eq_false_iff]
    rcases h with h | ⟨rfl, h⟩
    · exact ⟨by omega, .inl (by simp; omega)⟩
    · exact ⟨by omega, .inr (ltL_asymm h)⟩
theorem ltL_irrefl : ∀ (a : List Int), ltL a a = false
  | [] => rfl
  | x :: a => by simp [ltL, ltL_irrefl a]
theorem ltT_irrefl : ∀ (a : List (List Int)), ltT a a = false
  | [] => rfl
  | x :: a => by simp [ltT, ltT_irrefl a, ltL_irrefl x]
theorem ltT_asymm : ∀ {a b : List (List Int)}, ltT a b = true → ltT b a = false
  | [], _, h => by simp [ltT] at h
  | _ :: _, [], h => by simp [ltT] at h
  | x :: a, y :: b, h => by
    simp only [ltT, Bool.or_eq_true, Bool.and_eq_true, beq_iff_eq] at h
    simp only [ltT, Bool.or_eq_false_iff, Bool.and_eq_false_iff]
    rcases h with h | ⟨rfl, h⟩
    · refine ⟨ltL_asymm h, .inl ?_⟩
      cases he : (y == x)
      · rfl
      · have := beq_iff_eq.1 he
        subst this
        rw [ltL_irrefl] at h; cases h
    · exact ⟨ltL_irrefl x, .inr (ltT_asymm h)⟩
theorem cands_sorted {b : Int} (hb : 2 ≤ b) : ∀ (xs : List Int), (cands b xs).Pairwise fun a c => ltL a c = true
  | [] => by simp [cands]
  | n :: ns => by
    have ih := cands_sorted hb ns
    simp only [cands]
    refine List.pairwise_append.2 ⟨List.pairwise_map.2 (ih.imp fun h => by simp [ltL, h]), ?_, ?_⟩
    · split
      · exact List.Pairwise.nil
      · exact List.pairwise_map.2 (ih.imp fun h => by simp [ltL, h])
    · intro a ha c hc
      obtain ⟨a', _, rfl⟩ := List.mem_map.1 ha
      split at hc
      · cases hc
      · rename_i hne
        obtain ⟨c', _, rfl⟩ := List.mem_map.1 hc
        have h1 := Int.emod_nonneg n (show b ≠ 0 by omega)
        have h2 := Int.emod_nonneg (n + b - 1) (show b ≠ 0 by omega)
        have h3 := Int.emod_lt_of_pos (n + b - 1) (show 0 < b by omega)
        have h4 : lowOf b n ≠ highOf b n := by simpa using hne
        have h5 : highOf b n = n + b - 1 - (n + b - 1) % b := rfl
        have h6 : lowOf b n = n - n % b := rfl
        have : lowOf b n < highOf b n := by omega
        simp [ltL, this]
theorem outsAt_sorted {b : Int} (hb : 2 ≤ b) (cs : List (List Int)) (fs : List Fx) (k : Nat) : (outsAt b cs fs k).Pairwise fun a c => ltL a c = true := by
  unfold outsAt outs
  refine List.Pairwise.filter _ ?_
  rw [show (([] : List Int) ++ ·) = id from rfl, List.map_id]
  exact cands_sorted hb _
theorem rnds_sorted {b : Int} (hb : 2 ≤ b) (cs : List (List Int)) (fs : List Fx) : ∀ (k : Nat) (s : S4), (rnds b cs fs k s).Pairwise fun a c => ltT a c = true
  | 0, s => by
    unfold rnds
    split <;> simp
  | k + 1, s => by
    unfold rnds
    refine List.pairwise_flatMap.2 ⟨fun l _ => List.pairwise_map.2 ((rnds_sorted hb cs fs k _).imp fun h => by simp [ltT, h]), ?_⟩
    refine (outsAt_sorted hb cs fs (k + 1)).imp fun h x hx y hy => ?_
    obtain ⟨x', _, rfl⟩ := List.mem_map.1 hx
    obtain ⟨y', _, rfl⟩ := List.mem_map.1 hy
    simp [ltT, h]
theorem rnds_nodup {b : Int} (hb : 2 ≤ b) (cs : List (List Int)) (fs : List Fx) (k : Nat) (s : S4) : (rnds b cs fs k s).Nodup :=
  (rnds_sorted hb cs fs k s).imp fun h e => by subst e; rw [ltT_irrefl] at h; cases h
/-- the neighbours by the reference's words -/
def nbrM (b n o : Int) : Bool := n % b == 0 && decide (1 - b ≤ n - o ∧ n - o ≤ b - 1)
theorem near_nbr {b n o : Int} (hb : 2 ≤ b) : nearB b n o = nbrM b n o := by
  have h1 := low_near (x := o) hb
  have h2 := high_near (x := o) hb
  have e1 : lowOf b o = o - o % b := rfl
  have e2 : highOf b o = o + b - 1 - (o + b - 1) % b := rfl
  have m1 := Int.emod_nonneg o (show b ≠ 0 by omega)
  have m2 := Int.emod_lt_of_pos o (show 0 < b by omega)
  have m3 := Int.emod_nonneg (o + b - 1) (show b ≠ 0 by omega)
  have m4 := Int.emod_lt_of_pos (o + b - 1) (show 0 < b by omega)
  rw [Bool.eq_iff_iff]
  unfold nearB nbrM
  simp only [Bool.or_eq_true, beq_iff_eq, Bool.and_eq_true, decide_eq_true_eq]
  constructor
  · rintro (h | h) <;> subst h
    · exact h1
    · exact h2
  · rintro ⟨h3, h4, h5⟩
    by_cases hle : n ≤ o
    · left
      have : (lowOf b o - n) % b = 0 := by rw [Int.sub_emod, h1.1, h3]; rfl
      obtain ⟨q, hq⟩ := Int.dvd_of_emod_eq_zero this
      have : q < 1 := by
        refine Int.lt_of_mul_lt_mul_left (a := b) ?_ (by omega)
        omega
      have : -1 < q := by
        refine Int.lt_of_mul_lt_mul_left (a := b) ?_ (by omega)
        omega
      have : q = 0 := by omega
      subst this
      omega
    · right
      have : (highOf b o - n) % b = 0 := by rw [Int.sub_emod, h2.1, h3]; rfl
      obtain ⟨q, hq⟩ := Int.dvd_of_emod_eq_zero this
      have : q < 1 := by
        refine Int.lt_of_mul_lt_mul_left (a := b) ?_ (by omega)
        omega
      have : -1 < q := by
        refine Int.lt_of_mul_lt_mul_left (a := b) ?_ (by omega)
        omega
      have : q = 0 := by omega
      subst this
      omega
end Go.Proofs.Ytgoianldiomdoaa
/- ProveRounding and Change: what they answer, for every table and all numbers. -/
namespace Go.Proofs.Ytgoianldiomdoaa
open Go.RowKit Go.Shelf

def nearRow (b : Int) (xs ys : List Int) (k : Nat) : Bool := (List.range k).all fun j => nearB b (xs.getD j 0) (ys.getD j 0)
theorem nearRow_succ (b : Int) (xs ys : List Int) (k : Nat) : nearRow b xs ys (k + 1) = (nearRow b xs ys k && nearB b (xs.getD k 0) (ys.getD k 0)) := by
  simp [nearRow, List.range_succ]
theorem nearRow_false {b : Int} {xs ys : List Int} {k m : Nat} (h : k < m) (hk : nearB b (xs.getD k 0) (ys.getD k 0) = false) : nearRow b xs ys m = false := by
  unfold nearRow
  rw [List.all_eq_false]
  exact ⟨k, List.mem_range.2 h, by rw [hk]; simp⟩
def rowPr (b : Int) (cs : List (List Int)) (fs : List Fx) (l : List (List Int)) (i : Nat) : Bool :=
  nearRow b (l.getD i []) (cs.getD i []) (l.getD i []).length && (nearB b (l.getD i []).sum (cs.getD i []).sum && holdsB fs i (l.getD i []))
def rowsPr (b : Int) (cs : List (List Int)) (fs : List Fx) (l : List (List Int)) (k : Nat) : Bool := (List.range k).all fun i => rowPr b cs fs l i
theorem rowsPr_succ (b : Int) (cs : List (List Int)) (fs : List Fx) (l : List (List Int)) (k : Nat) : rowsPr b cs fs l (k + 1) = (rowsPr b cs fs l k && rowPr b cs fs l k) := by
  simp [rowsPr, List.range_succ]
theorem rowsPr_false {b : Int} {cs : List (List Int)} {fs : List Fx} {l : List (List Int)} {k m : Nat} (h : k < m) (hk : rowPr b cs fs l k = false) : rowsPr b cs fs l m = false := by
  unfold rowsPr
  rw [List.all_eq_false]
  exact ⟨k, List.mem_range.2 h, by rw [hk]; simp⟩
def proveB (b : Int) (cs : List (List Int)) (fs : List Fx) (l : List (List Int)) (ch : Int) : Bool :=
  (chkE b cs fs == 0) && (alikeB cs.length (colsOf cs) l && (rowsPr b cs fs l l.length && (closesB b cs (addedS l) && decide (changeOf l cs ≤ ch))))
theorem alike_rows {n m : Nat} {l : List (List Int)} (h : alikeB n m l = true) : l.length = n ∧ ∀ r ∈ l, r.length = m ∧ ∀ x ∈ r, 0 ≤ x ∧ x ≤ 10100 := by
  simp only [alikeB, Bool.and_eq_true, beq_iff_eq] at h
  refine ⟨by omega, fun r hr => ?_⟩
  have := List.all_eq_true.1 h.2 r hr
  simp only [rowB, Bool.and_eq_true, beq_iff_eq] at this
  exact ⟨by omega, fun x hx => by simpa [withinB] using List.all_eq_true.1 this.2 x hx⟩

set_option maxRecDepth 100000 in
set_option maxHeartbeats 4000000 in
theorem prove_any (b : Int) (A : Option Addr) (c : Nat) (cs : List (List Int)) (A2 : Option Addr) (c2 : Nat) (fs : List Fx) (A' : Option Addr) (c' : Nat) (l : List (List Int)) (ch : Int) (w : World) (h : TIn A c cs A2 c2 fs w)
    (hx : IsRows w w.heap.size A' l) (hl : l.length ≤ c') (hm : c' ≤ maxLen) :
    Calls Try.prog 37 #[.agg #[.int .i64 b, .slice A cs.length c, .slice A2 fs.length c2], .slice A' l.length c', .int .i64 ch] w fun e w' => e = .returned (.bool (proveB b cs fs l ch)) ∧ Below w.heap.size w w' := by
  have hB := below_box (w := w) #[.int .i64 b, .slice A cs.length c, .slice A2 fs.length c2] 33
  have hT := Blk.new w 33 #[.int .i64 b, .slice A cs.length c, .slice A2 fs.length c2]
  have K := hid (show ∀ W, Below w.heap.size w W → _ from fun W hW => check_any b A c cs A2 c2 fs W (h.at_ hW).ic (h.at_ hW).ix h.l1 h.m1 h.l2 h.m2 h.k)
  have KA := hid (show ∀ W, Below w.heap.size w W → _ from fun W hW => alike_any (.int .i64 b) (.slice A2 fs.length c2) A c cs A' c' l W (h.at_ hW).ic (hx.at_ hW) hl hm)
  have HB := hid hB
  have HT := hid hT
  have HH := hid h
  have HX := hid hx
  obtain ⟨t0, t1, t2⟩ := hT.c3
  clear h hx hB hT
  by_cases hc : chkE b cs fs ≠ 0
  · have hne : (chkE b cs fs != 0) = true := by simpa using hc
    have HE := hid (show proveB b cs fs l ch = false by unfold proveB; rw [show (chkE b cs fs == 0) = false by simpa using hc]; rfl)
    clear hc
    generalize chkE b cs fs = ce at *
    go_enter Try.func37, Try.ntmps37
    go_wp2_with (go_at_call 41; refine (K.out _ HB.out).mono ?_; rintro e w2 ⟨rfl, hb2⟩)
    go_ret
    exact ⟨ret_bool HE.out.symm, HB.out.trans (hb2.mono HB.out.size)⟩
  have hc0 : chkE b cs fs = 0 := Classical.not_not.1 hc
  have OK := hid (chk_ok hc0)
  have HC0 := hid hc0
  rw [hc0] at K
  clear hc hc0
  cases ha : alikeB cs.length (colsOf cs) l
  · have HE := hid (show proveB b cs fs l ch = false by unfold proveB; rw [ha]; simp)
    rw [ha] at KA
    clear ha
    go_enter Try.func37, Try.ntmps37
    go_wp2_with fail
    refine (K.out _ HB.out).mono ?_
    rintro e w2 ⟨rfl, hb2⟩
    have HB2 := hid (HB.out.trans (hb2.mono HB.out.size))
    clear t0 t1 t2
    obtain ⟨t0, t1, t2⟩ := (HT.out.keep hb2).c3
    clear hb2
    go_wp2_with fail
    refine (KA.out _ HB2.out).mono ?_
    rintro e w3 ⟨rfl, hb3⟩
    have HB3 := hid (HB2.out.trans (hb3.mono HB2.out.size))
    clear hb3
    go_wp2
    go_ret
    exact ⟨ret_bool HE.out.symm, HB3.out⟩
  have HAL := hid (alike_rows ha)
  have HA0 := hid ha
  rw [ha] at KA
  clear ha
  have hb1 := OK.out.okc.b1
  have hb2 := OK.out.okc.b2
  have hn5 := OK.out.okc.n2
  have hc4 := OK.out.okc.c2
  have hln := HAL.out.1
  have hln1 : l.length ≤ cs.length := by omega
  have HLN := hid hln
  clear hln
  have hm1 := HH.out.m1
  have hl1 := HH.out.l1
  unfold maxLen at hm hm1
  go_enter Try.func37, Try.ntmps37
  go_wp2_with fail
  refine (K.out _ HB.out).mono ?_
  rintro e w2 ⟨rfl, hb2'⟩
  have HB2 := hid (HB.out.trans (hb2'.mono HB.out.size))
  have HT2 := hid (HT.out.keep hb2')
  clear t0 t1 t2 hb2'
  obtain ⟨t0, t1, t2⟩ := HT2.out.c3
  go_wp2_with fail
  refine (KA.out _ HB2.out).mono ?_
  rintro e w3 ⟨rfl, hb3⟩
  have HB3 := hid (HB2.out.trans (hb3.mono HB2.out.size))
  have HT3 := hid (HT2.out.keep hb3)
  clear t0 t1 t2 hb3
  go_wp2
  go_loopw [22] (fun i wr => ∃ k : Nat, k ≤ l.length ∧ i = .int .i64 k ∧ Below w3.heap.size w3 wr ∧ rowsPr b cs fs l k = true) (fun i _ => l.length - (intOf i).toNat)
  case atStart => exact ⟨0, Nat.zero_le _, rfl, Below.refl _ _, rfl⟩
  case round =>
    obtain ⟨k, hk, rfl, hbr, hrp⟩ := hrel
    have HRP := hid hrp
    clear hrp
    by_cases hlt : k < l.length
    · obtain ⟨xs, hxs⟩ : ∃ xs, l[k]? = some xs := ⟨_, List.getElem?_eq_getElem hlt⟩
      obtain ⟨ys, hys⟩ : ∃ ys, cs[k]? = some ys := ⟨_, List.getElem?_eq_getElem (by omega)⟩
      obtain ⟨hxl, hxb⟩ := HAL.out.2 xs (List.mem_of_getElem? hxs)
      have hyl := OK.out.okc.row ys (List.mem_of_getElem? hys)
      have hyb := OK.out.okc.cell ys (List.mem_of_getElem? hys)
      have hgx : l.getD k [] = xs := by rw [List.getD, hxs]; rfl
      have hgy : cs.getD k [] = ys := by rw [List.getD, hys]; rfl
      have HRS := hid (rowsPr_succ b cs fs l k)
      have HRF := hid (fun h => rowsPr_false (b := b) (cs := cs) (fs := fs) (l := l) hlt h)
      have HRW := hid (show rowPr b cs fs l k = (nearRow b xs ys xs.length && (nearB b xs.sum ys.sum && holdsB fs k xs)) by unfold rowPr; rw [hgx, hgy])
      obtain ⟨a', A1', c1', rfl, q1, q2, q3, q4, q5⟩ := (HX.out.at_ (HB3.out.trans (hbr.mono HB3.out.size))) k xs hxs
      have HBR := hid hbr
      have HXY := hid (And.intro hxs hys)
      have HXL := hid hxl
      have HYL := hid hyl
      have HQ5 := hid q5
      clear hgx hgy hxs hys hxl hyl hbr q5
      unfold maxLen at q4
      go_wp2
      clear q2
      go_loopw [29] (fun i W => ∃ j : Nat, j ≤ xs.length ∧ i = .int .i64 j ∧ Below wr.heap.size wr W ∧ nearRow b xs ys j = true) (fun i _ => xs.length - (intOf i).toNat)
      case atStart => exact ⟨0, Nat.zero_le _, rfl, Below.refl _ _, rfl⟩
      case round =>
        obtain ⟨j, hj, rfl, hbj, hnr⟩ := hrel
        have HNR := hid hnr
        clear hnr
        have hbw := HBR.out.trans (hbj.mono HBR.out.size)
        have hbjw := HB3.out.trans (hbw.mono HB3.out.size)
        obtain ⟨a, A1, c1, rfl, p1, p2, p3, p4, p5⟩ := (HH.out.at_ hbjw).ic k ys HXY.out.2
        have hTB := HT3.out.keep hbw
        have hkc : (k : Int) < (cs.length : Int) := by omega
        have HR5 := hid (HQ5.out.at_ hbj)
        unfold maxLen at p4
        obtain ⟨t0, t1, t2⟩ := xt_c3 hTB
        have s1 := xt_cell p2
        by_cases hlj : j < xs.length
        · obtain ⟨x, hx⟩ : ∃ x, xs[j]? = some x := ⟨_, List.getElem?_eq_getElem hlj⟩
          obtain ⟨y, hy⟩ : ∃ y, ys[j]? = some y := ⟨_, List.getElem?_eq_getElem (by have := HXL.out; have := HYL.out; omega)⟩
          have hyy := hyb y (List.mem_of_getElem? hy)
          have hjy : (j : Int) < (ys.length : Int) := by have := HXL.out; have := HYL.out; omega
          have HRS2 := hid (nearRow_succ b xs ys j)
          have HRF2 := hid (fun h => nearRow_false (b := b) (xs := xs) (ys := ys) hlj h)
          have hgx : xs.getD j 0 = x := by rw [List.getD, hx]; rfl
          have hgy : ys.getD j 0 = y := by rw [List.getD, hy]; rfl
          rw [hgx, hgy] at HRS2 HRF2
          obtain ⟨ax, rfl, u1, u2⟩ := HR5.out j x hx
          obtain ⟨ay, rfl, v1, v2⟩ := p5 j y hy
          have s2 := xt_cell v2
          have HBJ := hid (And.intro hbj (And.intro hbw hbjw))
          clear hx hy hgx hgy p2 p5 v2 hTB hbj hbw hbjw
          cases hnb : nearB b x y
          all_goals
            have HN := hid hnb
            clear hnb
            go_wp2
            clear u2
            refine wp_region_quiet_xt (by kernel_rfl) (by kernel_rfl) ?_
            repeat (go_big_quiet_step ((go_at_call 70; exact Calls.xt (near_any b x y _ _ _ hb1 hb2 hyy.1 (by omega)))))
            refine wpQuiet_nil ?_
            intro W2 hw2
            replace hw2 := of_xt hw2
            have HW2 := hid hw2
            clear hw2 s1 s2 t0 t1 t2
            rw [HN.out]
            go_wp2
          · go_ret
            refine ⟨ret_bool ?_, HBJ.out.2.2.trans (HW2.out.mono HBJ.out.2.2.size)⟩
            have := HRF.out (by rw [HRW.out, HRF2.out HN.out]; rfl)
            unfold proveB
            rw [this]; simp
          · go_roundw
            case rel =>
              refine ⟨j + 1, by omega, by go_num, HBJ.out.1.trans (HW2.out.mono HBJ.out.1.size), ?_⟩
              rw [HRS2.out, HNR.out, HN.out]; rfl
            case measure => first | (simp [intOf]; done) | (simp [intOf]; omega)
        · obtain rfl : j = xs.length := by omega
          have HRW2 := hid (show rowPr b cs fs l k = (nearB b xs.sum ys.sum && holdsB fs k xs) by rw [HRW.out, HNR.out]; rfl)
          have hys4 : ys.length ≤ 4 := by have := HYL.out; omega
          have hxs4 : xs.length ≤ 4 := by have := HXL.out; omega
          have T1 := hid (show ∀ q, Calls Try.prog 63 #[.slice A1' xs.length c1'] (xt wr q) fun e w' => e = .returned (.int .i64 xs.sum) ∧ Below (xt wr q).heap.size (xt wr q) w' from
            fun q => Calls.same_below (total_any _ c1' xs _ (HR5.out.at_ (below_xt wr q)) (by omega) (fun x hx => by have := hxb x hx; omega)))
          have T2 := hid (show ∀ q, Calls Try.prog 63 #[.slice A1 ys.length c1] (xt wr q) fun e w' => e = .returned (.int .i64 ys.sum) ∧ Below (xt wr q).heap.size (xt wr q) w' from
            fun q => Calls.same_below (total_any _ c1 ys _ (IsInts.at_ p5 (below_xt wr q)) (by omega) (fun x hx => by have := hyb x hx; omega)))
          have T3 := hid (show ∀ q, Calls Try.prog 71 #[.agg #[.int .i64 b, .slice (some a) cs.length c, .slice A2 fs.length c2], .int .i64 k, .slice A1' xs.length c1'] (xt wr q) fun e w' => e = .returned (.bool (holdsB fs k xs)) ∧ Below (xt wr q).heap.size (xt wr q) w' from
            fun q => holds_any _ _ A2 c2 fs k A1' c1' xs _ ((HH.out.at_ hbjw).ix.at_ (below_xt wr q)) (HR5.out.at_ (below_xt wr q)) (OK.out.n) (by omega) (fun f hf => by have := OK.out.col f hf; rw [HXL.out]; exact this))
          have hsum : 0 ≤ ys.sum ∧ ys.sum ≤ 1000000 := by
            have := sum_bound ys 10000 hyb
            omega
          obtain ⟨z1, z2⟩ := hsum
          have T0 := hid (show ∀ q, Calls Try.prog 70 #[.agg #[.int .i64 b, .slice (some a) cs.length c, .slice A2 fs.length c2], .int .i64 xs.sum, .int .i64 ys.sum] (xt wr q) fun e w' => e = .returned (.bool (nearB b xs.sum ys.sum)) ∧ Below (xt wr q).heap.size (xt wr q) w' from
            fun q => near_any b xs.sum ys.sum _ _ _ hb1 hb2 z1 z2)
          have HBJ := hid (And.intro hbj (And.intro hbw hbjw))
          clear p2 p5 hTB hbj hbw hbjw
          cases hnb : nearB b xs.sum ys.sum
          · have HN := hid hnb
            rw [hnb] at T0
            clear hnb
            go_wp2
            refine wp_region_quiet_xt (by kernel_rfl) (by kernel_rfl) ?_
            repeat (go_big_quiet_step ((first | (go_at_call 70; with_reducible exact Calls.xt (T0.out _)) | (go_at_call 63; with_reducible exact Calls.xt (T1.out _)) | (go_at_call 63; with_reducible exact Calls.xt (T2.out _)))))
            refine wpQuiet_nil ?_
            intro W2 hw2
            replace hw2 := of_xt hw2
            have HW2 := hid hw2
            clear hw2 s1 t0 t1 t2
            go_wp2
            go_ret
            refine ⟨ret_bool ?_, HBJ.out.2.2.trans (HW2.out.mono HBJ.out.2.2.size)⟩
            have := HRF.out (by rw [HRW2.out, HN.out]; rfl)
            unfold proveB
            rw [this]; simp
          · have HN := hid hnb
            rw [hnb] at T0
            clear hnb
            cases hho : holdsB fs k xs
            all_goals
              have HO := hid hho
              rw [hho] at T3
              clear hho
              go_wp2
              refine wp_region_quiet_xt (by kernel_rfl) (by kernel_rfl) ?_
              repeat (go_big_quiet_step ((first | (go_at_call 70; with_reducible exact Calls.xt (T0.out _)) | (go_at_call 63; with_reducible exact Calls.xt (T1.out _)) | (go_at_call 63; with_reducible exact Calls.xt (T2.out _)) | (go_at_call 71; with_reducible exact Calls.xt (T3.out _)))))
              refine wpQuiet_nil ?_
              intro W2 hw2
              replace hw2 := of_xt hw2
              have HW2 := hid hw2
              clear hw2 s1 t0 t1 t2
              go_wp2
            · go_ret
              refine ⟨ret_bool ?_, HBJ.out.2.2.trans (HW2.out.mono HBJ.out.2.2.size)⟩
              have := HRF.out (by rw [HRW2.out, HN.out, HO.out]; rfl)
              unfold proveB
              rw [this]; simp
            · go_roundw
              case rel =>
                refine ⟨k + 1, by omega, by go_num, HBJ.out.2.1.trans (HW2.out.mono HBJ.out.2.1.size), ?_⟩
                rw [HRS.out, HRP.out, HRW2.out, HN.out, HO.out]; rfl
              case measure => first | (simp [intOf]; done) | (simp [intOf]; omega)
    · obtain rfl : k = l.length := by omega
      have hbw := HB3.out.trans (hbr.mono HB3.out.size)
      have hr4 : ∀ r ∈ l, r.length ≤ 4 := fun r hr => by have := (HAL.out.2 r hr).1; omega
      have hr4c : ∀ r ∈ cs, r.length ≤ 4 := fun r hr => by have := OK.out.okc.row r hr; omega
      have hsm := added_small l (fun r hr x hx => (HAL.out.2 r hr).2 x hx) l.length (Nat.le_refl _)
      rw [List.take_length] at hsm
      have T1 := hid (show ∀ q, Calls Try.prog 73 #[.slice A' l.length c'] (xt wr q) fun e w' => e = .returned (.agg #[.int .i64 (addedS l).a, .int .i64 (addedS l).b, .int .i64 (addedS l).c, .int .i64 (addedS l).d]) ∧ Below (xt wr q).heap.size (xt wr q) w' from
        fun q => added_any A' c' l _ ((HX.out.at_ hbw).at_ (below_xt wr q)) (by omega) hr4 (fun r hr x hx => (HAL.out.2 r hr).2 x hx))
      have T2 := hid (show ∀ q, Calls Try.prog 72 #[.agg #[.int .i64 b, .slice A cs.length c, .slice A2 fs.length c2], .agg #[.int .i64 (addedS l).a, .int .i64 (addedS l).b, .int .i64 (addedS l).c, .int .i64 (addedS l).d]] (xt wr q) fun e w' => e = .returned (.bool (closesB b cs (addedS l))) ∧ Below (xt wr q).heap.size (xt wr q) w' from
        fun q => closes_any b A c cs (.slice A2 fs.length c2) (addedS l) _ OK.out.okc ((HH.out.at_ hbw).ic.at_ (below_xt wr q)) (hsm.mono (by have := OK.out.okc.n2; omega)))
      have T3 := hid (show ∀ q, Calls Try.prog 74 #[.agg #[.int .i64 b, .slice A cs.length c, .slice A2 fs.length c2], .slice A' l.length c'] (xt wr q) fun e w' => e = .returned (.int .i64 (changeOf l cs)) ∧ Below (xt wr q).heap.size (xt wr q) w' from
        fun q => change_any _ _ A c cs A' c' l _ ((HH.out.at_ hbw).ic.at_ (below_xt wr q)) ((HX.out.at_ hbw).at_ (below_xt wr q)) (by omega) HLN.out hr4 (fun k => by
          by_cases hk : k < cs.length
          · have e1 : l[k]? = some (l[k]'(by have := HLN.out; omega)) := List.getElem?_eq_getElem _
            have e2 : cs[k]? = some cs[k] := List.getElem?_eq_getElem hk
            rw [List.getD, e1, List.getD, e2]
            have := (HAL.out.2 _ (List.mem_of_getElem? e1)).1
            have := OK.out.okc.row _ (List.mem_of_getElem? e2)
            simp only [Option.getD_some]; omega
          · rw [List.getD, List.getElem?_eq_none (by have := HLN.out; omega), List.getD, List.getElem?_eq_none (by omega)])
          (fun r hr x hx => (HAL.out.2 r hr).2 x hx) (fun r hr x hx => by have := OK.out.okc.cell r hr x hx; omega))
      obtain ⟨t0, t1, t2⟩ := xt_c3 (HT3.out.keep hbr)
      have HBJ := hid (And.intro hbr hbw)
      have HE := hid (show proveB b cs fs l ch = (closesB b cs (addedS l) && decide (changeOf l cs ≤ ch)) by unfold proveB; rw [HC0.out, HA0.out, HRP.out]; rfl)
      clear hbr hbw hsm hr4 hr4c
      generalize changeOf l cs = due at *
      cases hcl : closesB b cs (addedS l)
      all_goals
        have HN := hid hcl
        rw [hcl] at T2
        clear hcl
        go_wp2
        refine wp_region_quiet_xt (by kernel_rfl) (by kernel_rfl) ?_
        repeat (go_big_quiet_step ((first | (go_at_call 73; with_reducible exact Calls.xt (T1.out _)) | (go_at_call 72; with_reducible exact Calls.xt (T2.out _)) | (go_at_call 74; with_reducible exact Calls.xt (T3.out _)))))
        refine wpQuiet_nil ?_
        intro W2 hw2
        replace hw2 := of_xt hw2
        have HW2 := hid hw2
        clear hw2 t0 t1 t2
        go_wp2
        go_ret
        refine ⟨ret_bool ?_, HBJ.out.2.trans (HW2.out.mono HBJ.out.2.size)⟩
        rw [HE.out, HN.out]
        rfl

set_option maxRecDepth 100000 in
set_option maxHeartbeats 1000000 in
/-- Change, exported -/
theorem echange_any (b : Int) (A : Option Addr) (c : Nat) (cs : List (List Int)) (A2 : Option Addr) (c2 : Nat) (fs : List Fx) (A' : Option Addr) (c' : Nat) (l : List (List Int)) (w : World) (h : TIn A c cs A2 c2 fs w)
    (hx : IsRows w w.heap.size A' l) (hl : l.length ≤ c') (hm : c' ≤ maxLen) :
    Calls Try.prog 42 #[.agg #[.int .i64 b, .slice A cs.length c, .slice A2 fs.length c2], .slice A' l.length c'] w fun e w' =>
      e = .returned (if chkE b cs fs ≠ 0 then .tuple #[.int .i64 0, .int .i64 (chkE b cs fs)] else if alikeB cs.length (colsOf cs) l then .tuple #[.int .i64 (changeOf l cs), .int .i64 0] else .tuple #[.int .i64 0, .int .i64 2]) ∧ Below w.heap.size w w' := by
  have hB := below_box (w := w) #[.int .i64 b, .slice A cs.length c, .slice A2 fs.length c2] 33
  have hT := Blk.new w 33 #[.int .i64 b, .slice A cs.length c, .slice A2 fs.length c2]
  have K := hid (show ∀ W, Below w.heap.size w W → _ from fun W hW => check_any b A c cs A2 c2 fs W (h.at_ hW).ic (h.at_ hW).ix h.l1 h.m1 h.l2 h.m2 h.k)
  have KA := hid (show ∀ W, Below w.heap.size w W → _ from fun W hW => alike_any (.int .i64 b) (.slice A2 fs.length c2) A c cs A' c' l W (h.at_ hW).ic (hx.at_ hW) hl hm)
  have HB := hid hB
  have HT := hid hT
  have HH := hid h
  have HX := hid hx
  obtain ⟨t0, t1, t2⟩ := hT.c3
  clear h hx hB hT
  by_cases hc : chkE b cs fs ≠ 0
  · have hne : (chkE b cs fs != 0) = true := by simpa using hc
    rw [if_pos hc]
    clear hc
    generalize chkE b cs fs = ce at *
    go_enter Try.func42, Try.ntmps42
    go_wp2_with (go_at_call 41; refine (K.out _ HB.out).mono ?_; rintro e w2 ⟨rfl, hb2⟩)
    exact bodyPost_ret (v := .tuple #[.int .i64 0, .int .i64 ce]) (by simp [results, Try.results42, go_sem]) rfl ⟨rfl, HB.out.trans (hb2.mono HB.out.size)⟩
  rw [if_neg hc]
  have hc0 : chkE b cs fs = 0 := Classical.not_not.1 hc
  have OK := hid (chk_ok hc0)
  rw [hc0] at K
  clear hc hc0
  cases ha : alikeB cs.length (colsOf cs) l
  · rw [if_neg (by decide)]
    rw [ha] at KA
    clear ha
    go_enter Try.func42, Try.ntmps42
    go_wp2_with fail
    refine (K.out _ HB.out).mono ?_
    rintro e w2 ⟨rfl, hb2⟩
    have HB2 := hid (HB.out.trans (hb2.mono HB.out.size))
    clear t0 t1 t2
    obtain ⟨t0, t1, t2⟩ := (HT.out.keep hb2).c3
    clear hb2
    go_wp2_with fail
    refine (KA.out _ HB2.out).mono ?_
    rintro e w3 ⟨rfl, hb3⟩
    have HB3 := hid (HB2.out.trans (hb3.mono HB2.out.size))
    clear hb3
    go_wp2
    exact bodyPost_ret (v := .tuple #[.int .i64 0, .int .i64 2]) (by simp [results, Try.results42, go_sem]) rfl ⟨rfl, HB3.out⟩
  rw [if_pos rfl]
  have HAL := hid (alike_rows ha)
  have hn5 := OK.out.okc.n2
  have hc4 := OK.out.okc.c2
  have HLN := hid HAL.out.1
  rw [ha] at KA
  clear ha
  have hr4 : ∀ r ∈ l, r.length ≤ 4 := fun r hr => by have := (HAL.out.2 r hr).1; omega
  have KC := hid (show ∀ W, Below w.heap.size w W → _ from fun W hW => change_any (.int .i64 b) (.slice A2 fs.length c2) A c cs A' c' l W (HH.out.at_ hW).ic (HX.out.at_ hW) (by have := HLN.out; omega) HLN.out hr4 (fun k => by
          by_cases hk : k < cs.length
          · have e1 : l[k]? = some (l[k]'(by have := HLN.out; omega)) := List.getElem?_eq_getElem _
            have e2 : cs[k]? = some cs[k] := List.getElem?_eq_getElem hk
            rw [List.getD, e1, List.getD, e2]
            have := (HAL.out.2 _ (List.mem_of_getElem? e1)).1
            have := OK.out.okc.row _ (List.mem_of_getElem? e2)
            simp only [Option.getD_some]; omega
          · rw [List.getD, List.getElem?_eq_none (by have := HLN.out; omega), List.getD, List.getElem?_eq_none (by omega)])
          (fun r hr x hx => (HAL.out.2 r hr).2 x hx) (fun r hr x hx => by have := OK.out.okc.cell r hr x hx; omega))
  clear hr4
  generalize changeOf l cs = due at *
  go_enter Try.func42, Try.ntmps42
  go_wp2_with fail
  refine (K.out _ HB.out).mono ?_
  rintro e w2 ⟨rfl, hb2⟩
  have HB2 := hid (HB.out.trans (hb2.mono HB.out.size))
  have HT2 := hid (HT.out.keep hb2)
  clear t0 t1 t2 hb2
  obtain ⟨t0, t1, t2⟩ := HT2.out.c3
  go_wp2_with fail
  refine (KA.out _ HB2.out).mono ?_
  rintro e w3 ⟨rfl, hb3⟩
  have HB3 := hid (HB2.out.trans (hb3.mono HB2.out.size))
  clear t0 t1 t2
  obtain ⟨t0, t1, t2⟩ := (HT2.out.keep hb3).c3
  clear hb3
  go_wp2_with fail
  refine (KC.out _ HB3.out).mono ?_
  rintro e w4 ⟨rfl, hb4⟩
  have HB4 := hid (HB3.out.trans (hb4.mono HB3.out.size))
  clear t0 t1 t2 hb4
  go_wp2
  exact bodyPost_ret (v := .tuple #[.int .i64 due, .int .i64 0]) (by simp [results, Try.results42, go_sem]) rfl ⟨rfl, HB4.out⟩
end Go.Proofs.Ytgoianldiomdoaa
/- The reference's tests of numbers: rows and columns, fixes, the change. -/
namespace Go.Proofs.Ytgoianldiomdoaa
open Go.RowKit Go.Shelf

def alkTo (m : Nat) (l : List (List Int)) (k : Nat) : Bool := (l.take k).all fun r => decide (r.length = m)
def ralkB (n m : Nat) (l : List (List Int)) : Bool := alkTo m l l.length && decide (l.length = n)
theorem alkTo_succ {m k : Nat} {l : List (List Int)} {x : List Int} (h : l[k]? = some x) : alkTo m l (k + 1) = (alkTo m l k && decide (x.length = m)) := by
  obtain ⟨hk, rfl⟩ := List.getElem?_eq_some_iff.1 h
  unfold alkTo
  rw [List.take_succ_eq_append_getElem hk, List.all_append]; simp
theorem ralk_false {n m k : Nat} {l : List (List Int)} {x : List Int} (h : l[k]? = some x) (hx : x.length ≠ m) : ralkB n m l = false := by
  unfold ralkB alkTo
  rw [List.take_length, Bool.and_eq_false_iff]
  left
  rw [List.all_eq_false]
  exact ⟨x, List.mem_of_getElem? h, by simpa using hx⟩

set_option maxRecDepth 100000 in
set_option maxHeartbeats 4000000 in
theorem ralike_any (b : Value) (A : Option Addr) (c : Nat) (cs : List (List Int)) (A2 : Option Addr) (c2 : Nat) (fs : List Fx) (A' : Option Addr) (c' : Nat) (l : List (List Int)) (w : World) (h : TIn A c cs A2 c2 fs w)
    (hx : IsRows w w.heap.size A' l) (hl : l.length ≤ 1000000) :
    Calls Try.prog 35 #[.agg #[b, .slice A cs.length c, .slice A2 fs.length c2], .slice A' l.length c'] w fun e w' => e = .returned (.bool (ralkB cs.length (colsOf cs) l)) ∧ Below w.heap.size w w' := by
  have hB := below_box (w := w) #[b, .slice A cs.length c, .slice A2 fs.length c2] 25
  have hT := Blk.new w 25 #[b, .slice A cs.length c, .slice A2 fs.length c2]
  have HB := hid hB
  have HT := hid hT
  have HH := hid h
  have HX := hid hx
  have hm1 := h.m1
  have hl1 := h.l1
  unfold maxLen at hm1
  clear h hx hB hT
  go_enter Try.func35, Try.ntmps35
  go_wp2
  go_loopw [5] (fun i wr => ∃ k : Nat, k ≤ l.length ∧ i = .int .i64 k ∧ Below (w.alloc (.cells #[b, .slice A cs.length c, .slice A2 fs.length c2] 25)).heap.size (w.alloc (.cells #[b, .slice A cs.length c, .slice A2 fs.length c2] 25)) wr ∧ alkTo (colsOf cs) l k = true) (fun i _ => l.length - (intOf i).toNat)
  case atStart => exact ⟨0, Nat.zero_le _, rfl, Below.refl _ _, rfl⟩
  case round =>
    obtain ⟨k, hk, rfl, hbr, hal⟩ := hrel
    have HAL := hid hal
    have hbw := HB.out.trans (hbr.mono HB.out.size)
    obtain ⟨t0, t1, t2⟩ := xt_c3 (HT.out.keep hbr)
    clear hal
    by_cases hlt : k < l.length
    · have hkI : (k : Int) < (l.length : Int) := by omega
      obtain ⟨xs, hxs⟩ : ∃ xs, l[k]? = some xs := ⟨_, List.getElem?_eq_getElem hlt⟩
      obtain ⟨a', A1', c1', rfl, q1, q2, q3, q4, q5⟩ := (HX.out.at_ hbw) k xs hxs
      have HS := hid (alkTo_succ (m := colsOf cs) hxs)
      have HF := hid (fun h => ralk_false (n := cs.length) (m := colsOf cs) hxs h)
      have hxl : xs.length ≤ c1' := q3
      unfold maxLen at q4
      have s1 := xt_cell q2
      have T1 := hid (show ∀ q, Calls Try.prog 34 #[.agg #[b, .slice A cs.length c, .slice A2 fs.length c2]] (xt wr q) fun e w' => e = .returned (.int .i64 (colsOf cs)) ∧ Below (xt wr q).heap.size (xt wr q) w' from
        fun q => rcols_any b _ A c cs _ ((HH.out.at_ hbw).ic.at_ (below_xt wr q)))
      have HBJ := hid (And.intro hbr hbw)
      clear q2 q5 hxs hbr hbw
      by_cases he : xs.length = colsOf cs
      · have hd : ((xs.length : Int) != (colsOf cs : Int)) = false := by simp; omega
        have HE := hid he
        have HD := hid hd
        clear he hd
        go_wp2
        refine wp_region_quiet_xt (by kernel_rfl) (by kernel_rfl) ?_
        repeat (go_big_quiet_step ((go_at_call 34; with_reducible exact Calls.xt (T1.out _))))
        refine wpQuiet_nil ?_
        intro W2 hw2
        replace hw2 := of_xt hw2
        have HW2 := hid hw2
        clear hw2 s1 t0 t1 t2
        have hd := HD.out
        simp only [hd]
        clear hd
        go_wp2
        go_roundw
        case rel =>
          refine ⟨k + 1, by omega, by go_num, HBJ.out.1.trans (HW2.out.mono HBJ.out.1.size), ?_⟩
          rw [HS.out, HAL.out, HE.out]; simp
        case measure => first | (simp [intOf]; done) | (simp [intOf]; omega)
      · have hd : ((xs.length : Int) != (colsOf cs : Int)) = true := by simp; omega
        have HE := hid he
        have HD := hid hd
        clear he hd
        go_wp2
        refine wp_region_quiet_xt (by kernel_rfl) (by kernel_rfl) ?_
        repeat (go_big_quiet_step ((go_at_call 34; with_reducible exact Calls.xt (T1.out _))))
        refine wpQuiet_nil ?_
        intro W2 hw2
        replace hw2 := of_xt hw2
        have HW2 := hid hw2
        clear hw2 s1 t0 t1 t2
        have hd := HD.out
        simp only [hd]
        clear hd
        go_wp2
        go_ret
        exact ⟨ret_bool (HF.out HE.out).symm, HBJ.out.2.trans (HW2.out.mono HBJ.out.2.size)⟩
    · have hkI : decide ((k : Int) < (l.length : Int)) = false := by simp; omega
      obtain rfl : k = l.length := by omega
      obtain ⟨t0, t1, t2⟩ := (HT.out.keep hbr).c3
      have HBJ := hid (And.intro hbr hbw)
      have HE := hid (show ralkB cs.length (colsOf cs) l = ((l.length : Int) == (cs.length : Int)) by
        unfold ralkB; rw [HAL.out, Bool.true_and, Bool.eq_iff_iff]; simp; omega)
      clear hbr hbw
      go_wp2
      go_ret
      exact ⟨ret_bool HE.out.symm, HBJ.out.2⟩

def holdF (l : List (List Int)) (f : Fx) : Bool := (l.getD f.row.toNat []).getD f.col.toNat 0 == f.val
def rholdB (fs : List Fx) (l : List (List Int)) : Bool := fs.all (holdF l)
theorem rhold_take {fs : List Fx} {l : List (List Int)} {k : Nat} {f : Fx} (h : fs[k]? = some f) : rholdB (fs.take (k + 1)) l = (rholdB (fs.take k) l && holdF l f) := by
  obtain ⟨hk, rfl⟩ := List.getElem?_eq_some_iff.1 h
  unfold rholdB
  rw [List.take_succ_eq_append_getElem hk, List.all_append]; simp
theorem rhold_false {fs : List Fx} {l : List (List Int)} {k : Nat} {f : Fx} (h : fs[k]? = some f) (hf : holdF l f = false) : rholdB fs l = false := by
  unfold rholdB
  rw [List.all_eq_false]
  exact ⟨f, List.mem_of_getElem? h, by rw [hf]; simp⟩

set_option maxRecDepth 100000 in
set_option maxHeartbeats 4000000 in
theorem rholds_any (b : Value) (A : Option Addr) (c : Nat) (cs : List (List Int)) (A2 : Option Addr) (c2 : Nat) (fs : List Fx) (A' : Option Addr) (c' : Nat) (l : List (List Int)) (w : World) (h : TIn A c cs A2 c2 fs w)
    (hx : IsRows w w.heap.size A' l) (_ : l.length ≤ 1000000) (hfx : ∀ f ∈ fs, 0 ≤ f.row ∧ f.row < l.length ∧ 0 ≤ f.col ∧ ∀ r ∈ l, f.col < r.length) :
    Calls Try.prog 67 #[.agg #[b, .slice A cs.length c, .slice A2 fs.length c2], .slice A' l.length c'] w fun e w' => e = .returned (.bool (rholdB fs l)) ∧ Below w.heap.size w w' := by
  have hB := below_box (w := w) #[b, .slice A cs.length c, .slice A2 fs.length c2] 25
  have hT := Blk.new w 25 #[b, .slice A cs.length c, .slice A2 fs.length c2]
  have HB := hid hB
  have HT := hid hT
  have HH := hid h
  have HX := hid hx
  have HFX := hid hfx
  have hm1 := h.m2
  have hl1 := h.l2
  unfold maxLen at hm1
  clear h hx hB hT hfx
  go_enter Try.func67, Try.ntmps67
  go_wp2
  go_loopw [5] (fun i wr => ∃ k : Nat, k ≤ fs.length ∧ i = .int .i64 k ∧ Below (w.alloc (.cells #[b, .slice A cs.length c, .slice A2 fs.length c2] 25)).heap.size (w.alloc (.cells #[b, .slice A cs.length c, .slice A2 fs.length c2] 25)) wr ∧ rholdB (fs.take k) l = true) (fun i _ => fs.length - (intOf i).toNat)
  case atStart => exact ⟨0, Nat.zero_le _, rfl, Below.refl _ _, rfl⟩
  case round =>
    obtain ⟨k, hk, rfl, hbr, hal⟩ := hrel
    have HAL := hid hal
    have hbw := HB.out.trans (hbr.mono HB.out.size)
    have HTR := hid (HT.out.keep hbr)
    obtain ⟨t0, t1, t2⟩ := HTR.out.c3
    clear hal
    by_cases hlt : k < fs.length
    · have hkI : (k : Int) < (fs.length : Int) := by omega
      obtain ⟨f, hfk⟩ : ∃ f, fs[k]? = some f := ⟨_, List.getElem?_eq_getElem hlt⟩
      obtain ⟨fa, rfl, g1, g2, g3, g4⟩ := (HH.out.at_ hbw).ix k f hfk
      have hf1 := HFX.out f (List.mem_of_getElem? hfk)
      have HS := hid (rhold_take (l := l) hfk)
      have HF := hid (fun h => rhold_false (l := l) hfk h)
      have HBJ := hid (And.intro hbr hbw)
      obtain ⟨fr, fc, fv⟩ := f
      simp only at g2 g3 g4 hf1
      obtain ⟨hf1, hf2, hf3, hf4⟩ := hf1
      obtain ⟨r, rfl⟩ := Int.eq_ofNat_of_zero_le hf1
      obtain ⟨m, rfl⟩ := Int.eq_ofNat_of_zero_le hf3
      obtain ⟨xs, hxs⟩ : ∃ xs, l[r]? = some xs := ⟨_, List.getElem?_eq_getElem (by omega)⟩
      have hmx := hf4 xs (List.mem_of_getElem? hxs)
      obtain ⟨x, hxm⟩ : ∃ x, xs[m]? = some x := ⟨_, List.getElem?_eq_getElem (by omega)⟩
      obtain ⟨a', A1', c1', rfl, q1, q2, q3, q4, q5⟩ := (HX.out.at_ hbw) r xs hxs
      obtain ⟨ax, rfl, u1, u2⟩ := q5 m x hxm
      have HV := hid (show holdF l ⟨(r : Int), (m : Int), fv⟩ = (x == fv) by
        unfold holdF
        have e1 : l.getD (r : Int).toNat [] = xs := by rw [Int.toNat_natCast, List.getD, hxs]; rfl
        show ((l.getD (r : Int).toNat []).getD (m : Int).toNat 0 == fv) = _
        rw [e1, Int.toNat_natCast, List.getD, hxm]; rfl)
      have HQ := hid (show ∀ W, Below wr.heap.size wr W → W.cell? (a'.add r) = some (.slice (some ax) xs.length c1') ∧ W.cell? (ax.add m) = some (.int .i64 x) from
        fun W hW => ⟨(hW.cell (by rw [block_of_add]; exact q1)).trans q2, (hW.cell (by rw [block_of_add]; exact u1)).trans u2⟩)
      unfold maxLen at q4
      clear hf4 q2 q5 u2 hbr hbw hfk hxs hxm
      go_wp2
      refine gen (p := Code.wp _ _ _ _) (fun W => Below wr.heap.size wr W ∧ Blk W wr.heap.size 64 #[.int .i64 r, .int .i64 m, .int .i64 fv]) ⟨(Below.refl _ _).alloc (Nat.le_refl _) _, Blk.new _ _ _⟩ ?_
      rintro W ⟨hbW, hBW⟩
      obtain ⟨e1, e2, e3⟩ := xt_c3 hBW
      have s1 := xt_cell (HQ.out W hbW).1
      have s2 := xt_cell (HQ.out W hbW).2
      have HW := hid (And.intro (HBJ.out.1.trans (hbW.mono HBJ.out.1.size)) (HBJ.out.2.trans (hbW.mono HBJ.out.2.size)))
      clear hbW hBW t0 t1 t2 g2 g3 g4
      cases hne : (x == fv)
      all_goals
        have hne2 : (x != fv) = !(x == fv) := rfl
        rw [hne] at hne2
        have HN := hid hne
        have HN2 := hid hne2
        clear hne hne2
        refine wp_region_quiet_xt (by kernel_rfl) (by kernel_rfl) ?_
        repeat (go_big_quiet_step (fail))
        refine wpQuiet_nil ?_
        intro W3 hw3
        replace hw3 := of_xt hw3
        have HW3 := hid hw3
        clear hw3 s1 s2 e1 e2 e3
        have hd := HN2.out
        simp only [hd]
        clear hd
        go_wp2
      · go_ret
        exact ⟨ret_bool (HF.out (by rw [HV.out, HN.out])).symm, HW.out.2.trans (HW3.out.mono HW.out.2.size)⟩
      · go_roundw
        case rel =>
          refine ⟨k + 1, by omega, by go_num, HW.out.1.trans (HW3.out.mono HW.out.1.size), ?_⟩
          rw [HS.out, HAL.out, HV.out, HN.out]; rfl
        case measure => first | (simp [intOf]; done) | (simp [intOf]; omega)
    · have hkI : decide ((k : Int) < (fs.length : Int)) = false := by simp; omega
      obtain rfl : k = fs.length := by omega
      have HBJ := hid hbw
      clear hbr hbw
      rw [List.take_length] at HAL
      go_wp2
      go_ret
      exact ⟨ret_bool HAL.out.symm, HBJ.out⟩
end Go.Proofs.Ytgoianldiomdoaa
/- The reference's change of numbers. -/
namespace Go.Proofs.Ytgoianldiomdoaa
open Go.RowKit Go.Shelf

set_option maxRecDepth 100000 in
set_option maxHeartbeats 4000000 in
theorem rchange_any (b : Value) (A : Option Addr) (c : Nat) (cs : List (List Int)) (A2 : Option Addr) (c2 : Nat) (fs : List Fx) (A' : Option Addr) (c' : Nat) (l : List (List Int)) (w : World) (h : TIn A c cs A2 c2 fs w)
    (hx : IsRows w w.heap.size A' l) (hn : l.length ≤ 8) (hln : l.length = cs.length) (hl : ∀ r ∈ l, r.length ≤ 4) (hlen : ∀ k, (l.getD k []).length = (cs.getD k []).length)
    (bx : ∀ r ∈ l, ∀ x ∈ r, 0 ≤ x ∧ x ≤ 10100) (bc : ∀ r ∈ cs, ∀ x ∈ r, 0 ≤ x ∧ x ≤ 10100) :
    Calls Try.prog 43 #[.agg #[b, .slice A cs.length c, .slice A2 fs.length c2], .slice A' l.length c'] w fun e w' => e = .returned (.int .i64 (changeOf l cs)) ∧ Below w.heap.size w w' := by
  have hB := below_box (w := w) #[b, .slice A cs.length c, .slice A2 fs.length c2] 25
  have hT := Blk.new w 25 #[b, .slice A cs.length c, .slice A2 fs.length c2]
  have HB := hid hB
  have HT := hid hT
  have HH := hid h
  have HX := hid hx
  have HCB := hid (chgTo_bounds hl bx bc)
  have HS := hid (chgTo_succ l cs)
  have hln1 : l.length ≤ cs.length := by omega
  have HLEN := hid hlen
  have HBX := hid bx
  have HBC := hid bc
  have HL4 := hid hl
  clear h hx hB hT hln hlen bx bc hl
  go_enter Try.func43, Try.ntmps43
  go_wp2
  go_loopw [5, 6] (fun t i wr => ∃ k : Nat, k ≤ l.length ∧ i = .int .i64 k ∧ t = .int .i64 (chgTo l cs k) ∧ Below (w.alloc (.cells #[b, .slice A cs.length c, .slice A2 fs.length c2] 25)).heap.size (w.alloc (.cells #[b, .slice A cs.length c, .slice A2 fs.length c2] 25)) wr) (fun _ i _ => l.length - (intOf i).toNat)
  case atStart => exact ⟨0, Nat.zero_le _, rfl, rfl, Below.refl _ _⟩
  case round =>
    obtain ⟨k, hk, rfl, rfl, hbr⟩ := hrel
    have hbw := HB.out.trans (hbr.mono HB.out.size)
    by_cases hlt : k < l.length
    · have hkI : (k : Int) < (l.length : Int) := by omega
      have hkc : (k : Int) < (cs.length : Int) := by omega
      obtain ⟨xs, hxs⟩ : ∃ xs, l[k]? = some xs := ⟨_, List.getElem?_eq_getElem hlt⟩
      obtain ⟨ys, hys⟩ : ∃ ys, cs[k]? = some ys := ⟨_, List.getElem?_eq_getElem (by omega)⟩
      have hgx : l.getD k [] = xs := by rw [List.getD, hxs]; rfl
      have hgy : cs.getD k [] = ys := by rw [List.getD, hys]; rfl
      have hle := HLEN.out k
      rw [hgx, hgy] at hle
      have hxb := HBX.out xs (List.mem_of_getElem? hxs)
      have hyb := HBC.out ys (List.mem_of_getElem? hys)
      have hx4 := HL4.out xs (List.mem_of_getElem? hxs)
      have hc1 := HCB.out k
      have HSK := hid (show chgTo l cs (k + 1) = chgTo l cs k + rowCost xs ys by rw [HS.out, hgx, hgy])
      have HCK := hid (costTo_bounds (M := 10100) (xs := xs) (ys := ys) (by omega) hxb hyb)
      have HSJ := hid (costTo_succ xs ys)
      have HXY := hid (And.intro hxs hys)
      have HLE := hid hle
      have HXB := hid (And.intro hxb hyb)
      have HBR := hid hbr
      clear hxs hys hgx hgy hle hxb hyb hbr hbw
      go_wp2
      go_loopw [5, 7] (fun t i W => ∃ j : Nat, j ≤ xs.length ∧ i = .int .i64 j ∧ t = .int .i64 (chgTo l cs k + costTo xs ys j) ∧ Below (w.alloc (.cells #[b, .slice A cs.length c, .slice A2 fs.length c2] 25)).heap.size (w.alloc (.cells #[b, .slice A cs.length c, .slice A2 fs.length c2] 25)) W) (fun _ i _ => xs.length - (intOf i).toNat)
      case atStart => exact ⟨0, Nat.zero_le _, rfl, by simp [costTo], HBR.out⟩
      case round =>
        obtain ⟨j, hj, rfl, rfl, hbj⟩ := hrel
        have hbw := HB.out.trans (hbj.mono HB.out.size)
        obtain ⟨a', A1', c1', rfl, q1, q2, q3, q4, q5⟩ := (HX.out.at_ hbw) k xs HXY.out.1
        obtain ⟨a, A1, c1, rfl, p1, p2, p3, p4, p5⟩ := (HH.out.at_ hbw).ic k ys HXY.out.2
        unfold maxLen at p4 q4
        by_cases hlj : j < xs.length
        · have hjI : (j : Int) < (xs.length : Int) := by omega
          have hjy : (j : Int) < (ys.length : Int) := by have := HLE.out; omega
          obtain ⟨x, hx⟩ : ∃ x, xs[j]? = some x := ⟨_, List.getElem?_eq_getElem hlj⟩
          obtain ⟨y, hy⟩ : ∃ y, ys[j]? = some y := ⟨_, List.getElem?_eq_getElem (by have := HLE.out; omega)⟩
          obtain ⟨ax, rfl, u1, u2⟩ := q5 j x hx
          obtain ⟨ay, rfl, v1, v2⟩ := p5 j y hy
          obtain ⟨hx1, hx2⟩ := HXB.out.1 x (List.mem_of_getElem? hx)
          obtain ⟨hy1, hy2⟩ := HXB.out.2 y (List.mem_of_getElem? hy)
          obtain ⟨hb4, hb5⟩ := HCK.out j
          have HST := hid (show costTo xs ys (j + 1) = costTo xs ys j + max (x - y) (y - x) by rw [HSJ.out]; unfold awayOf; rw [List.getD, hx, List.getD, hy]; rfl)
          have HBJ := hid (And.intro hbj hbw)
          obtain ⟨t0, t1, t2⟩ := xt_c3 (HT.out.keep hbj)
          have s1 := xt_cell q2
          have s2 := xt_cell p2
          have s3 := xt_cell u2
          have s4 := xt_cell v2
          clear p2 u2 v2 q5 p5 hx hy hbj hbw
          by_cases hxy : y ≤ x
          all_goals
            go_wp2
            clear q2
            refine wp_region_quiet_xt (by kernel_rfl) (by kernel_rfl) ?_
            repeat (go_big_quiet_step (fail))
            refine wpQuiet_nil ?_
            intro W3 hw3
            replace hw3 := of_xt hw3
            have HW3 := hid hw3
            clear hw3 s1 s2 s3 s4 t0 t1 t2
            go_wp2
            go_roundw
            case rel =>
              refine ⟨j + 1, by omega, by go_num, ?_, HBJ.out.1.trans (HW3.out.mono HBJ.out.1.size)⟩
              have := HST.out
              refine congrArg (Value.int .i64) ?_
              omega
            case measure => first | (simp [intOf]; done) | (simp [intOf]; omega)
        · have hjI : decide ((j : Int) < (xs.length : Int)) = false := by simp; omega
          obtain rfl : j = xs.length := by omega
          have HBJ := hid hbj
          clear q5 p5 hbj hbw p2
          go_wp2
          go_roundw
          case rel => exact ⟨k + 1, by omega, by go_num, congrArg (Value.int .i64) (by rw [HSK.out, rowCost]), HBJ.out⟩
          case measure => first | (simp [intOf]; done) | (simp [intOf]; omega)
    · have hkI : decide ((k : Int) < (l.length : Int)) = false := by simp; omega
      obtain rfl : k = l.length := by omega
      have HBJ := hid hbw
      clear hbr hbw
      go_wp2
      go_ret
      exact ⟨rfl, HBJ.out⟩
end Go.Proofs.Ytgoianldiomdoaa
/- The reference's sums of numbers. -/
namespace Go.Proofs.Ytgoianldiomdoaa
open Go.RowKit Go.Shelf

/-- a block of n numbers -/
def cellsF (n : Nat) (F : Nat → Int) : Array Value := ((List.range n).map fun i => Value.int .i64 (F i)).toArray
theorem cellsF_get {n : Nat} {F : Nat → Int} {i : Nat} (h : i < n) : (cellsF n F)[i]? = some (.int .i64 (F i)) := by
  simp [cellsF, h]
theorem cellsF_set {n k : Nat} {F F' : Nat → Int} {v : Int} (hv : v = F' k) (h : ∀ i, i < n → i ≠ k → F' i = F i) : (cellsF n F).setIfInBounds k (.int .i64 v) = cellsF n F' := by
  apply Array.ext
  · simp [cellsF]
  · intro i h1 h2
    have hi : i < n := by simpa [cellsF] using h2
    rw [Array.getElem_setIfInBounds (by simpa [cellsF] using hi)]
    by_cases hk : k = i
    · subst hk; rw [if_pos rfl]; simp [cellsF, hv]
    · rw [if_neg hk]; simp [cellsF, h i hi (fun e => hk e.symm)]
theorem cellsF_ext {n : Nat} {F F' : Nat → Int} (h : ∀ i, i < n → F' i = F i) : cellsF n F' = cellsF n F := by
  unfold cellsF
  congr 1
  apply List.map_congr_left
  intro i hi
  rw [h i (List.mem_range.1 hi)]
theorem cellsF_zero (n : Nat) : madeCells #[.int .i64 0] n = cellsF n fun _ => 0 := by
  apply Array.ext
  · rw [size_madeCells]; simp [cellsF]
  · intro i h1 h2
    have hi : i < n := by simpa [cellsF] using h2
    simp [cellsF, madeCells, Nat.mod_one]
/-- the sums of rows and columns when row r is done up to c -/
def rowF (l : List (List Int)) (r c : Nat) (i : Nat) : Int := if i < r then (l.getD i []).sum else if i = r then ((l.getD r []).take c).sum else 0
def colTo (l : List (List Int)) (r i : Nat) : Int := ((List.range r).map fun k => (l.getD k []).getD i 0).sum
def colF (l : List (List Int)) (r c : Nat) (i : Nat) : Int := colTo l r i + if i < c then (l.getD r []).getD i 0 else 0
def totTo (l : List (List Int)) (r : Nat) : Int := ((List.range r).map fun k => (l.getD k []).sum).sum

theorem sum_range_bounds {M : Int} {f : Nat → Int} : ∀ {r : Nat}, (∀ k, k < r → 0 ≤ f k ∧ f k ≤ M) → 0 ≤ ((List.range r).map f).sum ∧ ((List.range r).map f).sum ≤ r * M
  | 0, _ => by simp
  | r + 1, h => by
    have ih := sum_range_bounds (r := r) fun k hk => h k (by omega)
    have h1 := h r (by omega)
    rw [List.range_succ, List.map_append, List.sum_append, Int.natCast_add, Int.add_mul]
    simp only [List.map_cons, List.map_nil, List.sum_cons, List.sum_nil, Int.natCast_one, Int.one_mul]
    omega
theorem colTo_succ (l : List (List Int)) (r i : Nat) : colTo l (r + 1) i = colTo l r i + (l.getD r []).getD i 0 := by
  unfold colTo; rw [List.range_succ, List.map_append, List.sum_append]; simp
theorem totTo_succ (l : List (List Int)) (r : Nat) : totTo l (r + 1) = totTo l r + (l.getD r []).sum := by
  unfold totTo; rw [List.range_succ, List.map_append, List.sum_append]; simp
theorem rowF_step {l : List (List Int)} {r c : Nat} {x : Int} (hx : (l.getD r [])[c]? = some x) : rowF l r (c + 1) r = rowF l r c r + x ∧ ∀ i, i ≠ r → rowF l r (c + 1) i = rowF l r c i := by
  obtain ⟨hc, e⟩ := List.getElem?_eq_some_iff.1 hx
  refine ⟨?_, fun i hi => ?_⟩
  · unfold rowF
    rw [if_neg (by omega), if_pos rfl, if_neg (by omega), if_pos rfl, List.take_succ_eq_append_getElem hc, List.sum_append, e]
    simp
  · unfold rowF
    rw [if_neg (c := i = r) hi, if_neg (c := i = r) hi]
theorem colF_step {l : List (List Int)} {r c : Nat} {x : Int} (hx : (l.getD r [])[c]? = some x) : colF l r (c + 1) c = colF l r c c + x ∧ ∀ i, i ≠ c → colF l r (c + 1) i = colF l r c i := by
  refine ⟨?_, fun i hi => ?_⟩
  · unfold colF
    rw [if_pos (by omega), if_neg (by omega), List.getD, hx]; simp
  · unfold colF
    by_cases h : i < c
    · rw [if_pos h, if_pos (by omega)]
    · rw [if_neg h, if_neg (by omega)]
theorem rowF_next {l : List (List Int)} {r m : Nat} (hm : (l.getD r []).length = m) (i : Nat) : rowF l (r + 1) 0 i = rowF l r m i := by
  unfold rowF
  by_cases h1 : i < r
  · rw [if_pos h1, if_pos (by omega)]
  · by_cases h2 : i = r
    · subst h2
      rw [if_pos (by omega), if_neg h1, if_pos rfl, List.take_of_length_le (by omega)]
    · rw [if_neg (c := i < r + 1) (by omega), if_neg h1, if_neg h2]
      split <;> simp
theorem colF_next {l : List (List Int)} {r m i : Nat} (hi : i < m) : colF l (r + 1) 0 i = colF l r m i := by
  unfold colF
  rw [colTo_succ, if_pos hi, if_neg (by omega)]; omega
theorem bounds_at {l : List (List Int)} (bx : ∀ r ∈ l, ∀ x ∈ r, 0 ≤ x ∧ x ≤ 10100) (hm : ∀ r ∈ l, r.length ≤ 4) (k : Nat) : (∀ i, 0 ≤ (l.getD k []).getD i 0 ∧ (l.getD k []).getD i 0 ≤ 10100) ∧ (0 ≤ (l.getD k []).sum ∧ (l.getD k []).sum ≤ 40400) ∧ ∀ c, 0 ≤ ((l.getD k []).take c).sum ∧ ((l.getD k []).take c).sum ≤ 40400 := by
  have h1 : ∀ x ∈ l.getD k [], 0 ≤ x ∧ x ≤ 10100 := fun x hx => by
    rw [List.getD] at hx
    cases hk : l[k]? with
    | none => rw [hk] at hx; simp at hx
    | some r => rw [hk] at hx; exact bx r (List.mem_of_getElem? hk) x hx
  have h2 : (l.getD k []).length ≤ 4 := by
    rw [List.getD]
    cases hk : l[k]? with
    | none => simp
    | some r => exact hm r (List.mem_of_getElem? hk)
  refine ⟨fun i => getD_small (by omega) h1 i, ?_, fun c => ?_⟩
  · have := sum_bound _ 10100 h1; omega
  · have := sum_bound ((l.getD k []).take c) 10100 (fun x hx => h1 x (List.mem_of_mem_take hx))
    have := List.length_take_le c (l.getD k [])
    have : ((l.getD k []).take c).length ≤ 4 := by rw [List.length_take]; omega
    omega
structure SumI (l : List (List Int)) (m g1 g2 r c d : Nat) (w : World) (W : World) : Prop where
  b1 : Blk W g1 3 (cellsF l.length (rowF l r c))
  b2 : Blk W g2 3 (cellsF m (colF l r d))
  ne : g1 ≠ g2
  h1 : w.heap.size ≤ g1
  h2 : w.heap.size ≤ g2
  below : Below w.heap.size w W
def GivesSums (l : List (List Int)) (m : Nat) (w : World) (e : Ending) (w' : World) : Prop :=
  ∃ g1 g2, e = .returned (.tuple #[.slice (some ⟨g1, 0, none⟩) l.length l.length, .slice (some ⟨g2, 0, none⟩) m m, .int .i64 (totTo l l.length)]) ∧ SumI l m g1 g2 l.length 0 0 w w'

set_option maxRecDepth 100000 in
set_option maxHeartbeats 4000000 in
theorem sums_any (A' : Option Addr) (c' : Nat) (l : List (List Int)) (m : Nat) (w : World) (hx : IsRows w w.heap.size A' l) (hl : l.length ≤ 5) (hl1 : 1 ≤ l.length) (hm : ∀ r ∈ l, r.length = m) (hm4 : m ≤ 4)
    (bx : ∀ r ∈ l, ∀ x ∈ r, 0 ≤ x ∧ x ≤ 10100) : Calls Try.prog 68 #[.slice A' l.length c'] w (GivesSums l m w) := by
  obtain ⟨xs0, hx0⟩ : ∃ xs, l[0]? = some xs := ⟨_, List.getElem?_eq_getElem (by omega)⟩
  have hxl0 := hm xs0 (List.mem_of_getElem? hx0)
  obtain ⟨a', A1', c1', rfl, q1, q2, q3, q4, q5⟩ := hx 0 xs0 hx0
  rw [hxl0, add_zero_] at q2
  have HX := hid hx
  have HM := hid hm
  have HBX := hid bx
  have hk1 := run_make_row' (P := Try.prog) 56 3 (.int .i64 0) 8 Try.underlying56 int_info rfl .i64 .i64 l.length (by omega) (by omega)
  have hk2 := run_make_row' (P := Try.prog) 56 3 (.int .i64 0) 8 Try.underlying56 int_info rfl .i64 .i64 m (by omega) (by omega)
  have s1 := fun o => ((below_box (w := w) #[] 0).alloc (by simp) o)
  have hlI : (0 : Int) < (l.length : Int) := by omega
  have hlN : 0 < l.length := by omega
  clear hx hm bx hx0 q5 q3 s1
  go_enter Try.func68, Try.ntmps68
  go_wp2
  have s2 : ∀ o, (w.alloc o).cell? a' = some (.slice A1' m c1') := fun o => (((Below.refl w.heap.size w).alloc (Nat.le_refl _) o).cell q1).trans q2
  go_region
  all_goals clear s2 q2
  · refine gen (p := Exit.then _ _ .normal _) (fun W => SumI l m w.heap.size (w.heap.size + 1) 0 0 0 w W) ?_ ?_
    · have hb : Below w.heap.size w (w.alloc (.cells (madeCells #[.int .i64 0] l.length) 3)) := (Below.refl _ _).alloc (Nat.le_refl _) _
      have k2 := (Blk.new (w.alloc (.cells (madeCells #[.int .i64 0] l.length) 3)) 3 (madeCells #[.int .i64 0] m)).drew
      rw [World.size_alloc] at k2
      have k1 := ((Blk.new w 3 (madeCells #[.int .i64 0] l.length)).alloc (.cells (madeCells #[.int .i64 0] m) 3)).drew
      refine ⟨?_, ?_, by omega, by omega, by omega, ?_⟩
      · rw [cellsF_ext (F := fun _ => 0) (fun i _ => by unfold rowF; rw [if_neg (by omega)]; split <;> simp), ← cellsF_zero]; exact k1
      · rw [cellsF_ext (F := fun _ => 0) (fun i _ => by simp [colF, colTo]), ← cellsF_zero]; exact k2
      · exact (hb.alloc (by simp) _).drew
    intro W hI
    have HI := hid hI
    clear hI
    generalize w.heap.size + 1 = g2 at HI ⊢
    generalize w.heap.size = g1 at HI ⊢
    go_wp2
    clear hk1 hk2 hlI hlN q1 q4
    go_loopw [8, 7] (fun i t wr => ∃ r : Nat, r ≤ l.length ∧ i = .int .i64 r ∧ t = .int .i64 (totTo l r) ∧ SumI l m g1 g2 r 0 0 w wr) (fun i _ _ => l.length - (intOf i).toNat)
    case atStart => exact ⟨0, Nat.zero_le _, rfl, rfl, HI.out⟩
    case round =>
      obtain ⟨r, hr, rfl, rfl, hi⟩ := hrel
      clear HI
      have HI := hid hi
      clear hi
      by_cases hlt : r < l.length
      · have hrI : (r : Int) < (l.length : Int) := by omega
        obtain ⟨xs, hxs⟩ : ∃ xs, l[r]? = some xs := ⟨_, List.getElem?_eq_getElem hlt⟩
        have hxl := HM.out xs (List.mem_of_getElem? hxs)
        have hgx : l.getD r [] = xs := by rw [List.getD, hxs]; rfl
        have HXS := hid (And.intro hxs (And.intro hxl hgx))
        have hto := sum_range_bounds (M := 40400) (f := fun k => (l.getD k []).sum) (r := r) (fun k _ => (bounds_at HBX.out (fun r hr => by rw [HM.out r hr]; exact hm4) k).2.1)
        change 0 ≤ totTo l r ∧ totTo l r ≤ r * 40400 at hto
        obtain ⟨hto1, hto2⟩ := hto
        have hto3 : totTo l r ≤ 202000 := by omega
        clear hxs hxl hgx hto2
        go_wp2
        go_loopw [9, 7] (fun i t W => ∃ c : Nat, c ≤ m ∧ i = .int .i64 c ∧ t = .int .i64 (totTo l r + (xs.take c).sum) ∧ SumI l m g1 g2 r c c w W) (fun i _ _ => m - (intOf i).toNat)
        case atStart => exact ⟨0, Nat.zero_le _, rfl, by simp, HI.out⟩
        case round =>
          obtain ⟨c, hc, rfl, rfl, hi⟩ := hrel
          clear HI
          have HI := hid hi
          clear hi
          obtain ⟨a, A1, c1, he, p1, p2, p3, p4, p5⟩ := (HX.out.at_ HI.out.below) r xs HXS.out.1
          injection he with he
          subst he
          rw [HXS.out.2.1] at p2 p3
          unfold maxLen at p4
          by_cases hlc : c < m
          · have hcI : (c : Int) < (m : Int) := by omega
            obtain ⟨x, hx⟩ : ∃ x, xs[c]? = some x := ⟨_, List.getElem?_eq_getElem (by rw [HXS.out.2.1]; exact hlc)⟩
            obtain ⟨ax, rfl, u1, u2⟩ := p5 c x hx
            obtain ⟨hx1, hx2⟩ := HBX.out xs (List.mem_of_getElem? HXS.out.1) x (List.mem_of_getElem? hx)
            have hb := bounds_at HBX.out (fun r hr => by rw [HM.out r hr]; exact hm4) r
            have hct := sum_range_bounds (M := 10100) (f := fun k => (l.getD k []).getD c 0) (r := r) (fun k _ => (bounds_at HBX.out (fun r hr => by rw [HM.out r hr]; exact hm4) k).1 c)
            have HST := hid (And.intro (rowF_step (l := l) (r := r) (c := c) (x := x) (by rw [HXS.out.2.2]; exact hx)) (And.intro (colF_step (l := l) (r := r) (c := c) (x := x) (by rw [HXS.out.2.2]; exact hx)) (show (xs.take (c + 1)).sum = (xs.take c).sum + x by
              obtain ⟨h1, h2⟩ := List.getElem?_eq_some_iff.1 hx
              rw [List.take_succ_eq_append_getElem h1, List.sum_append, h2]; simp)))
            obtain ⟨ro, hro⟩ : ∃ ro, ro = rowF l r c r := ⟨_, rfl⟩
            obtain ⟨co, hco⟩ : ∃ co, co = colF l r c c := ⟨_, rfl⟩
            have hro1 : 0 ≤ ro ∧ ro ≤ 40400 := by
              rw [hro]; unfold rowF; rw [if_neg (by omega), if_pos rfl]; exact hb.2.2 c
            have hco1 : 0 ≤ co ∧ co ≤ 50500 := by
              rw [hco]; unfold colF; rw [if_neg (by omega)]
              unfold colTo
              omega
            have htk := hb.2.2 c
            rw [HXS.out.2.2] at htk
            obtain ⟨hro1, hro2⟩ := hro1
            obtain ⟨hco1, hco2⟩ := hco1
            obtain ⟨htk1, htk2⟩ := htk
            have c1 := HI.out.b1.cell r
            rw [cellsF_get hlt, ← hro] at c1
            have c2 := HI.out.b2.cell c
            rw [cellsF_get hlc, ← hco] at c2
            have HRO := hid (And.intro hro hco)
            have f1 := HI.out.b1.frozen r
            have l1 := HI.out.b1.lt
            have hrl5 : (r : Int) ≤ 5 := by omega
            have HXC := hid hx
            clear hro hco hb hct p5 hx
            go_wp2
            go_still_tail 12, (by kernel_rfl)
            go_wp2
            refine gen (p := Code.wp _ _ _ _) (fun W => SumI l m g1 g2 r (c + 1) c w W) ?_ ?_
            · have hi := HI.out
              refine ⟨?_, ?_, hi.ne, hi.h1, hi.h2, ?_⟩
              · rw [← cellsF_set (k := r) (F := rowF l r c) (v := ro + x) (by rw [HST.out.1.1, HRO.out.1]) (fun i _ hi => HST.out.1.2 i hi)]
                exact (hi.b1.set_ r _).drew
              · exact (hi.b2.far (p := ⟨g1, r, none⟩) (fun e => hi.ne e.symm) _).drew
              · exact (hi.below.setCell (p := ⟨g1, r, none⟩) hi.h1 _).drew
            intro W2 hI2
            clear HI c1 c2 f1 l1 p2 u2
            have HI := hid hI2
            clear hI2
            obtain ⟨a, A2, c2', he, p1', p2', p3', p4', p5'⟩ := (HX.out.below HI.out.below) r xs HXS.out.1
            injection he with he
            subst he
            rw [HXS.out.2.1] at p2' p3'
            obtain ⟨ay, rfl, v1, v2⟩ := p5' c x HXC.out
            unfold maxLen at p4'
            have c2 := HI.out.b2.cell c
            rw [cellsF_get hlc, ← HRO.out.2] at c2
            have f2 := HI.out.b2.frozen c
            have l2 := HI.out.b2.lt
            have k1 : ∀ u, (W2.setCell ⟨g2, c, none⟩ u).cell? (a'.add r) = some (.slice (some ay) m c2') := fun u => (((Below.refl w.heap.size W2).setCell (p := ⟨g2, c, none⟩) HI.out.h2 u).cell (by rw [block_of_add]; exact p1')).trans p2'
            have k2 : ∀ u, (W2.setCell ⟨g2, c, none⟩ u).cell? (ay.add c) = some (.int .i64 x) := fun u => (((Below.refl w.heap.size W2).setCell (p := ⟨g2, c, none⟩) HI.out.h2 u).cell (by rw [block_of_add]; exact v1)).trans v2
            clear p5'
            go_still_tail 12, (by kernel_rfl)
            go_wp2
            have HN := hid (show SumI l m g1 g2 r (c + 1) (c + 1) w ((W2.setCell ⟨g2, c, none⟩ (.int .i64 (co + x))).drew) by
              have hi := HI.out
              refine ⟨?_, ?_, hi.ne, hi.h1, hi.h2, ?_⟩
              · exact (hi.b1.far (p := ⟨g2, c, none⟩) hi.ne _).drew
              · rw [← cellsF_set (k := c) (F := colF l r c) (v := co + x) (by rw [HST.out.2.1.1, HRO.out.2]) (fun i _ hi => HST.out.2.1.2 i hi)]
                exact (hi.b2.set_ c _).drew
              · exact (hi.below.setCell (p := ⟨g2, c, none⟩) hi.h2 _).drew)
            go_roundw
            case rel => exact ⟨c + 1, by omega, by go_num, by first | exact congrArg (Value.int .i64) (by rw [HST.out.2.2]; omega) | (rw [HST.out.2.2]; go_num), HN.out⟩
            case measure => first | (simp [intOf]; done) | (simp [intOf]; omega)
          · have hcI : decide ((c : Int) < (m : Int)) = false := by simp; omega
            obtain rfl : c = m := by omega
            have HE := hid (show totTo l (r + 1) = totTo l r + (xs.take c).sum by rw [totTo_succ, HXS.out.2.2, List.take_of_length_le (by rw [HXS.out.2.1]; exact Nat.le_refl _)])
            have HN := hid (show SumI l c g1 g2 (r + 1) 0 0 w wr by
              have hi := HI.out
              refine ⟨?_, ?_, hi.ne, hi.h1, hi.h2, hi.below⟩
              · rw [cellsF_ext (F := rowF l r c) (fun i _ => rowF_next (by rw [HXS.out.2.2]; exact HXS.out.2.1) i)]; exact hi.b1
              · rw [cellsF_ext (F := colF l r c) (fun i hi => colF_next hi)]; exact hi.b2)
            clear p5
            go_wp2
            go_roundw
            case rel => exact ⟨r + 1, by omega, by go_num, by rw [HE.out], HN.out⟩
            case measure => first | (simp [intOf]; done) | (simp [intOf]; omega)
      · have hrI : decide ((r : Int) < (l.length : Int)) = false := by simp; omega
        obtain rfl : r = l.length := by omega
        go_wp2
        exact bodyPost_ret (v := .tuple #[.slice (some ⟨g1, 0, none⟩) l.length l.length, .slice (some ⟨g2, 0, none⟩) m m, .int .i64 (totTo l l.length)]) (by simp [results, Try.results68, go_sem]) rfl ⟨g1, g2, rfl, HI.out⟩
  · refine gen (p := Exit.then _ _ .normal _) (fun W => SumI l m (w.heap.size + 1) w.heap.size 0 0 0 w W) ?_ ?_
    · have hb : Below w.heap.size w (w.alloc (.cells (madeCells #[.int .i64 0] m) 3)) := (Below.refl _ _).alloc (Nat.le_refl _) _
      have k2 := (Blk.new (w.alloc (.cells (madeCells #[.int .i64 0] m) 3)) 3 (madeCells #[.int .i64 0] l.length)).drew
      rw [World.size_alloc] at k2
      have k1 := ((Blk.new w 3 (madeCells #[.int .i64 0] m)).alloc (.cells (madeCells #[.int .i64 0] l.length) 3)).drew
      refine ⟨?_, ?_, by omega, by omega, by omega, ?_⟩
      · rw [cellsF_ext (F := fun _ => 0) (fun i _ => by unfold rowF; rw [if_neg (by omega)]; split <;> simp), ← cellsF_zero]; exact k2
      · rw [cellsF_ext (F := fun _ => 0) (fun i _ => by simp [colF, colTo]), ← cellsF_zero]; exact k1
      · exact (hb.alloc (by simp) _).drew
    intro W hI
    have HI := hid hI
    clear hI
    generalize w.heap.size + 1 = g1 at HI ⊢
    generalize w.heap.size = g2 at HI ⊢
    go_wp2
    clear hk1 hk2 hlI hlN q1 q4
    go_loopw [8, 7] (fun i t wr => ∃ r : Nat, r ≤ l.length ∧ i = .int .i64 r ∧ t = .int .i64 (totTo l r) ∧ SumI l m g1 g2 r 0 0 w wr) (fun i _ _ => l.length - (intOf i).toNat)
    case atStart => exact ⟨0, Nat.zero_le _, rfl, rfl, HI.out⟩
    case round =>
      obtain ⟨r, hr, rfl, rfl, hi⟩ := hrel
      clear HI
      have HI := hid hi
      clear hi
      by_cases hlt : r < l.length
      · have hrI : (r : Int) < (l.length : Int) := by omega
        obtain ⟨xs, hxs⟩ : ∃ xs, l[r]? = some xs := ⟨_, List.getElem?_eq_getElem hlt⟩
        have hxl := HM.out xs (List.mem_of_getElem? hxs)
        have hgx : l.getD r [] = xs := by rw [List.getD, hxs]; rfl
        have HXS := hid (And.intro hxs (And.intro hxl hgx))
        have hto := sum_range_bounds (M := 40400) (f := fun k => (l.getD k []).sum) (r := r) (fun k _ => (bounds_at HBX.out (fun r hr => by rw [HM.out r hr]; exact hm4) k).2.1)
        change 0 ≤ totTo l r ∧ totTo l r ≤ r * 40400 at hto
        obtain ⟨hto1, hto2⟩ := hto
        have hto3 : totTo l r ≤ 202000 := by omega
        clear hxs hxl hgx hto2
        go_wp2
        go_loopw [9, 7] (fun i t W => ∃ c : Nat, c ≤ m ∧ i = .int .i64 c ∧ t = .int .i64 (totTo l r + (xs.take c).sum) ∧ SumI l m g1 g2 r c c w W) (fun i _ _ => m - (intOf i).toNat)
        case atStart => exact ⟨0, Nat.zero_le _, rfl, by simp, HI.out⟩
        case round =>
          obtain ⟨c, hc, rfl, rfl, hi⟩ := hrel
          clear HI
          have HI := hid hi
          clear hi
          obtain ⟨a, A1, c1, he, p1, p2, p3, p4, p5⟩ := (HX.out.at_ HI.out.below) r xs HXS.out.1
          injection he with he
          subst he
          rw [HXS.out.2.1] at p2 p3
          unfold maxLen at p4
          by_cases hlc : c < m
          · have hcI : (c : Int) < (m : Int) := by omega
            obtain ⟨x, hx⟩ : ∃ x, xs[c]? = some x := ⟨_, List.getElem?_eq_getElem (by rw [HXS.out.2.1]; exact hlc)⟩
            obtain ⟨ax, rfl, u1, u2⟩ := p5 c x hx
            obtain ⟨hx1, hx2⟩ := HBX.out xs (List.mem_of_getElem? HXS.out.1) x (List.mem_of_getElem? hx)
            have hb := bounds_at HBX.out (fun r hr => by rw [HM.out r hr]; exact hm4) r
            have hct := sum_range_bounds (M := 10100) (f := fun k => (l.getD k []).getD c 0) (r := r) (fun k _ => (bounds_at HBX.out (fun r hr => by rw [HM.out r hr]; exact hm4) k).1 c)
            have HST := hid (And.intro (rowF_step (l := l) (r := r) (c := c) (x := x) (by rw [HXS.out.2.2]; exact hx)) (And.intro (colF_step (l := l) (r := r) (c := c) (x := x) (by rw [HXS.out.2.2]; exact hx)) (show (xs.take (c + 1)).sum = (xs.take c).sum + x by
              obtain ⟨h1, h2⟩ := List.getElem?_eq_some_iff.1 hx
              rw [List.take_succ_eq_append_getElem h1, List.sum_append, h2]; simp)))
            obtain ⟨ro, hro⟩ : ∃ ro, ro = rowF l r c r := ⟨_, rfl⟩
            obtain ⟨co, hco⟩ : ∃ co, co = colF l r c c := ⟨_, rfl⟩
            have hro1 : 0 ≤ ro ∧ ro ≤ 40400 := by
              rw [hro]; unfold rowF; rw [if_neg (by omega), if_pos rfl]; exact hb.2.2 c
            have hco1 : 0 ≤ co ∧ co ≤ 50500 := by
              rw [hco]; unfold colF; rw [if_neg (by omega)]
              unfold colTo
              omega
            have htk := hb.2.2 c
            rw [HXS.out.2.2] at htk
            obtain ⟨hro1, hro2⟩ := hro1
            obtain ⟨hco1, hco2⟩ := hco1
            obtain ⟨htk1, htk2⟩ := htk
            have c1 := HI.out.b1.cell r
            rw [cellsF_get hlt, ← hro] at c1
            have c2 := HI.out.b2.cell c
            rw [cellsF_get hlc, ← hco] at c2
            have HRO := hid (And.intro hro hco)
            have f1 := HI.out.b1.frozen r
            have l1 := HI.out.b1.lt
            have hrl5 : (r : Int) ≤ 5 := by omega
            have HXC := hid hx
            clear hro hco hb hct p5 hx
            go_wp2
            go_still_tail 12, (by kernel_rfl)
            go_wp2
            refine gen (p := Code.wp _ _ _ _) (fun W => SumI l m g1 g2 r (c + 1) c w W) ?_ ?_
            · have hi := HI.out
              refine ⟨?_, ?_, hi.ne, hi.h1, hi.h2, ?_⟩
              · rw [← cellsF_set (k := r) (F := rowF l r c) (v := ro + x) (by rw [HST.out.1.1, HRO.out.1]) (fun i _ hi => HST.out.1.2 i hi)]
                exact (hi.b1.set_ r _).drew
              · exact (hi.b2.far (p := ⟨g1, r, none⟩) (fun e => hi.ne e.symm) _).drew
              · exact (hi.below.setCell (p := ⟨g1, r, none⟩) hi.h1 _).drew
            intro W2 hI2
            clear HI c1 c2 f1 l1 p2 u2
            have HI := hid hI2
            clear hI2
            obtain ⟨a, A2, c2', he, p1', p2', p3', p4', p5'⟩ := (HX.out.below HI.out.below) r xs HXS.out.1
            injection he with he
            subst he
            rw [HXS.out.2.1] at p2' p3'
            obtain ⟨ay, rfl, v1, v2⟩ := p5' c x HXC.out
            unfold maxLen at p4'
            have c2 := HI.out.b2.cell c
            rw [cellsF_get hlc, ← HRO.out.2] at c2
            have f2 := HI.out.b2.frozen c
            have l2 := HI.out.b2.lt
            have k1 : ∀ u, (W2.setCell ⟨g2, c, none⟩ u).cell? (a'.add r) = some (.slice (some ay) m c2') := fun u => (((Below.refl w.heap.size W2).setCell (p := ⟨g2, c, none⟩) HI.out.h2 u).cell (by rw [block_of_add]; exact p1')).trans p2'
            have k2 : ∀ u, (W2.setCell ⟨g2, c, none⟩ u).cell? (ay.add c) = some (.int .i64 x) := fun u => (((Below.refl w.heap.size W2).setCell (p := ⟨g2, c, none⟩) HI.out.h2 u).cell (by rw [block_of_add]; exact v1)).trans v2
            clear p5'
            go_still_tail 12, (by kernel_rfl)
            go_wp2
            have HN := hid (show SumI l m g1 g2 r (c + 1) (c + 1) w ((W2.setCell ⟨g2, c, none⟩ (.int .i64 (co + x))).drew) by
              have hi := HI.out
              refine ⟨?_, ?_, hi.ne, hi.h1, hi.h2, ?_⟩
              · exact (hi.b1.far (p := ⟨g2, c, none⟩) hi.ne _).drew
              · rw [← cellsF_set (k := c) (F := colF l r c) (v := co + x) (by rw [HST.out.2.1.1, HRO.out.2]) (fun i _ hi => HST.out.2.1.2 i hi)]
                exact (hi.b2.set_ c _).drew
              · exact (hi.below.setCell (p := ⟨g2, c, none⟩) hi.h2 _).drew)
            go_roundw
            case rel => exact ⟨c + 1, by omega, by go_num, by first | exact congrArg (Value.int .i64) (by rw [HST.out.2.2]; omega) | (rw [HST.out.2.2]; go_num), HN.out⟩
            case measure => first | (simp [intOf]; done) | (simp [intOf]; omega)
          · have hcI : decide ((c : Int) < (m : Int)) = false := by simp; omega
            obtain rfl : c = m := by omega
            have HE := hid (show totTo l (r + 1) = totTo l r + (xs.take c).sum by rw [totTo_succ, HXS.out.2.2, List.take_of_length_le (by rw [HXS.out.2.1]; exact Nat.le_refl _)])
            have HN := hid (show SumI l c g1 g2 (r + 1) 0 0 w wr by
              have hi := HI.out
              refine ⟨?_, ?_, hi.ne, hi.h1, hi.h2, hi.below⟩
              · rw [cellsF_ext (F := rowF l r c) (fun i _ => rowF_next (by rw [HXS.out.2.2]; exact HXS.out.2.1) i)]; exact hi.b1
              · rw [cellsF_ext (F := colF l r c) (fun i hi => colF_next hi)]; exact hi.b2)
            clear p5
            go_wp2
            go_roundw
            case rel => exact ⟨r + 1, by omega, by go_num, by rw [HE.out], HN.out⟩
            case measure => first | (simp [intOf]; done) | (simp [intOf]; omega)
      · have hrI : decide ((r : Int) < (l.length : Int)) = false := by simp; omega
        obtain rfl : r = l.length := by omega
        go_wp2
        exact bodyPost_ret (v := .tuple #[.slice (some ⟨g1, 0, none⟩) l.length l.length, .slice (some ⟨g2, 0, none⟩) m m, .int .i64 (totTo l l.length)]) (by simp [results, Try.results68, go_sem]) rfl ⟨g1, g2, rfl, HI.out⟩
end Go.Proofs.Ytgoianldiomdoaa
/- The reference's test of a rounding. -/
namespace Go.Proofs.Ytgoianldiomdoaa
open Go.RowKit Go.Shelf

theorem nbr_near {b n o : Int} (hb : 2 ≤ b) : nbrB b n o = nearB b n o := by
  rw [near_nbr hb, Bool.eq_iff_iff]
  unfold nbrB nbrM withinB
  simp only [Bool.and_eq_true, beq_iff_eq, decide_eq_true_eq]
  have : n.tmod b = 0 ↔ n % b = 0 := ⟨fun h => Int.emod_eq_zero_of_dvd (Int.dvd_of_tmod_eq_zero h), fun h => Int.tmod_eq_zero_of_dvd (Int.dvd_of_emod_eq_zero h)⟩
  rw [this]
def allTo (f : Nat → Bool) (k : Nat) : Bool := (List.range k).all f
theorem allTo_succ (f : Nat → Bool) (k : Nat) : allTo f (k + 1) = (allTo f k && f k) := by simp [allTo, List.range_succ]
theorem allTo_false {f : Nat → Bool} {k m : Nat} (h : k < m) (hk : f k = false) : allTo f m = false := by
  unfold allTo
  rw [List.all_eq_false]
  exact ⟨k, List.mem_range.2 h, by rw [hk]; simp⟩
theorem allTo_iff {f : Nat → Bool} {m : Nat} : allTo f m = true ↔ ∀ k, k < m → f k = true := by
  unfold allTo
  rw [List.all_eq_true]
  exact ⟨fun h k hk => h k (List.mem_range.2 hk), fun h k hk => h k (List.mem_range.1 hk)⟩
def cellN (b : Int) (l cs : List (List Int)) (i : Nat) : Bool := nearRow b (l.getD i []) (cs.getD i []) (l.getD i []).length
def rowN (b : Int) (l cs : List (List Int)) (i : Nat) : Bool := nearB b (l.getD i []).sum (cs.getD i []).sum
def colN (b : Int) (l cs : List (List Int)) (n i : Nat) : Bool := nearB b (colTo l n i) (colTo cs n i)
def isrB (b : Int) (cs : List (List Int)) (fs : List Fx) (l : List (List Int)) : Bool :=
  rholdB fs l && (allTo (cellN b l cs) l.length && (allTo (rowN b l cs) l.length && (allTo (colN b l cs l.length) (colsOf cs) && nearB b (totTo l l.length) (totTo cs l.length))))
theorem chk_fix_of {b : Int} {cs : List (List Int)} {fs : List Fx} (h : chkE b cs fs = 0) : ∀ f ∈ fs, 0 ≤ f.row ∧ f.row < cs.length ∧ 0 ≤ f.col ∧ f.col < colsOf cs := by
  unfold chkE at h
  split at h
  · cases h
  · split at h
    · cases h
    · rename_i h2
      simp only [Bool.or_eq_true, Bool.not_eq_true', not_or, Bool.not_eq_false] at h2
      intro f hf
      have := List.all_eq_true.1 h2.2 f hf
      simp only [fixOkB, withinB, Bool.and_eq_true, decide_eq_true_eq] at this
      omega

set_option maxRecDepth 100000 in
set_option maxHeartbeats 4000000 in
theorem isr_any (b : Int) (A : Option Addr) (c : Nat) (cs : List (List Int)) (A2 : Option Addr) (c2 : Nat) (fs : List Fx) (A' : Option Addr) (c' : Nat) (l : List (List Int)) (w : World) (h : TIn A c cs A2 c2 fs w)
    (hx : IsRows w w.heap.size A' l) (hchk : chkE b cs fs = 0) (hal : alikeB cs.length (colsOf cs) l = true) :
    Calls Try.prog 36 #[.agg #[.int .i64 b, .slice A cs.length c, .slice A2 fs.length c2], .slice A' l.length c'] w fun e w' => e = .returned (.bool (isrB b cs fs l)) ∧ Below w.heap.size w w' := by
  have hB := below_box (w := w) #[.int .i64 b, .slice A cs.length c, .slice A2 fs.length c2] 25
  have hT := Blk.new w 25 #[.int .i64 b, .slice A cs.length c, .slice A2 fs.length c2]
  have OK := hid (chk_ok hchk)
  have HAL := hid (alike_rows hal)
  have hln := HAL.out.1
  have hln1 : l.length ≤ cs.length := by omega
  have hb1 := OK.out.okc.b1
  have hb2 := OK.out.okc.b2
  have hn5 := OK.out.okc.n2
  have hn1 := OK.out.okc.n1
  have hc4 := OK.out.okc.c2
  have KAL := hid (show ∀ W, Below w.heap.size w W → _ from fun W hW => ralike_any (.int .i64 b) A c cs A2 c2 fs A' c' l W (h.at_ hW) (hx.at_ hW) (by omega))
  have hra : ralkB cs.length (colsOf cs) l = true := by
    unfold ralkB alkTo
    rw [List.take_length, Bool.and_eq_true]
    exact ⟨List.all_eq_true.2 fun r hr => by simpa using (HAL.out.2 r hr).1, by simpa using hln⟩
  rw [hra] at KAL
  have KHO := hid (show ∀ W, Below w.heap.size w W → _ from fun W hW => rholds_any (.int .i64 b) A c cs A2 c2 fs A' c' l W (h.at_ hW) (hx.at_ hW) (by omega) (fun f hf => by
    obtain ⟨p1, p2, p3, p4⟩ := chk_fix_of hchk f hf
    exact ⟨p1, by omega, p3, fun r hr => by rw [(HAL.out.2 r hr).1]; exact p4⟩))
  have KS1 := hid (show ∀ W, Below w.heap.size w W → _ from fun W hW => sums_any A c cs (colsOf cs) W (h.at_ hW).ic (by omega) (by omega) OK.out.okc.row hc4 (fun r hr x hx => by have := OK.out.okc.cell r hr x hx; omega))
  have KS2 := hid (show ∀ W, Below w.heap.size w W → _ from fun W hW => sums_any A' c' l (colsOf cs) W (hx.at_ hW) (by omega) (by omega) (fun r hr => (HAL.out.2 r hr).1) hc4 (fun r hr x hx => (HAL.out.2 r hr).2 x hx))
  have HB := hid hB
  have HT := hid hT
  have HH := hid h
  have HX := hid hx
  have HLN := hid hln
  have hm1 := h.m1
  have hl1 := h.l1
  unfold maxLen at hm1
  obtain ⟨t0, t1, t2⟩ := hT.c3
  clear h hx hB hT hra hal hchk hln
  cases hh : rholdB fs l
  · have HE := hid (show isrB b cs fs l = false by unfold isrB; rw [hh]; rfl)
    rw [hh] at KHO
    clear hh
    go_enter Try.func36, Try.ntmps36
    go_wp2_with fail
    refine (KAL.out _ HB.out).mono ?_
    rintro e w2 ⟨rfl, hb2'⟩
    have HB2 := hid (HB.out.trans (hb2'.mono HB.out.size))
    clear t0 t1 t2
    obtain ⟨t0, t1, t2⟩ := (HT.out.keep hb2').c3
    clear hb2'
    go_wp2_with fail
    refine (KHO.out _ HB2.out).mono ?_
    rintro e w3 ⟨rfl, hb3⟩
    have HB3 := hid (HB2.out.trans (hb3.mono HB2.out.size))
    clear hb3
    go_wp2
    go_ret
    exact ⟨ret_bool HE.out.symm, HB3.out⟩
  have HE0 := hid (show isrB b cs fs l = (allTo (cellN b l cs) l.length && (allTo (rowN b l cs) l.length && (allTo (colN b l cs l.length) (colsOf cs) && nearB b (totTo l l.length) (totTo cs l.length)))) by unfold isrB; rw [hh]; rfl)
  rw [hh] at KHO
  clear hh
  go_enter Try.func36, Try.ntmps36
  go_wp2_with fail
  refine (KAL.out _ HB.out).mono ?_
  rintro e w2 ⟨rfl, hb2'⟩
  have HB2 := hid (HB.out.trans (hb2'.mono HB.out.size))
  have HT2 := hid (HT.out.keep hb2')
  clear t0 t1 t2 hb2'
  obtain ⟨t0, t1, t2⟩ := HT2.out.c3
  go_wp2_with fail
  refine (KHO.out _ HB2.out).mono ?_
  rintro e w3 ⟨rfl, hb3⟩
  have HB3 := hid (HB2.out.trans (hb3.mono HB2.out.size))
  have HT3 := hid (HT2.out.keep hb3)
  clear hb3 t0 t1 t2 KHO KAL
  go_wp2
  go_loopw [5] (fun i wr => ∃ k : Nat, k ≤ l.length ∧ i = .int .i64 k ∧ Below w3.heap.size w3 wr ∧ allTo (cellN b l cs) k = true) (fun i _ => l.length - (intOf i).toNat)
  case atStart => exact ⟨0, Nat.zero_le _, rfl, Below.refl _ _, rfl⟩
  case round =>
    obtain ⟨k, hk, rfl, hbr, hrp⟩ := hrel
    have HRP := hid hrp
    clear hrp
    by_cases hlt : k < l.length
    · have hkI : (k : Int) < (l.length : Int) := by omega
      obtain ⟨xs, hxs⟩ : ∃ xs, l[k]? = some xs := ⟨_, List.getElem?_eq_getElem hlt⟩
      obtain ⟨ys, hys⟩ : ∃ ys, cs[k]? = some ys := ⟨_, List.getElem?_eq_getElem (by omega)⟩
      obtain ⟨hxl, hxb⟩ := HAL.out.2 xs (List.mem_of_getElem? hxs)
      have hyl := OK.out.okc.row ys (List.mem_of_getElem? hys)
      have hyb := OK.out.okc.cell ys (List.mem_of_getElem? hys)
      have hgx : l.getD k [] = xs := by rw [List.getD, hxs]; rfl
      have hgy : cs.getD k [] = ys := by rw [List.getD, hys]; rfl
      have HRS := hid (allTo_succ (cellN b l cs) k)
      have HRF := hid (fun h => allTo_false (f := cellN b l cs) hlt h)
      have HRW := hid (show cellN b l cs k = nearRow b xs ys xs.length by unfold cellN; rw [hgx, hgy])
      have HBR := hid hbr
      have HXY := hid (And.intro hxs hys)
      have HXL := hid hxl
      have HYL := hid hyl
      clear hgx hgy hxs hys hxl hyl hbr
      go_wp2
      go_loopw [6] (fun i W => ∃ j : Nat, j ≤ xs.length ∧ i = .int .i64 j ∧ Below w3.heap.size w3 W ∧ nearRow b xs ys j = true) (fun i _ => xs.length - (intOf i).toNat)
      case atStart => exact ⟨0, Nat.zero_le _, rfl, HBR.out, rfl⟩
      case round =>
        obtain ⟨j, hj, rfl, hbw, hnr⟩ := hrel
        have HNR := hid hnr
        clear hnr
        have hbjw := HB3.out.trans (hbw.mono HB3.out.size)
        obtain ⟨a, A1, c1, rfl, p1, p2, p3, p4, p5⟩ := (HH.out.at_ hbjw).ic k ys HXY.out.2
        obtain ⟨a', A1', c1', rfl, q1, q2, q3, q4, q5⟩ := (HX.out.at_ hbjw) k xs HXY.out.1
        have hTB := HT3.out.keep hbw
        have hkc : (k : Int) < (cs.length : Int) := by omega
        unfold maxLen at p4 q4
        obtain ⟨t0, t1, t2⟩ := xt_c3 hTB
        have s1 := xt_cell p2
        by_cases hlj : j < xs.length
        · have hjI : (j : Int) < (xs.length : Int) := by omega
          obtain ⟨x, hx⟩ : ∃ x, xs[j]? = some x := ⟨_, List.getElem?_eq_getElem hlj⟩
          obtain ⟨y, hy⟩ : ∃ y, ys[j]? = some y := ⟨_, List.getElem?_eq_getElem (by have := HXL.out; have := HYL.out; omega)⟩
          have hyy := hyb y (List.mem_of_getElem? hy)
          have hxx := hxb x (List.mem_of_getElem? hx)
          obtain ⟨hx1, hx2⟩ := hxx
          have hjy : (j : Int) < (ys.length : Int) := by have := HXL.out; have := HYL.out; omega
          have HRS2 := hid (nearRow_succ b xs ys j)
          have HRF2 := hid (fun h => nearRow_false (b := b) (xs := xs) (ys := ys) hlj h)
          have hgx : xs.getD j 0 = x := by rw [List.getD, hx]; rfl
          have hgy : ys.getD j 0 = y := by rw [List.getD, hy]; rfl
          rw [hgx, hgy] at HRS2 HRF2
          obtain ⟨ax, rfl, u1, u2⟩ := q5 j x hx
          obtain ⟨ay, rfl, v1, v2⟩ := p5 j y hy
          have s2 := xt_cell v2
          have s3 := xt_cell q2
          have s4 := xt_cell u2
          have hneg : decide (x < 0) = false := by simp; omega
          have T1 := hid (show ∀ q, Calls Try.prog 28 #[.int .i64 b, .int .i64 x, .int .i64 y] (xt wr q) fun e w' => e = .returned (.bool (nearB b x y)) ∧ Below (xt wr q).heap.size (xt wr q) w' from
            fun q => by rw [← nbr_near hb1]; exact Calls.same_below (nbr_any b x y _ ⟨by omega, by omega⟩ ⟨by omega, by omega⟩ ⟨by omega, by omega⟩))
          have HBJ := hid (And.intro hbw hbjw)
          clear hx hy hgx hgy p2 p5 q5 u2 v2 hTB hbw hbjw
          cases hnb : nearB b x y
          all_goals
            have HN := hid hnb
            rw [hnb] at T1
            clear hnb
            go_wp2
            clear q2
            refine wp_region_quiet_xt (by kernel_rfl) (by kernel_rfl) ?_
            repeat (go_big_quiet_step ((go_at_call 28; with_reducible exact Calls.xt (T1.out _))))
            refine wpQuiet_nil ?_
            intro W2 hw2
            replace hw2 := of_xt hw2
            have HW2 := hid hw2
            clear hw2 s1 s2 s3 s4 t0 t1 t2
            go_wp2
          · go_ret
            refine ⟨ret_bool ?_, HBJ.out.2.trans (HW2.out.mono HBJ.out.2.size)⟩
            have := HRF.out (by rw [HRW.out, HRF2.out HN.out])
            rw [HE0.out, this]; rfl
          · go_roundw
            case rel =>
              refine ⟨j + 1, by omega, by go_num, HBJ.out.1.trans (HW2.out.mono HBJ.out.1.size), ?_⟩
              rw [HRS2.out, HNR.out, HN.out]; rfl
            case measure => first | (simp [intOf]; done) | (simp [intOf]; omega)
        · have hjI : decide ((j : Int) < (xs.length : Int)) = false := by simp; omega
          obtain rfl : j = xs.length := by omega
          have HBJ := hid hbw
          clear p2 p5 q5 hTB hbw hbjw s1 t0 t1 t2
          go_wp2
          go_roundw
          case rel =>
            refine ⟨k + 1, by omega, by go_num, HBJ.out, ?_⟩
            rw [HRS.out, HRP.out, HRW.out, HNR.out]; rfl
          case measure => first | (simp [intOf]; done) | (simp [intOf]; omega)
    · have hkI : decide ((k : Int) < (l.length : Int)) = false := by simp; omega
      obtain rfl : k = l.length := by omega
      have HE1 := hid (show isrB b cs fs l = (allTo (rowN b l cs) l.length && (allTo (colN b l cs l.length) (colsOf cs) && nearB b (totTo l l.length) (totTo cs l.length))) by rw [HE0.out, HRP.out]; rfl)
      have HTR := hid (HT3.out.keep hbr)
      obtain ⟨t0, t1, t2⟩ := HTR.out.c3
      have HBW := hid (HB3.out.trans (hbr.mono HB3.out.size))
      clear hbr HE0
      go_wp2_with fail
      refine (KS1.out _ HBW.out).mono ?_
      rintro e w4 ⟨g1, g2, rfl, hs1⟩
      have S1 := hid hs1
      have HB4 := hid (HBW.out.trans (hs1.below.mono HBW.out.size))
      have HT4 := hid (HTR.out.keep hs1.below)
      clear hs1 t0 t1 t2
      obtain ⟨t0, t1, t2⟩ := HT4.out.c3
      go_wp2_with fail
      refine (KS2.out _ HB4.out).mono ?_
      rintro e w5 ⟨g3, g4, rfl, hs2⟩
      have S2 := hid hs2
      have HB5 := hid (HB4.out.trans (hs2.below.mono HB4.out.size))
      have HT5 := hid (HT4.out.keep hs2.below)
      have HBD := hid (fun k => bounds_at (l := l) (fun r hr x hx => (HAL.out.2 r hr).2 x hx) (fun r hr => by rw [(HAL.out.2 r hr).1]; exact hc4) k)
      have HBC := hid (fun k => bounds_at (l := cs) (fun r hr x hx => by have := OK.out.okc.cell r hr x hx; omega) (fun r hr => by rw [OK.out.okc.row r hr]; exact hc4) k)
      have hct : ∀ (l' : List (List Int)), l'.length ≤ 5 → (∀ k, (∀ i, 0 ≤ (l'.getD k []).getD i 0 ∧ (l'.getD k []).getD i 0 ≤ 10100)) → ∀ i, 0 ≤ colTo l' l'.length i ∧ colTo l' l'.length i ≤ 1000000 := fun l' h5 h i => by
        have := sum_range_bounds (M := 10100) (f := fun k => (l'.getD k []).getD i 0) (r := l'.length) (fun k _ => h k i)
        unfold colTo
        omega
      have htt : ∀ (l' : List (List Int)), l'.length ≤ 5 → (∀ k, 0 ≤ (l'.getD k []).sum ∧ (l'.getD k []).sum ≤ 40400) → 0 ≤ totTo l' l'.length ∧ totTo l' l'.length ≤ 1000000 := fun l' h5 h => by
        have := sum_range_bounds (M := 40400) (f := fun k => (l'.getD k []).sum) (r := l'.length) (fun k _ => h k)
        unfold totTo
        omega
      have HCT := hid hct
      have HTT := hid htt
      clear hs2 t0 t1 t2 hct htt
      go_wp2
      go_loopw [13] (fun i W => ∃ k : Nat, k ≤ l.length ∧ i = .int .i64 k ∧ Below w5.heap.size w5 W ∧ allTo (rowN b l cs) k = true) (fun i _ => l.length - (intOf i).toNat)
      case atStart => exact ⟨0, Nat.zero_le _, rfl, Below.refl _ _, rfl⟩
      case round =>
        obtain ⟨k, hk, rfl, hbk, hrp⟩ := hrel
        have HRP2 := hid hrp
        clear hrp
        by_cases hlt : k < l.length
        · have hkI : (k : Int) < (l.length : Int) := by omega
          obtain ⟨xv, hxv⟩ : ∃ xv, xv = (l.getD k []).sum := ⟨_, rfl⟩
          obtain ⟨yv, hyv⟩ : ∃ yv, yv = (cs.getD k []).sum := ⟨_, rfl⟩
          have hxb : 0 ≤ xv ∧ xv ≤ 1000000 := by rw [hxv]; exact by have := (HBD.out k).2.1; omega
          have hyb : 0 ≤ yv ∧ yv ≤ 1000000 := by rw [hyv]; exact by have := (HBC.out k).2.1; omega
          have s1 := xt_cell ((S2.out.b1.keep hbk).cell k |>.trans (cellsF_get hlt))
          have s2 := xt_cell (((S1.out.b1.keep S2.out.below).keep hbk).cell k |>.trans (cellsF_get (by first | exact hlt | omega)))
          rw [(show rowF l l.length 0 k = (l.getD k []).sum by unfold rowF; rw [if_pos (by first | exact hlt | omega)]), ← hxv] at s1
          rw [(show rowF cs cs.length 0 k = (cs.getD k []).sum by unfold rowF; rw [if_pos (by first | exact hlt | omega)]), ← hyv] at s2
          have T1 := hid (show ∀ q, Calls Try.prog 28 #[.int .i64 b, .int .i64 xv, .int .i64 yv] (xt wr q) fun e w' => e = .returned (.bool (nearB b xv yv)) ∧ Below (xt wr q).heap.size (xt wr q) w' from
            fun q => by rw [← nbr_near hb1]; exact Calls.same_below (nbr_any b xv yv _ ⟨by omega, by omega⟩ ⟨by omega, by omega⟩ ⟨by omega, by omega⟩))
          obtain ⟨t0, t1, t2⟩ := xt_c3 (HT5.out.keep hbk)
          have HS := hid (allTo_succ (rowN b l cs) k)
          have HF := hid (fun h => allTo_false (f := rowN b l cs) hlt h)
          have HV := hid (show (rowN b l cs) k = nearB b xv yv by rw [hxv, hyv]; first | rfl | (unfold colN; rw [HLN.out]))
          have HBK := hid hbk
          have hkc : (k : Int) < (cs.length : Int) := by omega
          clear hxv hyv hbk
          cases hnb : nearB b xv yv
          all_goals
            have HN := hid hnb
            rw [hnb] at T1
            clear hnb
            go_wp2
            refine wp_region_quiet_xt (by kernel_rfl) (by kernel_rfl) ?_
            repeat (go_big_quiet_step ((go_at_call 28; with_reducible exact Calls.xt (T1.out _))))
            refine wpQuiet_nil ?_
            intro W2 hw2
            replace hw2 := of_xt hw2
            have HW2 := hid hw2
            clear hw2 s1 s2 t0 t1 t2
            go_wp2
          · go_ret
            refine ⟨ret_bool ?_, HB5.out.trans ((HBK.out.trans (HW2.out.mono HBK.out.size)).mono HB5.out.size)⟩
            have := HF.out (by rw [HV.out, HN.out])
            rw [HE1.out, this]; rfl
          · go_roundw
            case rel =>
              refine ⟨k + 1, by omega, by go_num, HBK.out.trans (HW2.out.mono HBK.out.size), ?_⟩
              rw [HS.out, HRP2.out, HV.out, HN.out]; rfl
            case measure => first | (simp [intOf]; done) | (simp [intOf]; omega)
        · have hkI : decide ((k : Int) < (l.length : Int)) = false := by simp; omega
          obtain rfl : k = l.length := by omega
          have HBL := hid hbk
          have HE2 := hid (show isrB b cs fs l = (allTo (colN b l cs l.length) (colsOf cs) && nearB b (totTo l l.length) (totTo cs l.length)) by rw [HE1.out, HRP2.out]; rfl)
          clear HE1
          have HE1 := hid HE2.out
          clear HE2 hbk
          go_wp2
          go_loopw [14] (fun i W => ∃ k : Nat, k ≤ colsOf cs ∧ i = .int .i64 k ∧ Below w5.heap.size w5 W ∧ allTo (colN b l cs l.length) k = true) (fun i _ => colsOf cs - (intOf i).toNat)
          case atStart => exact ⟨0, Nat.zero_le _, rfl, HBL.out, rfl⟩
          case round =>
            obtain ⟨k, hk, rfl, hbk, hrp⟩ := hrel
            have HRP2 := hid hrp
            clear hrp
            by_cases hlt : k < colsOf cs
            · have hkI : (k : Int) < (colsOf cs : Int) := by omega
              obtain ⟨xv, hxv⟩ : ∃ xv, xv = colTo l l.length k := ⟨_, rfl⟩
              obtain ⟨yv, hyv⟩ : ∃ yv, yv = colTo cs cs.length k := ⟨_, rfl⟩
              have hxb : 0 ≤ xv ∧ xv ≤ 1000000 := by rw [hxv]; exact HCT.out l (by omega) (fun k => (HBD.out k).1) k
              have hyb : 0 ≤ yv ∧ yv ≤ 1000000 := by rw [hyv]; exact HCT.out cs (by omega) (fun k => (HBC.out k).1) k
              have s1 := xt_cell ((S2.out.b2.keep hbk).cell k |>.trans (cellsF_get hlt))
              have s2 := xt_cell (((S1.out.b2.keep S2.out.below).keep hbk).cell k |>.trans (cellsF_get (by first | exact hlt | omega)))
              rw [(show colF l l.length 0 k = colTo l l.length k by unfold colF; rw [if_neg (by omega)]; omega), ← hxv] at s1
              rw [(show colF cs cs.length 0 k = colTo cs cs.length k by unfold colF; rw [if_neg (by omega)]; omega), ← hyv] at s2
              have T1 := hid (show ∀ q, Calls Try.prog 28 #[.int .i64 b, .int .i64 xv, .int .i64 yv] (xt wr q) fun e w' => e = .returned (.bool (nearB b xv yv)) ∧ Below (xt wr q).heap.size (xt wr q) w' from
                fun q => by rw [← nbr_near hb1]; exact Calls.same_below (nbr_any b xv yv _ ⟨by omega, by omega⟩ ⟨by omega, by omega⟩ ⟨by omega, by omega⟩))
              obtain ⟨t0, t1, t2⟩ := xt_c3 (HT5.out.keep hbk)
              have HS := hid (allTo_succ (colN b l cs l.length) k)
              have HF := hid (fun h => allTo_false (f := colN b l cs l.length) hlt h)
              have HV := hid (show (colN b l cs l.length) k = nearB b xv yv by rw [hxv, hyv]; first | rfl | (unfold colN; rw [HLN.out]))
              have HBK := hid hbk
              clear hxv hyv hbk
              cases hnb : nearB b xv yv
              all_goals
                have HN := hid hnb
                rw [hnb] at T1
                clear hnb
                go_wp2
                refine wp_region_quiet_xt (by kernel_rfl) (by kernel_rfl) ?_
                repeat (go_big_quiet_step ((go_at_call 28; with_reducible exact Calls.xt (T1.out _))))
                refine wpQuiet_nil ?_
                intro W2 hw2
                replace hw2 := of_xt hw2
                have HW2 := hid hw2
                clear hw2 s1 s2 t0 t1 t2
                go_wp2
              · go_ret
                refine ⟨ret_bool ?_, HB5.out.trans ((HBK.out.trans (HW2.out.mono HBK.out.size)).mono HB5.out.size)⟩
                have := HF.out (by rw [HV.out, HN.out])
                rw [HE1.out, this]; rfl
              · go_roundw
                case rel =>
                  refine ⟨k + 1, by omega, by go_num, HBK.out.trans (HW2.out.mono HBK.out.size), ?_⟩
                  rw [HS.out, HRP2.out, HV.out, HN.out]; rfl
                case measure => first | (simp [intOf]; done) | (simp [intOf]; omega)
            · have hkI : decide ((k : Int) < (colsOf cs : Int)) = false := by simp; omega
              obtain rfl : k = colsOf cs := by omega
              have HBL := hid hbk
              have HE2 := hid (show isrB b cs fs l = nearB b (totTo l l.length) (totTo cs l.length) by rw [HE1.out, HRP2.out]; rfl)
              have hxt := HTT.out l (by omega) (fun k => (HBD.out k).2.1)
              have hyt := HTT.out cs (by omega) (fun k => (HBC.out k).2.1)
              rw [HLN.out] at HE2
              rw [HLN.out] at hxt
              obtain ⟨t0, t1, t2⟩ := (HT5.out.keep hbk).c3
              clear hbk
              have K1 := hid (fun W => nbr_any b (totTo l cs.length) (totTo cs cs.length) W ⟨by omega, by omega⟩ ⟨by omega, by omega⟩ ⟨by omega, by omega⟩)
              have HE3 := hid (show nbrB b (totTo l cs.length) (totTo cs cs.length) = isrB b cs fs l by rw [HE2.out]; exact nbr_near hb1)
              go_wp2_with fail
              first | (rw [HLN.out]) | skip
              refine (K1.out _).mono ?_
              rintro e w6 ⟨rfl, rfl⟩
              clear t0 t1 t2
              go_wp2
              go_ret
              exact ⟨ret_bool HE3.out, HB5.out.trans (HBL.out.mono HB5.out.size)⟩
end Go.Proofs.Ytgoianldiomdoaa
/- The program's test of a rounding and the reference's are one. -/
namespace Go.Proofs.Ytgoianldiomdoaa

theorem comp_plus {s : S4} {xs : List Int} {i : Nat} (hi : i < 4) : comp (plusS s xs) i = comp s i + xs.getD i 0 := by
  have : i = 0 ∨ i = 1 ∨ i = 2 ∨ i = 3 := by omega
  rcases this with rfl | rfl | rfl | rfl <;> rfl
theorem comp_added (l : List (List Int)) {i : Nat} (hi : i < 4) : ∀ k, k ≤ l.length → comp (addedS (l.take k)) i = colTo l k i
  | 0, _ => by
    have : i = 0 ∨ i = 1 ∨ i = 2 ∨ i = 3 := by omega
    rcases this with rfl | rfl | rfl | rfl <;> rfl
  | k + 1, hk => by
    rw [added_succ l k (by omega), comp_plus hi, comp_added l hi k (by omega), colTo_succ, show l.getD k [] = l[k] by rw [List.getD, List.getElem?_eq_getElem (by omega)]; rfl]
theorem sum_four : ∀ (xs : List Int), xs.length ≤ 4 → xs.sum = xs.getD 0 0 + xs.getD 1 0 + xs.getD 2 0 + xs.getD 3 0
  | [], _ => rfl
  | [a], _ => by simp
  | [a, b], _ => by simp
  | [a, b, c], _ => by simp [List.getD]; try omega
  | [a, b, c, d], _ => by simp [List.getD]; try omega
  | a :: b :: c :: d :: e :: l, h => by simp at h
theorem sumS_plus (s : S4) {xs : List Int} (h : xs.length ≤ 4) : sumS (plusS s xs) = sumS s + xs.sum := by
  rw [sum_four xs h]
  simp [sumS, plusS]; omega
theorem sumS_added {l : List (List Int)} (h : ∀ r ∈ l, r.length ≤ 4) : ∀ k, k ≤ l.length → sumS (addedS (l.take k)) = totTo l k
  | 0, _ => rfl
  | k + 1, hk => by
    have hm := h (l[k]'(by omega)) (List.getElem_mem _)
    rw [added_succ l k (by omega), sumS_plus _ hm, sumS_added h k (by omega), totTo_succ, show l.getD k [] = l[k] by rw [List.getD, List.getElem?_eq_getElem (by omega)]; rfl]
theorem closes_all {b : Int} {cs l : List (List Int)} (h1 : ∀ r ∈ cs, r.length = colsOf cs) (h2 : ∀ r ∈ l, r.length = colsOf cs) (hc : colsOf cs ≤ 4) :
    closesB b cs (addedS l) = ((List.range (colsOf cs)).all (fun i => nearB b (colTo l l.length i) (colTo cs cs.length i)) && nearB b (totTo l l.length) (totTo cs cs.length)) := by
  have e1 := sumS_added (l := l) (fun r hr => by rw [h2 r hr]; exact hc) l.length (Nat.le_refl _)
  have e2 := sumS_added (l := cs) (fun r hr => by rw [h1 r hr]; exact hc) cs.length (Nat.le_refl _)
  rw [List.take_length] at e1 e2
  unfold closesB closesTo
  rw [e1, e2]
  congr 1
  rw [Bool.eq_iff_iff, List.all_eq_true, List.all_eq_true]
  have key : ∀ i, i ∈ List.range (colsOf cs) → comp (addedS l) i = colTo l l.length i ∧ comp (addedS cs) i = colTo cs cs.length i := fun i hi => by
    have hi4 : i < 4 := by have := List.mem_range.1 hi; omega
    have g1 := comp_added l hi4 l.length (Nat.le_refl _)
    have g2 := comp_added cs hi4 cs.length (Nat.le_refl _)
    rw [List.take_length] at g1 g2
    exact ⟨g1, g2⟩
  constructor
  · intro h i hi
    have := h i hi
    rwa [(key i hi).1, (key i hi).2] at this
  · intro h i hi
    rw [(key i hi).1, (key i hi).2]
    exact h i hi
theorem nearRow_cands {b : Int} {xs ys : List Int} (hl : xs.length = ys.length) : nearRow b xs ys xs.length = true ↔ xs ∈ cands b ys := by
  rw [cands_mem]
  unfold nearRow
  rw [List.all_eq_true]
  constructor
  · refine fun h => ⟨hl, fun i x y hx hy => ?_⟩
    have := h i (List.mem_range.2 (List.getElem?_eq_some_iff.1 hy).1)
    rwa [List.getD, hy, List.getD, hx] at this
  · intro h i hi
    have hi := List.mem_range.1 hi
    have e1 := List.getElem?_eq_getElem hi
    have e2 := List.getElem?_eq_getElem (l := ys) (i := i) (by omega)
    rw [List.getD, e1, List.getD, e2]
    exact h.2 i _ _ e2 e1
theorem rowPr_iff {b : Int} {cs : List (List Int)} {fs : List Fx} {l : List (List Int)} {i : Nat} {cells xs : List Int} (hc : cs[i]? = some cells) (hx : l[i]? = some xs) (hl : xs.length = cells.length) :
    rowPr b cs fs l i = true ↔ xs ∈ cands b cells ∧ testB b cells fs i xs = true := by
  have e1 : l.getD i [] = xs := by rw [List.getD, hx]; rfl
  have e2 : cs.getD i [] = cells := by rw [List.getD, hc]; rfl
  unfold rowPr testB
  rw [e1, e2, Bool.and_eq_true, nearRow_cands hl]
/-- the middle of the program's test -/
theorem mid_isR {b : Int} {cs : List (List Int)} {fs : List Fx} {l : List (List Int)} (ok : TOk b cs fs) (hlen : l.length = cs.length) (hl : ∀ r ∈ l, r.length = colsOf cs) :
    (rowsPr b cs fs l l.length && closesB b cs (addedS l)) = true ↔ IsR b cs fs l := by
  rw [Bool.and_eq_true]
  unfold rowsPr
  rw [List.all_eq_true]
  constructor
  · rintro ⟨h1, h2⟩
    refine ⟨hlen, fun i cells xs hc hx => ?_, h2⟩
    have hx1 := hl xs (List.mem_of_getElem? hx)
    have hc1 := ok.okc.row cells (List.mem_of_getElem? hc)
    exact (rowPr_iff hc hx (by omega)).1 (h1 i (List.mem_range.2 (List.getElem?_eq_some_iff.1 hx).1))
  · rintro ⟨h1, h2, h3⟩
    refine ⟨fun i hi => ?_, h3⟩
    have hi := List.mem_range.1 hi
    have e1 := List.getElem?_eq_getElem (l := l) hi
    have e2 := List.getElem?_eq_getElem (l := cs) (i := i) (by omega)
    have hx1 := hl _ (List.mem_of_getElem? e1)
    have hc1 := ok.okc.row _ (List.mem_of_getElem? e2)
    exact (rowPr_iff e2 e1 (by omega)).2 (h2 i _ _ e2 e1)
theorem prove_iff {b : Int} {cs : List (List Int)} {fs : List Fx} {l : List (List Int)} {ch : Int} (hc : chkE b cs fs = 0) (ha : alikeB cs.length (colsOf cs) l = true) :
    proveB b cs fs l ch = true ↔ IsR b cs fs l ∧ changeOf l cs ≤ ch := by
  obtain ⟨h1, h2⟩ := alike_rows ha
  have := mid_isR (fs := fs) (chk_ok hc) h1 (fun r hr => (h2 r hr).1)
  unfold proveB
  rw [hc, ha]
  simp only [beq_self_eq_true, Bool.true_and]
  rw [← this, ← Bool.and_assoc, Bool.and_eq_true]
  simp
/-- a rounding has numbers that are allowed -/
theorem IsR.alike {b : Int} {cs : List (List Int)} {fs : List Fx} {l : List (List Int)} (ok : TOk b cs fs) (h : IsR b cs fs l) : alikeB cs.length (colsOf cs) l = true := by
  unfold alikeB
  rw [h.len, Bool.and_eq_true]
  refine ⟨by simp, List.all_eq_true.2 fun r hr => ?_⟩
  obtain ⟨i, hi, e⟩ := List.mem_iff_getElem.1 hr
  have hx : l[i]? = some r := by rw [List.getElem?_eq_getElem hi, e]
  have hlt : i < cs.length := by have := h.len; omega
  have hc := List.getElem?_eq_getElem hlt
  have hm := (h.row i _ _ hc hx).1
  have hlen := cands_len r hm
  have hb := cands_bound ok.okc.b1 ok.okc.b2 (ok.okc.cell _ (List.mem_of_getElem? hc)) r hm
  have hrow := ok.okc.row _ (List.mem_of_getElem? hc)
  unfold rowB
  rw [Bool.and_eq_true]
  refine ⟨by simp; omega, List.all_eq_true.2 fun x hx => ?_⟩
  have := hb x hx
  simp [withinB]; omega
theorem holds_split {fs : List Fx} {l : List (List Int)} (hf : ∀ f ∈ fs, 0 ≤ f.row ∧ f.row < l.length) : rholdB fs l = true ↔ ∀ (i : Nat) (xs : List Int), l[i]? = some xs → holdsB fs i xs = true := by
  unfold rholdB holdsB
  rw [List.all_eq_true]
  constructor
  · intro h i xs hx
    rw [List.all_eq_true]
    intro f hm
    have h1 := h f hm
    unfold holdF at h1
    unfold fixB
    by_cases he : f.row = (i : Int)
    · have e : l.getD i [] = xs := by rw [List.getD, hx]; rfl
      rw [he, Int.toNat_natCast, e] at h1
      rw [beq_iff_eq] at h1
      rw [h1]
      simp
    · have : (f.row == (i : Int)) = false := by simpa using he
      rw [this]; rfl
  · intro h f hm
    obtain ⟨h1, h2⟩ := hf f hm
    obtain ⟨i, hi⟩ := Int.eq_ofNat_of_zero_le h1
    have hx := List.getElem?_eq_getElem (l := l) (i := i) (by omega)
    have h3 := List.all_eq_true.1 (h i _ hx) f hm
    unfold fixB at h3
    unfold holdF
    have e : l.getD i [] = l[i]'(by omega) := by rw [List.getD, hx]; rfl
    rw [hi, Int.toNat_natCast, e]
    rw [hi] at h3
    simpa using h3
theorem isr_iff {b : Int} {cs : List (List Int)} {fs : List Fx} {l : List (List Int)} (hc : chkE b cs fs = 0) (ha : alikeB cs.length (colsOf cs) l = true) : isrB b cs fs l = true ↔ IsR b cs fs l := by
  obtain ⟨h1, h2⟩ := alike_rows ha
  have ok := chk_ok hc
  have hf := chk_fix_of hc
  rw [← mid_isR (fs := fs) ok h1 (fun r hr => (h2 r hr).1)]
  unfold isrB
  simp only [Bool.and_eq_true]
  rw [closes_all ok.okc.row (fun r hr => (h2 r hr).1) ok.okc.c2, Bool.and_eq_true, holds_split (fun f hm => by have := hf f hm; omega)]
  unfold rowsPr
  rw [allTo_iff, allTo_iff, allTo_iff, List.all_eq_true, List.all_eq_true]
  constructor
  · rintro ⟨g1, g2, g3, g4, g5⟩
    refine ⟨fun i hi => ?_, fun i hi => ?_, by rw [← h1] at *; exact g5⟩
    · have hi := List.mem_range.1 hi
      unfold rowPr
      rw [Bool.and_eq_true, Bool.and_eq_true]
      refine ⟨g2 i hi, g3 i hi, ?_⟩
      have e := List.getElem?_eq_getElem hi
      rw [List.getD, e]
      exact g1 i _ e
    · have := g4 i (List.mem_range.1 hi)
      unfold colN at this
      rwa [h1] at this ⊢
  · rintro ⟨g1, g2, g3⟩
    have hr : ∀ i, i < l.length → cellN b l cs i = true ∧ rowN b l cs i = true ∧ holdsB fs i (l.getD i []) = true := fun i hi => by
      have := g1 i (List.mem_range.2 hi)
      unfold rowPr at this
      rw [Bool.and_eq_true, Bool.and_eq_true] at this
      exact this
    refine ⟨fun i xs hx => ?_, fun i hi => (hr i hi).1, fun i hi => (hr i hi).2.1, fun i hi => ?_, by rw [h1] at g3 ⊢; exact g3⟩
    · have := (hr i (List.getElem?_eq_some_iff.1 hx).1).2.2
      rwa [List.getD, hx] at this
    · have := g2 i (List.mem_range.2 hi)
      unfold colN
      rwa [h1] at this ⊢
end Go.Proofs.Ytgoianldiomdoaa
