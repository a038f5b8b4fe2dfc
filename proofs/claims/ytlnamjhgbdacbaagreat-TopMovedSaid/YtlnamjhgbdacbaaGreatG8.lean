/- The walks and the plain laws of this part of the program, part 8: what each computes. Conditions stand at each theorem. -/
import Derived.Deep.Cut
import Derived.IntWalk
import Derived.Deep.Upon
import Derived.Test.YtlnamjhgbdacbaaGreatRows
import Derived.WalkKit
import Derived.ProofKit
import Derived.OpenShut
import Derived.ChangeSlices
import Derived.Deep.Matrix
import Derived.Lib.SmallJoins
import Derived.Test.YtlnamjhgbdacbaaGreatG1
import Derived.Test.YtlnamjhgbdacbaaGreatG2
import Derived.Test.YtlnamjhgbdacbaaGreatG5
import Derived.Test.YtlnamjhgbdacbaaGreatG6
import Derived.Test.YtlnamjhgbdacbaaGreatG7
/- The numbers of the best rounding are neighbours. -/
namespace Go.Proofs.YtlnamjhgbdacbaaGreat

theorem low_near {b x : Int} (hb : 2 ≤ b) : lowOf b x % b = 0 ∧ 1 - b ≤ lowOf b x - x ∧ lowOf b x - x ≤ b - 1 := by
  have h1 := Int.emod_nonneg x (show b ≠ 0 by omega)
  have h2 := Int.emod_lt_of_pos x (show 0 < b by omega)
  unfold lowOf
  refine ⟨?_, by omega, by omega⟩
  rw [Int.sub_emod, Int.emod_emod, Int.sub_self]; rfl
theorem high_near {b x : Int} (hb : 2 ≤ b) : highOf b x % b = 0 ∧ 1 - b ≤ highOf b x - x ∧ highOf b x - x ≤ b - 1 := by
  have h := low_near (x := x + b - 1) hb
  have h1 := Int.emod_nonneg (x + b - 1) (show b ≠ 0 by omega)
  have e : lowOf b (x + b - 1) = x + b - 1 - (x + b - 1) % b := rfl
  unfold highOf
  exact ⟨h.1, by omega, by omega⟩
theorem cands_near {b : Int} (hb : 2 ≤ b) : ∀ {xs : List Int}, ∀ l ∈ cands b xs, ∀ (i : Nat) (x v : Int), xs[i]? = some x → l[i]? = some v → v % b = 0 ∧ 1 - b ≤ v - x ∧ v - x ≤ b - 1
  | [], l, _ => fun i x v hx _ => by simp at hx
  | n :: ns, l, h => fun i x v hx hv => by
    simp only [cands, List.mem_append, List.mem_map] at h
    rcases h with ⟨l', h', rfl⟩ | h
    · cases i with
      | zero => simp at hx hv; subst hx hv; exact low_near hb
      | succ i => exact cands_near hb l' h' i x v (by simpa using hx) (by simpa using hv)
    · split at h
      · cases h
      · obtain ⟨l', h', rfl⟩ := List.mem_map.1 h
        cases i with
        | zero => simp at hx hv; subst hx hv; exact high_near hb
        | succ i => exact cands_near hb l' h' i x v (by simpa using hx) (by simpa using hv)
/-- the first list of a table that has a rounding -/
theorem spec_first {b : Int} {cs : List (List Int)} {fs : List Fx} {k : Nat} {s : S4} (h : (spec b cs fs (k + 1) s).ways ≠ 0) :
    (spec b cs fs (k + 1) s).first ∈ outsAt b cs fs (k + 1) ∧ (spec b cs fs k (plusS s (spec b cs fs (k + 1) s).first)).ways ≠ 0 := by
  have hall : ∀ (ls : List (List Int)) (acc : Rst), (∀ l ∈ ls, l ∈ outsAt b cs fs (k + 1)) → (acc.ways ≠ 0 → acc.first ∈ outsAt b cs fs (k + 1) ∧ (spec b cs fs k (plusS s acc.first)).ways ≠ 0) →
      ((ls.foldl (fun acc l => stepR (rowAt cs (k + 1)) (spec b cs fs k (plusS s l)) acc l) acc).ways ≠ 0 → (ls.foldl (fun acc l => stepR (rowAt cs (k + 1)) (spec b cs fs k (plusS s l)) acc l) acc).first ∈ outsAt b cs fs (k + 1) ∧
        (spec b cs fs k (plusS s (ls.foldl (fun acc l => stepR (rowAt cs (k + 1)) (spec b cs fs k (plusS s l)) acc l) acc).first)).ways ≠ 0) := by
    intro ls
    induction ls with
    | nil => intro acc _ h; exact h
    | cons l ls ih =>
      intro acc hl h
      rw [List.foldl_cons]
      refine ih _ (fun l' hl' => hl l' (List.mem_cons_of_mem _ hl')) ?_
      unfold stepR
      by_cases hz : ((spec b cs fs k (plusS s l)).ways == 0) = true
      · rw [if_pos hz]; exact h
      · rw [if_neg hz]
        have hz' : (spec b cs fs k (plusS s l)).ways ≠ 0 := by simpa using hz
        split
        · intro _; exact ⟨hl l (by simp), hz'⟩
        · rename_i hn
          intro _
          refine h ?_
          simp only [Bool.or_eq_true, not_or] at hn
          simpa using hn.1
  have := hall (outsAt b cs fs (k + 1)) ⟨0, 0, []⟩ (fun l hl => hl) (fun h => absurd rfl h)
  exact this h
theorem ways_at {b : Int} {cs : List (List Int)} {fs : List Fx} (h : (spec b cs fs cs.length zeroS).ways ≠ 0) : ∀ j, j ≤ cs.length → (spec b cs fs (cs.length - j) (sAt b cs fs j)).ways ≠ 0
  | 0, _ => h
  | j + 1, hj => by
    have ih := ways_at h j (by omega)
    obtain ⟨k, hk⟩ : ∃ k, cs.length - j = k + 1 := ⟨cs.length - j - 1, by omega⟩
    show (spec b cs fs (cs.length - (j + 1)) (plusS (sAt b cs fs j) (spec b cs fs (cs.length - j) (sAt b cs fs j)).first)).ways ≠ 0
    rw [hk] at ih ⊢
    rw [show cs.length - (j + 1) = k by omega]
    exact (spec_first ih).2
/-- each number of the best rounding is a neighbour of its cell -/
theorem best_near {b : Int} {cs : List (List Int)} {fs : List Fx} (hb : 2 ≤ b) (h : (spec b cs fs cs.length zeroS).ways ≠ 0) {j : Nat} {xs cells : List Int} (hx : (bestOf b cs fs cs.length zeroS)[j]? = some xs) (hc : cs[j]? = some cells) :
    xs.length = cells.length ∧ ∀ (i : Nat) (x v : Int), cells[i]? = some x → xs[i]? = some v → v % b = 0 ∧ 1 - b ≤ v - x ∧ v - x ≤ b - 1 := by
  have hj := (List.getElem?_eq_some_iff.1 hc).1
  have hg := bestOf_get (b := b) (cs := cs) (fs := fs) j 0 cs.length (by omega) hj
  simp only [Nat.zero_add] at hg
  have e0 : sAt b cs fs 0 = zeroS := rfl
  rw [e0, hx] at hg
  injection hg with hg
  subst hg
  have hw := ways_at h j (by omega)
  obtain ⟨k, hk⟩ : ∃ k, cs.length - j = k + 1 := ⟨cs.length - j - 1, by omega⟩
  rw [hk] at hw ⊢
  have hm := (outs_mem (spec_first hw).1).1
  have hr : rowAt cs (k + 1) = cells := by
    have := rowAt_get (cs := cs) (k := k) (by omega)
    rw [show cs.length - (k + 1) = j by omega, hc] at this
    injection this with this
    exact this.symm
  rw [hr] at hm
  exact ⟨cands_len _ hm, fun i x v hx hv => cands_near hb _ hm i x v hx hv⟩
end Go.Proofs.YtlnamjhgbdacbaaGreat
/- A table of multiples without fixes has one rounding: itself. -/
namespace Go.Proofs.YtlnamjhgbdacbaaGreat

/-- all cells are multiples -/
def Mult (b : Int) (cs : List (List Int)) : Prop := ∀ r ∈ cs, ∀ x ∈ r, x % b = 0
theorem low_mult {b x : Int} (h : x % b = 0) : lowOf b x = x := by unfold lowOf; omega
theorem high_mult {b x : Int} (hb : 2 ≤ b) (h : x % b = 0) : highOf b x = x := by
  unfold highOf lowOf
  have e : (x + b - 1) % b = b - 1 := by
    rw [show x + b - 1 = (b - 1) + x by omega, Int.add_emod, h, Int.add_zero, Int.emod_emod]
    exact Int.emod_eq_of_lt (by omega) (by omega)
  omega
theorem near_self {b x : Int} (h : x % b = 0) : nearB b x x = true := by unfold nearB; rw [low_mult h]; simp
theorem mult_add {b x y : Int} (h1 : x % b = 0) (h2 : y % b = 0) : (x + y) % b = 0 := by rw [Int.add_emod, h1, h2]; rfl
theorem mult_sum {b : Int} : ∀ {xs : List Int}, (∀ x ∈ xs, x % b = 0) → xs.sum % b = 0
  | [], _ => by simp
  | x :: xs, h => by
    rw [List.sum_cons]
    exact mult_add (h x (by simp)) (mult_sum fun y hy => h y (List.mem_cons_of_mem _ hy))
theorem mult_getD {b : Int} {xs : List Int} (h : ∀ x ∈ xs, x % b = 0) (i : Nat) : xs.getD i 0 % b = 0 := by
  rw [List.getD]
  cases hx : xs[i]? with
  | none => simp
  | some x => exact h x (List.mem_of_getElem? hx)
theorem cands_mult {b : Int} (hb : 2 ≤ b) : ∀ {xs : List Int}, (∀ x ∈ xs, x % b = 0) → cands b xs = [xs]
  | [], _ => rfl
  | x :: xs, h => by
    have hx := h x (by simp)
    rw [cands, cands_mult hb (fun y hy => h y (List.mem_cons_of_mem _ hy)), low_mult hx, high_mult hb hx]
    simp
def MultS (b : Int) (s : S4) : Prop := s.a % b = 0 ∧ s.b % b = 0 ∧ s.c % b = 0 ∧ s.d % b = 0
theorem mult_plus {b : Int} {s : S4} {xs : List Int} (h : MultS b s) (hx : ∀ x ∈ xs, x % b = 0) : MultS b (plusS s xs) :=
  ⟨mult_add h.1 (mult_getD hx 0), mult_add h.2.1 (mult_getD hx 1), mult_add h.2.2.1 (mult_getD hx 2), mult_add h.2.2.2 (mult_getD hx 3)⟩
theorem mult_added {b : Int} {cs : List (List Int)} (h : Mult b cs) : MultS b (addedS cs) := by
  unfold addedS
  have : ∀ (l : List (List Int)) (s : S4), (∀ r ∈ l, ∀ x ∈ r, x % b = 0) → MultS b s → MultS b (l.foldl plusS s) := by
    intro l
    induction l with
    | nil => intro s _ h; exact h
    | cons r l ih => intro s hl hs; rw [List.foldl_cons]; exact ih _ (fun r' hr' => hl r' (List.mem_cons_of_mem _ hr')) (mult_plus hs (hl r (by simp)))
  exact this cs _ h ⟨by simp, by simp, by simp, by simp⟩
theorem mult_comp {b : Int} {s : S4} (h : MultS b s) (i : Nat) : comp s i % b = 0 := by
  obtain ⟨h1, h2, h3, h4⟩ := h
  match i with
  | 0 => exact h1
  | 1 => exact h2
  | 2 => exact h3
  | i + 3 => exact h4
theorem cost_self (xs : List Int) : rowCost xs xs = 0 := by
  unfold rowCost
  have : ∀ k, costTo xs xs k = 0 := by
    intro k
    induction k with
    | zero => rfl
    | succ k ih => rw [costTo_succ, ih]; simp [awayOf]
  exact this _
theorem spec_exact {b : Int} {cs : List (List Int)} (hb : 2 ≤ b) (h : Mult b cs) : ∀ k, k ≤ cs.length →
    (spec b cs [] k (addedS (cs.take (cs.length - k)))).ways = 1 ∧ (spec b cs [] k (addedS (cs.take (cs.length - k)))).change = 0 ∧ (0 < k → (spec b cs [] k (addedS (cs.take (cs.length - k)))).first = rowAt cs k)
  | 0, _ => by
    have hm := mult_added h
    rw [Nat.sub_zero, List.take_length]
    have hc : closesB b cs (addedS cs) = true := by
      unfold closesB closesTo
      rw [Bool.and_eq_true]
      refine ⟨List.all_eq_true.2 fun i _ => near_self (mult_comp hm i), near_self ?_⟩
      unfold sumS
      exact mult_sum fun x hx => by
        simp only [List.mem_cons, List.not_mem_nil, or_false] at hx
        rcases hx with rfl | rfl | rfl | rfl
        · exact hm.1
        · exact hm.2.1
        · exact hm.2.2.1
        · exact hm.2.2.2
    unfold spec
    rw [if_pos hc]
    exact ⟨rfl, rfl, fun h => absurd h (Nat.lt_irrefl 0)⟩
  | k + 1, hk => by
    obtain ⟨i1, i2, _⟩ := spec_exact hb h k (by omega)
    have hr := rowAt_get (cs := cs) (k := k) hk
    have hrow : ∀ x ∈ rowAt cs (k + 1), x % b = 0 := h _ (List.mem_of_getElem? hr)
    have ho : outsAt b cs [] (k + 1) = [rowAt cs (k + 1)] := by
      unfold outsAt outs
      rw [cands_mult hb hrow]
      have ht : testB b (rowAt cs (k + 1)) [] ((cs.length - (k + 1) : Nat) : Int) (rowAt cs (k + 1)) = true := by
        unfold testB
        rw [near_self (mult_sum hrow)]
        rfl
      simp [ht]
    have hadd : plusS (addedS (cs.take (cs.length - (k + 1)))) (rowAt cs (k + 1)) = addedS (cs.take (cs.length - k)) := by
      obtain ⟨hlt, e⟩ := List.getElem?_eq_some_iff.1 hr
      rw [show cs.length - k = cs.length - (k + 1) + 1 by omega, added_succ _ _ hlt, e]
    have hs : spec b cs [] (k + 1) (addedS (cs.take (cs.length - (k + 1)))) = ⟨1, 0, rowAt cs (k + 1)⟩ := by
      rw [spec, ho, List.foldl_cons, List.foldl_nil, hadd]
      unfold stepR
      rw [i1, i2, cost_self]
      simp
    rw [hs]
    exact ⟨rfl, rfl, fun _ => rfl⟩
theorem sAt_exact {b : Int} {cs : List (List Int)} (hb : 2 ≤ b) (h : Mult b cs) : ∀ j, j ≤ cs.length → sAt b cs [] j = addedS (cs.take j)
  | 0, _ => rfl
  | j + 1, hj => by
    have ih := sAt_exact hb h j (by omega)
    have hx := spec_exact hb h (cs.length - j) (by omega)
    rw [show cs.length - (cs.length - j) = j by omega] at hx
    have hr := rowAt_get (cs := cs) (k := cs.length - j - 1) (by omega)
    rw [show cs.length - (cs.length - j - 1 + 1) = j by omega, show cs.length - j - 1 + 1 = cs.length - j by omega] at hr
    obtain ⟨hlt, e⟩ := List.getElem?_eq_some_iff.1 hr
    show plusS (sAt b cs [] j) (spec b cs [] (cs.length - j) (sAt b cs [] j)).first = _
    rw [ih, hx.2.2 (by omega), added_succ _ _ hlt, e]
theorem best_exact {b : Int} {cs : List (List Int)} (hb : 2 ≤ b) (h : Mult b cs) : bestOf b cs [] cs.length zeroS = cs := by
  refine List.ext_getElem? fun j => ?_
  by_cases hj : j < cs.length
  · have hg := bestOf_get (b := b) (cs := cs) (fs := []) j 0 cs.length (by omega) hj
    simp only [Nat.zero_add] at hg
    have e0 : sAt b cs [] 0 = zeroS := rfl
    rw [e0, sAt_exact hb h j (by omega)] at hg
    have hx := spec_exact hb h (cs.length - j) (by omega)
    rw [show cs.length - (cs.length - j) = j by omega] at hx
    rw [hx.2.2 (by omega)] at hg
    have hr := rowAt_get (cs := cs) (k := cs.length - j - 1) (by omega)
    rw [show cs.length - (cs.length - j - 1 + 1) = j by omega, show cs.length - j - 1 + 1 = cs.length - j by omega] at hr
    rw [hg, hr]
  · rw [List.getElem?_eq_none (by rw [bestOf_len]; omega), List.getElem?_eq_none (by omega)]
theorem ways_exact {b : Int} {cs : List (List Int)} (hb : 2 ≤ b) (h : Mult b cs) : (spec b cs [] cs.length zeroS).ways = 1 ∧ (spec b cs [] cs.length zeroS).change = 0 := by
  have hx := spec_exact hb h cs.length (Nat.le_refl _)
  rw [Nat.sub_self, List.take_zero] at hx
  exact ⟨hx.1, hx.2.1⟩
/-- the table whose cells are replaced by multiples -/
def multOf (b : Int) (cs : List (List Int)) : List (List Int) := cs.map fun r => r.map fun x => x - x % b
theorem mult_of (b : Int) (cs : List (List Int)) : Mult b (multOf b cs) := by
  intro r hr x hx
  obtain ⟨r0, _, rfl⟩ := List.mem_map.1 hr
  obtain ⟨x0, _, rfl⟩ := List.mem_map.1 hx
  rw [Int.sub_emod, Int.emod_emod, Int.sub_self]; rfl
theorem chk_exact {b : Int} {cs : List (List Int)} {fs : List Fx} (h : chkE b cs fs = 0) : chkE b (multOf b cs) [] = 0 := by
  have ok := chk_ok h
  have hlen : (multOf b cs).length = cs.length := by simp [multOf]
  have hcols : colsOf (multOf b cs) = colsOf cs := by
    cases cs with
    | nil => rfl
    | cons r cs => simp [multOf, colsOf]
  have hrow : ∀ r ∈ multOf b cs, r.length = colsOf cs ∧ ∀ x ∈ r, 0 ≤ x ∧ x ≤ 10000 := by
    intro r hr
    obtain ⟨r0, h0, rfl⟩ := List.mem_map.1 hr
    refine ⟨by rw [List.length_map]; exact ok.okc.row r0 h0, fun x hx => ?_⟩
    obtain ⟨x0, hx0, rfl⟩ := List.mem_map.1 hx
    have hc := ok.okc.cell r0 h0 x0 hx0
    have h1 := Int.emod_nonneg x0 (show b ≠ 0 by have := ok.okc.b1; omega)
    have h2 := Int.mul_ediv_add_emod x0 b
    have h3 := Int.mul_nonneg (show 0 ≤ b by have := ok.okc.b1; omega) (Int.ediv_nonneg hc.1 (show 0 ≤ b by have := ok.okc.b1; omega))
    omega
  refine chk_fine ⟨by rw [hlen]; exact ok.okc.n2, by simp, fun xs hx => by rw [(hrow xs hx).1]; exact ok.okc.c2⟩ (by have := ok.okc.b1; have := ok.okc.b2; simp [withinB]; omega) (by rw [hcols]; have := ok.okc.c1; omega) (fun xs hx => ?_) (fun f hf => by simp at hf)
  unfold rowB
  rw [Bool.and_eq_true]
  refine ⟨by rw [(hrow xs hx).1, hcols]; simp, List.all_eq_true.2 fun x hx' => ?_⟩
  have := (hrow xs hx).2 x hx'
  simp [withinB]; omega
end Go.Proofs.YtlnamjhgbdacbaaGreat
/- All roundings of a table, in order; what the search finds is the first best of them. -/
namespace Go.Proofs.YtlnamjhgbdacbaaGreat

/-- x is the first of the smallest -/
def Best {α : Type} (R : List α) (c : α → Int) (x : α) : Prop := ∃ P Q, R = P ++ x :: Q ∧ (∀ y ∈ P, c x < c y) ∧ (∀ y ∈ Q, c x ≤ c y)
section
variable {α β : Type} {R S : List α} {c : α → Int} {x y : α}
theorem Best.mem (h : Best R c x) : x ∈ R := by
  obtain ⟨P, Q, rfl, _, _⟩ := h
  simp
theorem Best.le (h : Best R c x) (hy : y ∈ R) : c x ≤ c y := by
  obtain ⟨P, Q, rfl, hp, hq⟩ := h
  rcases List.mem_append.1 hy with hy | hy
  · exact Int.le_of_lt (hp y hy)
  · rcases List.mem_cons.1 hy with rfl | hy
    · exact Int.le_refl _
    · exact hq y hy
theorem Best.left (h : Best R c x) (hs : ∀ y ∈ S, c x ≤ c y) : Best (R ++ S) c x := by
  obtain ⟨P, Q, rfl, hp, hq⟩ := h
  refine ⟨P, Q ++ S, by simp, hp, fun y hy => ?_⟩
  rcases List.mem_append.1 hy with hy | hy
  · exact hq y hy
  · exact hs y hy
theorem Best.right (h : Best S c x) (hs : ∀ y ∈ R, c x < c y) : Best (R ++ S) c x := by
  obtain ⟨P, Q, rfl, hp, hq⟩ := h
  refine ⟨R ++ P, Q, by simp, fun y hy => ?_, hq⟩
  rcases List.mem_append.1 hy with hy | hy
  · exact hs y hy
  · exact hp y hy
theorem Best.map (h : Best R c x) (f : α → β) (c' : β → Int) (d : Int) (hf : ∀ y, c' (f y) = c y + d) : Best (R.map f) c' (f x) := by
  obtain ⟨P, Q, rfl, hp, hq⟩ := h
  refine ⟨P.map f, Q.map f, by simp, fun y hy => ?_, fun y hy => ?_⟩
  · obtain ⟨z, hz, rfl⟩ := List.mem_map.1 hy
    have := hp z hz
    rw [hf, hf]; omega
  · obtain ⟨z, hz, rfl⟩ := List.mem_map.1 hy
    have := hq z hz
    rw [hf, hf]; omega
/-- the first best one among those that come in order -/
theorem Best.after {r : α → α → Prop} (h : Best R c x) (hp : R.Pairwise r) (hy : y ∈ R) (hc : c y ≤ c x) : y = x ∨ r x y := by
  obtain ⟨P, Q, rfl, h1, h2⟩ := h
  rcases List.mem_append.1 hy with hy | hy
  · have := h1 y hy; omega
  · rcases List.mem_cons.1 hy with rfl | hy
    · exact .inl rfl
    · exact .inr ((List.pairwise_cons.1 (List.pairwise_append.1 hp).2.1).1 y hy)
theorem Best.unique (h : Best R c x) (k : Best R c y) : x = y := by
  obtain ⟨P, Q, e, h1, h2⟩ := h
  obtain ⟨P', Q', e', k1, k2⟩ := k
  have g1 : R[P.length]? = some x := by rw [e]; simp
  have g2 : R[P'.length]? = some y := by rw [e']; simp
  rcases Nat.lt_trichotomy P.length P'.length with hl | hl | hl
  · have : x ∈ P' := by
      rw [e', List.getElem?_append_left hl] at g1
      exact List.mem_of_getElem? g1
    have := k1 x this
    have hq : y ∈ Q := by
      rw [e, List.getElem?_append_right (by omega)] at g2
      obtain ⟨m, hm⟩ : ∃ m, P'.length - P.length = m + 1 := ⟨P'.length - P.length - 1, by omega⟩
      rw [hm, List.getElem?_cons_succ] at g2
      exact List.mem_of_getElem? g2
    have := h2 y hq
    omega
  · rw [hl] at g1; rw [g1] at g2; exact Option.some.inj g2
  · have : y ∈ P := by
      rw [e, List.getElem?_append_left hl] at g2
      exact List.mem_of_getElem? g2
    have := h1 y this
    have hq : x ∈ Q' := by
      rw [e', List.getElem?_append_right (by omega)] at g1
      obtain ⟨m, hm⟩ : ∃ m, P.length - P'.length = m + 1 := ⟨P.length - P'.length - 1, by omega⟩
      rw [hm, List.getElem?_cons_succ] at g1
      exact List.mem_of_getElem? g1
    have := k2 x hq
    omega
end

/-- all roundings from a spot on -/
def rnds (b : Int) (cs : List (List Int)) (fs : List Fx) : Nat → S4 → List (List (List Int))
  | 0, s => if closesB b cs s then [[]] else []
  | k + 1, s => (outsAt b cs fs (k + 1)).flatMap fun l => (rnds b cs fs k (plusS s l)).map (l :: ·)
def costK (cs : List (List Int)) : Nat → List (List Int) → Int
  | k + 1, l :: ls => costK cs k ls + rowCost l (rowAt cs (k + 1))
  | _, _ => 0

def Inv (c' : List (List Int) → Int) (bst : List Int → List (List Int)) (acc : Rst) (R : List (List (List Int))) : Prop :=
  acc.ways = R.length ∧ (R ≠ [] → Best R c' (acc.first :: bst acc.first) ∧ acc.change = c' (acc.first :: bst acc.first))
theorem fold_rnds (cells : List Int) (g : List Int → Rst) (S : List Int → List (List (List Int))) (bst : List Int → List (List Int)) (c c' : List (List Int) → Int)
    (hg : ∀ l, (g l).ways = (S l).length ∧ (S l ≠ [] → Best (S l) c (bst l) ∧ (g l).change = c (bst l)))
    (hc : ∀ l y, c' (l :: y) = c y + rowCost l cells) :
    ∀ (L : List (List Int)) (acc : Rst) (R : List (List (List Int))), Inv c' bst acc R → Inv c' bst (L.foldl (fun acc l => stepR cells (g l) acc l) acc) (R ++ L.flatMap fun l => (S l).map (l :: ·))
  | [], acc, R, h => by simpa using h
  | l :: L, acc, R, h => by
    rw [List.foldl_cons, List.flatMap_cons, ← List.append_assoc]
    refine fold_rnds cells g S bst c c' hg hc L _ _ ?_
    obtain ⟨h1, h2⟩ := h
    obtain ⟨g1, g2⟩ := hg l
    unfold stepR
    by_cases hS : S l = []
    · have : (g l).ways = 0 := by rw [g1, hS]; rfl
      rw [if_pos (by simpa using this), hS]
      simpa [Inv] using ⟨h1, h2⟩
    · have hp : 0 < (S l).length := List.length_pos_iff.2 hS
      have hw : ¬ ((g l).ways == 0) = true := by simp; omega
      obtain ⟨b1, b2⟩ := g2 hS
      have b3 := b1.map (l :: ·) c' (rowCost l cells) (fun y => hc l y)
      rw [if_neg hw]
      have hlen : acc.ways + (g l).ways = ((R ++ (S l).map (l :: ·)).length : Nat) := by rw [h1, g1]; simp
      by_cases hR : R = []
      · have : acc.ways = 0 := by rw [h1, hR]; rfl
        rw [if_pos (by simp [this])]
        refine ⟨hlen, fun _ => ?_⟩
        subst hR
        rw [List.nil_append]
        exact ⟨b3, by show (g l).change + rowCost l cells = _; rw [hc, b2]⟩
      · have hRp : 0 < R.length := List.length_pos_iff.2 hR
        obtain ⟨a1, a2⟩ := h2 hR
        by_cases hlt : (g l).change + rowCost l cells < acc.change
        · rw [if_pos (by simp [hlt])]
          refine ⟨hlen, fun _ => ⟨b3.right fun y hy => ?_, by show (g l).change + rowCost l cells = _; rw [hc, b2]⟩⟩
          have := a1.le hy
          show c' (l :: bst l) < c' y
          rw [hc, ← b2]; omega
        · rw [if_neg (by simp; omega)]
          refine ⟨hlen, fun _ => ⟨a1.left fun y hy => ?_, a2⟩⟩
          have := b3.le hy
          have e : c' (l :: bst l) = c (bst l) + rowCost l cells := hc l _
          show c' (acc.first :: bst acc.first) ≤ c' y
          omega

/-- what the search knows of a spot -/
theorem spec_rnds (b : Int) (cs : List (List Int)) (fs : List Fx) : ∀ (k : Nat) (s : S4), (spec b cs fs k s).ways = (rnds b cs fs k s).length ∧
    (rnds b cs fs k s ≠ [] → Best (rnds b cs fs k s) (costK cs k) (bestOf b cs fs k s) ∧ (spec b cs fs k s).change = costK cs k (bestOf b cs fs k s))
  | 0, s => by
    unfold spec rnds
    by_cases h : closesB b cs s = true
    · rw [if_pos h, if_pos h]
      exact ⟨rfl, fun _ => ⟨⟨[], [], rfl, by simp, by simp⟩, rfl⟩⟩
    · rw [if_neg h, if_neg h]
      exact ⟨rfl, fun h => absurd rfl h⟩
  | k + 1, s => by
    have := fold_rnds (rowAt cs (k + 1)) (fun l => spec b cs fs k (plusS s l)) (fun l => rnds b cs fs k (plusS s l)) (fun l => bestOf b cs fs k (plusS s l)) (costK cs k) (costK cs (k + 1))
      (fun l => spec_rnds b cs fs k (plusS s l)) (fun l y => rfl) (outsAt b cs fs (k + 1)) ⟨0, 0, []⟩ [] ⟨rfl, fun h => absurd rfl h⟩
    rw [List.nil_append] at this
    exact this

theorem cands_mem {b : Int} : ∀ {xs l : List Int}, l ∈ cands b xs ↔ l.length = xs.length ∧ ∀ (i : Nat) (x y : Int), xs[i]? = some x → l[i]? = some y → nearB b y x = true
  | [], l => by
    simp only [cands, List.mem_singleton]
    exact ⟨fun h => by subst h; exact ⟨rfl, (fun i x y hx _ => by simp at hx)⟩, fun h => List.eq_nil_of_length_eq_zero h.1⟩
  | n :: ns, l => by
    have ih := fun l' => cands_mem (b := b) (xs := ns) (l := l')
    simp only [cands, List.mem_append, List.mem_map]
    constructor
    · intro h
      have : ∃ v l', (v = lowOf b n ∨ v = highOf b n) ∧ l' ∈ cands b ns ∧ v :: l' = l := by
        rcases h with ⟨l', h', rfl⟩ | h
        · exact ⟨_, l', .inl rfl, h', rfl⟩
        · split at h
          · cases h
          · obtain ⟨l', h', rfl⟩ := List.mem_map.1 h
            exact ⟨_, l', .inr rfl, h', rfl⟩
      obtain ⟨v, l', hv, hl, rfl⟩ := this
      obtain ⟨h1, h2⟩ := (ih l').1 hl
      refine ⟨by simp [h1], fun i x y hx hy => ?_⟩
      cases i with
      | zero =>
        simp at hx hy
        subst hx hy
        unfold nearB
        rcases hv with rfl | rfl <;> simp
      | succ i => exact h2 i x y (by simpa using hx) (by simpa using hy)
    · rintro ⟨h1, h2⟩
      cases l with
      | nil => simp at h1
      | cons v l' =>
        have hl : l' ∈ cands b ns := (ih l').2 ⟨by simpa using h1, fun i x y hx hy => h2 (i + 1) x y (by simpa using hx) (by simpa using hy)⟩
        have hv := h2 0 n v rfl rfl
        unfold nearB at hv
        simp only [Bool.or_eq_true, beq_iff_eq] at hv
        by_cases he : lowOf b n = v
        · exact .inl ⟨l', hl, by rw [he]⟩
        · have he2 : highOf b n = v := hv.resolve_left he
          refine .inr ?_
          rw [if_neg (by rw [he2]; simpa using he)]
          exact List.mem_map.2 ⟨l', hl, by rw [he2]⟩
theorem outs_iff {b : Int} {cells : List Int} {fs : List Fx} {row : Int} {l : List Int} : l ∈ outs b cells fs row [] cells ↔ l ∈ cands b cells ∧ testB b cells fs row l = true := by
  unfold outs
  rw [List.mem_filter]
  simp
theorem rnds_mem {b : Int} {cs : List (List Int)} {fs : List Fx} : ∀ {k : Nat} {s : S4} {x : List (List Int)}, x ∈ rnds b cs fs k s ↔ x.length = k ∧ (∀ (i : Nat) (l : List Int), x[i]? = some l → l ∈ outsAt b cs fs (k - i)) ∧ closesB b cs (x.foldl plusS s) = true
  | 0, s, x => by
    unfold rnds
    by_cases h : closesB b cs s = true
    · rw [if_pos h, List.mem_singleton]
      exact ⟨fun e => by subst e; exact ⟨rfl, (fun i l hl => by simp at hl), h⟩, fun e => List.eq_nil_of_length_eq_zero e.1⟩
    · rw [if_neg h]
      refine ⟨(fun e => by cases e), fun e => ?_⟩
      have := List.eq_nil_of_length_eq_zero e.1
      subst this
      exact absurd e.2.2 h
  | k + 1, s, x => by
    unfold rnds
    simp only [List.mem_flatMap, List.mem_map]
    constructor
    · rintro ⟨l, hl, y, hy, rfl⟩
      obtain ⟨h1, h2, h3⟩ := rnds_mem.1 hy
      refine ⟨by simp [h1], fun i l' hl' => ?_, h3⟩
      cases i with
      | zero => simp at hl'; subst hl'; exact hl
      | succ i =>
        have := h2 i l' (by simpa using hl')
        rwa [show k + 1 - (i + 1) = k - i by omega]
    · rintro ⟨h1, h2, h3⟩
      cases x with
      | nil => simp at h1
      | cons l y =>
        refine ⟨l, h2 0 l rfl, y, rnds_mem.2 ⟨by simpa using h1, fun i l' hl' => ?_, h3⟩, rfl⟩
        have := h2 (i + 1) l' (by simpa using hl')
        rwa [show k + 1 - (i + 1) = k - i by omega] at this

/-- a table of numbers is a rounding -/
structure IsR (b : Int) (cs : List (List Int)) (fs : List Fx) (x : List (List Int)) : Prop where
  len : x.length = cs.length
  row : ∀ (i : Nat) (cells l : List Int), cs[i]? = some cells → x[i]? = some l → l ∈ cands b cells ∧ testB b cells fs i l = true
  close : closesB b cs (addedS x) = true
theorem outsAt_at {b : Int} {cs : List (List Int)} {fs : List Fx} {i : Nat} {cells l : List Int} (hc : cs[i]? = some cells) : l ∈ outsAt b cs fs (cs.length - i) ↔ l ∈ cands b cells ∧ testB b cells fs i l = true := by
  have hi := (List.getElem?_eq_some_iff.1 hc).1
  unfold outsAt rowAt
  rw [show cs.length - (cs.length - i) = i by omega, List.getD, hc]
  exact outs_iff
theorem rnds_isR {b : Int} {cs : List (List Int)} {fs : List Fx} {x : List (List Int)} : x ∈ rnds b cs fs cs.length zeroS ↔ IsR b cs fs x := by
  rw [rnds_mem]
  constructor
  · rintro ⟨h1, h2, h3⟩
    exact ⟨h1, fun i cells l hc hl => (outsAt_at hc).1 (h2 i l hl), h3⟩
  · rintro ⟨h1, h2, h3⟩
    refine ⟨h1, fun i l hl => ?_, h3⟩
    have hi := (List.getElem?_eq_some_iff.1 hl).1
    have hc := List.getElem?_eq_getElem (l := cs) (i := i) (by omega)
    exact (outsAt_at hc).2 (h2 i _ l hc hl)
theorem costK_sum {cs : List (List Int)} : ∀ {k : Nat} {x : List (List Int)}, x.length = k → k ≤ cs.length → costK cs k x = ((List.range k).map fun i => rowCost (x.getD i []) (cs.getD (cs.length - k + i) [])).sum
  | 0, x, _, _ => by cases x <;> rfl
  | k + 1, [], h, _ => by simp at h
  | k + 1, l :: ls, h, hk => by
    rw [costK, costK_sum (k := k) (by simpa using h) (by omega), List.range_succ_eq_map, List.map_cons, List.sum_cons, List.map_map, Int.add_comm]
    congr 1
    congr 1
    apply List.map_congr_left
    intro i _
    show _ = rowCost ((l :: ls).getD (i + 1) []) (cs.getD (cs.length - (k + 1) + (i + 1)) [])
    rw [show cs.length - (k + 1) + (i + 1) = cs.length - k + i by omega, List.getD_cons_succ]
theorem costK_change {cs x : List (List Int)} (h : x.length = cs.length) : costK cs cs.length x = changeOf x cs := by
  rw [costK_sum h (Nat.le_refl _)]
  unfold changeOf chgTo
  rw [h]
  congr 1
  apply List.map_congr_left
  intro i _
  rw [show cs.length - cs.length + i = i by omega]

/-- smaller at the first place where they differ -/
def ltL : List Int → List Int → Bool
  | x :: a, y :: b => decide (x < y) || (x == y && ltL a b)
  | _, _ => false
def ltT : List (List Int) → List (List Int) → Bool
  | x :: a, y :: b => ltL x y || (x == y && ltT a b)
  | _, _ => false
theorem ltL_asymm : ∀ {a b : List Int}, ltL a b = true → ltL b a = false
  | [], _, h => by simp [ltL] at h
  | _ :: _, [], h => by simp [ltL] at h
  | x :: a, y :: b, h => by
    simp only [ltL, Bool.or_eq_true, decide_eq_true_eq, Bool.and_eq_true, beq_iff_eq] at h
    simp only [ltL, Bool.or_eq_false_iff, decide_eq_false_iff_not, Bool.and_eq_false_iff]
    rcases h with h | ⟨rfl, h⟩
    · exact ⟨by omega, .inl (by simp; omega)⟩
    · exact ⟨by omega, .inr (ltL_asymm h)⟩
theorem ltL_irrefl : ∀ (a : List Int), ltL a a = false
  | [] => rfl
  | x :: a => by simp [ltL, ltL_irrefl a]
theorem ltT_irrefl : ∀ (a : List (List Int)), ltT a a = false
  | [] => rfl
  | x :: a => by simp [ltT, ltT_irrefl a, ltL_irrefl x]
theorem ltT_asymm : ∀ {a b : List (List Int)}, ltT a b = true → ltT b a = false
  | [], _, h => by simp [ltT] at h
  | _ :: _, [], h => by simp [ltT] at h
  | x :: a, y :: b, h => by
    simp only [ltT, Bool.or_eq_true, Bool.and_eq_true, beq_iff_eq] at h
    simp only [ltT, Bool.or_eq_false_iff, Bool.and_eq_false_iff]
    rcases h with h | ⟨rfl, h⟩
    · refine ⟨ltL_asymm h, .inl ?_⟩
      cases he : (y == x)
      · rfl
      · have := beq_iff_eq.1 he
        subst this
        rw [ltL_irrefl] at h; cases h
    · exact ⟨ltL_irrefl x, .inr (ltT_asymm h)⟩
theorem cands_sorted {b : Int} (hb : 2 ≤ b) : ∀ (xs : List Int), (cands b xs).Pairwise fun a c => ltL a c = true
  | [] => by simp [cands]
  | n :: ns => by
    have ih := cands_sorted hb ns
    simp only [cands]
    refine List.pairwise_append.2 ⟨List.pairwise_map.2 (ih.imp fun h => by simp [ltL, h]), ?_, ?_⟩
    · split
      · exact List.Pairwise.nil
      · exact List.pairwise_map.2 (ih.imp fun h => by simp [ltL, h])
    · intro a ha c hc
      obtain ⟨a', _, rfl⟩ := List.mem_map.1 ha
      split at hc
      · cases hc
      · rename_i hne
        obtain ⟨c', _, rfl⟩ := List.mem_map.1 hc
        have h1 := Int.emod_nonneg n (show b ≠ 0 by omega)
        have h2 := Int.emod_nonneg (n + b - 1) (show b ≠ 0 by omega)
        have h3 := Int.emod_lt_of_pos (n + b - 1) (show 0 < b by omega)
        have h4 : lowOf b n ≠ highOf b n := by simpa using hne
        have h5 : highOf b n = n + b - 1 - (n + b - 1) % b := rfl
        have h6 : lowOf b n = n - n % b := rfl
        have : lowOf b n < highOf b n := by omega
        simp [ltL, this]
theorem outsAt_sorted {b : Int} (hb : 2 ≤ b) (cs : List (List Int)) (fs : List Fx) (k : Nat) : (outsAt b cs fs k).Pairwise fun a c => ltL a c = true := by
  unfold outsAt outs
  refine List.Pairwise.filter _ ?_
  rw [show (([] : List Int) ++ ·) = id from rfl, List.map_id]
  exact cands_sorted hb _
theorem rnds_sorted {b : Int} (hb : 2 ≤ b) (cs : List (List Int)) (fs : List Fx) : ∀ (k : Nat) (s : S4), (rnds b cs fs k s).Pairwise fun a c => ltT a c = true
  | 0, s => by
    unfold rnds
    split <;> simp
  | k + 1, s => by
    unfold rnds
    refine List.pairwise_flatMap.2 ⟨fun l _ => List.pairwise_map.2 ((rnds_sorted hb cs fs k _).imp fun h => by simp [ltT, h]), ?_⟩
    refine (outsAt_sorted hb cs fs (k + 1)).imp fun h x hx y hy => ?_
    obtain ⟨x', _, rfl⟩ := List.mem_map.1 hx
    obtain ⟨y', _, rfl⟩ := List.mem_map.1 hy
    simp [ltT, h]
theorem rnds_nodup {b : Int} (hb : 2 ≤ b) (cs : List (List Int)) (fs : List Fx) (k : Nat) (s : S4) : (rnds b cs fs k s).Nodup :=
  (rnds_sorted hb cs fs k s).imp fun h e => by subst e; rw [ltT_irrefl] at h; cases h
/-- the neighbours by the reference's words -/
def nbrM (b n o : Int) : Bool := n % b == 0 && decide (1 - b ≤ n - o ∧ n - o ≤ b - 1)
theorem near_nbr {b n o : Int} (hb : 2 ≤ b) : nearB b n o = nbrM b n o := by
  have h1 := low_near (x := o) hb
  have h2 := high_near (x := o) hb
  have e1 : lowOf b o = o - o % b := rfl
  have e2 : highOf b o = o + b - 1 - (o + b - 1) % b := rfl
  have m1 := Int.emod_nonneg o (show b ≠ 0 by omega)
  have m2 := Int.emod_lt_of_pos o (show 0 < b by omega)
  have m3 := Int.emod_nonneg (o + b - 1) (show b ≠ 0 by omega)
  have m4 := Int.emod_lt_of_pos (o + b - 1) (show 0 < b by omega)
  rw [Bool.eq_iff_iff]
  unfold nearB nbrM
  simp only [Bool.or_eq_true, beq_iff_eq, Bool.and_eq_true, decide_eq_true_eq]
  constructor
  · rintro (h | h) <;> subst h
    · exact h1
    · exact h2
  · rintro ⟨h3, h4, h5⟩
    by_cases hle : n ≤ o
    · left
      have : (lowOf b o - n) % b = 0 := by rw [Int.sub_emod, h1.1, h3]; rfl
      obtain ⟨q, hq⟩ := Int.dvd_of_emod_eq_zero this
      have : q < 1 := by
        refine Int.lt_of_mul_lt_mul_left (a := b) ?_ (by omega)
        omega
      have : -1 < q := by
        refine Int.lt_of_mul_lt_mul_left (a := b) ?_ (by omega)
        omega
      have : q = 0 := by omega
      subst this
      omega
    · right
      have : (highOf b o - n) % b = 0 := by rw [Int.sub_emod, h2.1, h3]; rfl
      obtain ⟨q, hq⟩ := Int.dvd_of_emod_eq_zero this
      have : q < 1 := by
        refine Int.lt_of_mul_lt_mul_left (a := b) ?_ (by omega)
        omega
      have : -1 < q := by
        refine Int.lt_of_mul_lt_mul_left (a := b) ?_ (by omega)
        omega
      have : q = 0 := by omega
      subst this
      omega
end Go.Proofs.YtlnamjhgbdacbaaGreat
/- The reference's test of a rounding. -/
namespace Go.Proofs.YtlnamjhgbdacbaaGreat
open Go.RowKit Go.Shelf

theorem nbr_near {b n o : Int} (hb : 2 ≤ b) : nbrB b n o = nearB b n o := by
  rw [near_nbr hb, Bool.eq_iff_iff]
  unfold nbrB nbrM withinB
  simp only [Bool.and_eq_true, beq_iff_eq, decide_eq_true_eq]
  have : n.tmod b = 0 ↔ n % b = 0 := ⟨fun h => Int.emod_eq_zero_of_dvd (Int.dvd_of_tmod_eq_zero h), fun h => Int.tmod_eq_zero_of_dvd (Int.dvd_of_emod_eq_zero h)⟩
  rw [this]
def allTo (f : Nat → Bool) (k : Nat) : Bool := (List.range k).all f
theorem allTo_succ (f : Nat → Bool) (k : Nat) : allTo f (k + 1) = (allTo f k && f k) := by simp [allTo, List.range_succ]
theorem allTo_false {f : Nat → Bool} {k m : Nat} (h : k < m) (hk : f k = false) : allTo f m = false := by
  unfold allTo
  rw [List.all_eq_false]
  exact ⟨k, List.mem_range.2 h, by rw [hk]; simp⟩
theorem allTo_iff {f : Nat → Bool} {m : Nat} : allTo f m = true ↔ ∀ k, k < m → f k = true := by
  unfold allTo
  rw [List.all_eq_true]
  exact ⟨fun h k hk => h k (List.mem_range.2 hk), fun h k hk => h k (List.mem_range.1 hk)⟩
def cellN (b : Int) (l cs : List (List Int)) (i : Nat) : Bool := nearRow b (l.getD i []) (cs.getD i []) (l.getD i []).length
def rowN (b : Int) (l cs : List (List Int)) (i : Nat) : Bool := nearB b (l.getD i []).sum (cs.getD i []).sum
def colN (b : Int) (l cs : List (List Int)) (n i : Nat) : Bool := nearB b (colTo l n i) (colTo cs n i)
def isrB (b : Int) (cs : List (List Int)) (fs : List Fx) (l : List (List Int)) : Bool :=
  rholdB fs l && (allTo (cellN b l cs) l.length && (allTo (rowN b l cs) l.length && (allTo (colN b l cs l.length) (colsOf cs) && nearB b (totTo l l.length) (totTo cs l.length))))
theorem chk_fix_of {b : Int} {cs : List (List Int)} {fs : List Fx} (h : chkE b cs fs = 0) : ∀ f ∈ fs, 0 ≤ f.row ∧ f.row < cs.length ∧ 0 ≤ f.col ∧ f.col < colsOf cs := by
  unfold chkE at h
  split at h
  · cases h
  · split at h
    · cases h
    · rename_i h2
      simp only [Bool.or_eq_true, Bool.not_eq_true', not_or, Bool.not_eq_false] at h2
      intro f hf
      have := List.all_eq_true.1 h2.2 f hf
      simp only [fixOkB, withinB, Bool.and_eq_true, decide_eq_true_eq] at this
      omega

end Go.Proofs.YtlnamjhgbdacbaaGreat
/- The program's test of a rounding and the reference's are one. -/
namespace Go.Proofs.YtlnamjhgbdacbaaGreat

theorem comp_plus {s : S4} {xs : List Int} {i : Nat} (hi : i < 4) : comp (plusS s xs) i = comp s i + xs.getD i 0 := by
  have : i = 0 ∨ i = 1 ∨ i = 2 ∨ i = 3 := by omega
  rcases this with rfl | rfl | rfl | rfl <;> rfl
theorem comp_added (l : List (List Int)) {i : Nat} (hi : i < 4) : ∀ k, k ≤ l.length → comp (addedS (l.take k)) i = colTo l k i
  | 0, _ => by
    have : i = 0 ∨ i = 1 ∨ i = 2 ∨ i = 3 := by omega
    rcases this with rfl | rfl | rfl | rfl <;> rfl
  | k + 1, hk => by
    rw [added_succ l k (by omega), comp_plus hi, comp_added l hi k (by omega), colTo_succ, show l.getD k [] = l[k] by rw [List.getD, List.getElem?_eq_getElem (by omega)]; rfl]
theorem sum_four : ∀ (xs : List Int), xs.length ≤ 4 → xs.sum = xs.getD 0 0 + xs.getD 1 0 + xs.getD 2 0 + xs.getD 3 0
  | [], _ => rfl
  | [a], _ => by simp
  | [a, b], _ => by simp
  | [a, b, c], _ => by simp [List.getD]; try omega
  | [a, b, c, d], _ => by simp [List.getD]; try omega
  | a :: b :: c :: d :: e :: l, h => by simp at h
theorem sumS_plus (s : S4) {xs : List Int} (h : xs.length ≤ 4) : sumS (plusS s xs) = sumS s + xs.sum := by
  rw [sum_four xs h]
  simp [sumS, plusS]; omega
theorem sumS_added {l : List (List Int)} (h : ∀ r ∈ l, r.length ≤ 4) : ∀ k, k ≤ l.length → sumS (addedS (l.take k)) = totTo l k
  | 0, _ => rfl
  | k + 1, hk => by
    have hm := h (l[k]'(by omega)) (List.getElem_mem _)
    rw [added_succ l k (by omega), sumS_plus _ hm, sumS_added h k (by omega), totTo_succ, show l.getD k [] = l[k] by rw [List.getD, List.getElem?_eq_getElem (by omega)]; rfl]
theorem closes_all {b : Int} {cs l : List (List Int)} (h1 : ∀ r ∈ cs, r.length = colsOf cs) (h2 : ∀ r ∈ l, r.length = colsOf cs) (hc : colsOf cs ≤ 4) :
    closesB b cs (addedS l) = ((List.range (colsOf cs)).all (fun i => nearB b (colTo l l.length i) (colTo cs cs.length i)) && nearB b (totTo l l.length) (totTo cs cs.length)) := by
  have e1 := sumS_added (l := l) (fun r hr => by rw [h2 r hr]; exact hc) l.length (Nat.le_refl _)
  have e2 := sumS_added (l := cs) (fun r hr => by rw [h1 r hr]; exact hc) cs.length (Nat.le_refl _)
  rw [List.take_length] at e1 e2
  unfold closesB closesTo
  rw [e1, e2]
  congr 1
  rw [Bool.eq_iff_iff, List.all_eq_true, List.all_eq_true]
  have key : ∀ i, i ∈ List.range (colsOf cs) → comp (addedS l) i = colTo l l.length i ∧ comp (addedS cs) i = colTo cs cs.length i := fun i hi => by
    have hi4 : i < 4 := by have := List.mem_range.1 hi; omega
    have g1 := comp_added l hi4 l.length (Nat.le_refl _)
    have g2 := comp_added cs hi4 cs.length (Nat.le_refl _)
    rw [List.take_length] at g1 g2
    exact ⟨g1, g2⟩
  constructor
  · intro h i hi
    have := h i hi
    rwa [(key i hi).1, (key i hi).2] at this
  · intro h i hi
    rw [(key i hi).1, (key i hi).2]
    exact h i hi
theorem nearRow_cands {b : Int} {xs ys : List Int} (hl : xs.length = ys.length) : nearRow b xs ys xs.length = true ↔ xs ∈ cands b ys := by
  rw [cands_mem]
  unfold nearRow
  rw [List.all_eq_true]
  constructor
  · refine fun h => ⟨hl, fun i x y hx hy => ?_⟩
    have := h i (List.mem_range.2 (List.getElem?_eq_some_iff.1 hy).1)
    rwa [List.getD, hy, List.getD, hx] at this
  · intro h i hi
    have hi := List.mem_range.1 hi
    have e1 := List.getElem?_eq_getElem hi
    have e2 := List.getElem?_eq_getElem (l := ys) (i := i) (by omega)
    rw [List.getD, e1, List.getD, e2]
    exact h.2 i _ _ e2 e1
theorem rowPr_iff {b : Int} {cs : List (List Int)} {fs : List Fx} {l : List (List Int)} {i : Nat} {cells xs : List Int} (hc : cs[i]? = some cells) (hx : l[i]? = some xs) (hl : xs.length = cells.length) :
    rowPr b cs fs l i = true ↔ xs ∈ cands b cells ∧ testB b cells fs i xs = true := by
  have e1 : l.getD i [] = xs := by rw [List.getD, hx]; rfl
  have e2 : cs.getD i [] = cells := by rw [List.getD, hc]; rfl
  unfold rowPr testB
  rw [e1, e2, Bool.and_eq_true, nearRow_cands hl]
/-- the middle of the program's test -/
theorem mid_isR {b : Int} {cs : List (List Int)} {fs : List Fx} {l : List (List Int)} (ok : TOk b cs fs) (hlen : l.length = cs.length) (hl : ∀ r ∈ l, r.length = colsOf cs) :
    (rowsPr b cs fs l l.length && closesB b cs (addedS l)) = true ↔ IsR b cs fs l := by
  rw [Bool.and_eq_true]
  unfold rowsPr
  rw [List.all_eq_true]
  constructor
  · rintro ⟨h1, h2⟩
    refine ⟨hlen, fun i cells xs hc hx => ?_, h2⟩
    have hx1 := hl xs (List.mem_of_getElem? hx)
    have hc1 := ok.okc.row cells (List.mem_of_getElem? hc)
    exact (rowPr_iff hc hx (by omega)).1 (h1 i (List.mem_range.2 (List.getElem?_eq_some_iff.1 hx).1))
  · rintro ⟨h1, h2, h3⟩
    refine ⟨fun i hi => ?_, h3⟩
    have hi := List.mem_range.1 hi
    have e1 := List.getElem?_eq_getElem (l := l) hi
    have e2 := List.getElem?_eq_getElem (l := cs) (i := i) (by omega)
    have hx1 := hl _ (List.mem_of_getElem? e1)
    have hc1 := ok.okc.row _ (List.mem_of_getElem? e2)
    exact (rowPr_iff e2 e1 (by omega)).2 (h2 i _ _ e2 e1)
theorem prove_iff {b : Int} {cs : List (List Int)} {fs : List Fx} {l : List (List Int)} {ch : Int} (hc : chkE b cs fs = 0) (ha : alikeB cs.length (colsOf cs) l = true) :
    proveB b cs fs l ch = true ↔ IsR b cs fs l ∧ changeOf l cs ≤ ch := by
  obtain ⟨h1, h2⟩ := alike_rows ha
  have := mid_isR (fs := fs) (chk_ok hc) h1 (fun r hr => (h2 r hr).1)
  unfold proveB
  rw [hc, ha]
  simp only [beq_self_eq_true, Bool.true_and]
  rw [← this, ← Bool.and_assoc, Bool.and_eq_true]
  simp
/-- a rounding has numbers that are allowed -/
theorem IsR.alike {b : Int} {cs : List (List Int)} {fs : List Fx} {l : List (List Int)} (ok : TOk b cs fs) (h : IsR b cs fs l) : alikeB cs.length (colsOf cs) l = true := by
  unfold alikeB
  rw [h.len, Bool.and_eq_true]
  refine ⟨by simp, List.all_eq_true.2 fun r hr => ?_⟩
  obtain ⟨i, hi, e⟩ := List.mem_iff_getElem.1 hr
  have hx : l[i]? = some r := by rw [List.getElem?_eq_getElem hi, e]
  have hlt : i < cs.length := by have := h.len; omega
  have hc := List.getElem?_eq_getElem hlt
  have hm := (h.row i _ _ hc hx).1
  have hlen := cands_len r hm
  have hb := cands_bound ok.okc.b1 ok.okc.b2 (ok.okc.cell _ (List.mem_of_getElem? hc)) r hm
  have hrow := ok.okc.row _ (List.mem_of_getElem? hc)
  unfold rowB
  rw [Bool.and_eq_true]
  refine ⟨by simp; omega, List.all_eq_true.2 fun x hx => ?_⟩
  have := hb x hx
  simp [withinB]; omega
theorem holds_split {fs : List Fx} {l : List (List Int)} (hf : ∀ f ∈ fs, 0 ≤ f.row ∧ f.row < l.length) : rholdB fs l = true ↔ ∀ (i : Nat) (xs : List Int), l[i]? = some xs → holdsB fs i xs = true := by
  unfold rholdB holdsB
  rw [List.all_eq_true]
  constructor
  · intro h i xs hx
    rw [List.all_eq_true]
    intro f hm
    have h1 := h f hm
    unfold holdF at h1
    unfold fixB
    by_cases he : f.row = (i : Int)
    · have e : l.getD i [] = xs := by rw [List.getD, hx]; rfl
      rw [he, Int.toNat_natCast, e] at h1
      rw [beq_iff_eq] at h1
      rw [h1]
      simp
    · have : (f.row == (i : Int)) = false := by simpa using he
      rw [this]; rfl
  · intro h f hm
    obtain ⟨h1, h2⟩ := hf f hm
    obtain ⟨i, hi⟩ := Int.eq_ofNat_of_zero_le h1
    have hx := List.getElem?_eq_getElem (l := l) (i := i) (by omega)
    have h3 := List.all_eq_true.1 (h i _ hx) f hm
    unfold fixB at h3
    unfold holdF
    have e : l.getD i [] = l[i]'(by omega) := by rw [List.getD, hx]; rfl
    rw [hi, Int.toNat_natCast, e]
    rw [hi] at h3
    simpa using h3
theorem isr_iff {b : Int} {cs : List (List Int)} {fs : List Fx} {l : List (List Int)} (hc : chkE b cs fs = 0) (ha : alikeB cs.length (colsOf cs) l = true) : isrB b cs fs l = true ↔ IsR b cs fs l := by
  obtain ⟨h1, h2⟩ := alike_rows ha
  have ok := chk_ok hc
  have hf := chk_fix_of hc
  rw [← mid_isR (fs := fs) ok h1 (fun r hr => (h2 r hr).1)]
  unfold isrB
  simp only [Bool.and_eq_true]
  rw [closes_all ok.okc.row (fun r hr => (h2 r hr).1) ok.okc.c2, Bool.and_eq_true, holds_split (fun f hm => by have := hf f hm; omega)]
  unfold rowsPr
  rw [allTo_iff, allTo_iff, allTo_iff, List.all_eq_true, List.all_eq_true]
  constructor
  · rintro ⟨g1, g2, g3, g4, g5⟩
    refine ⟨fun i hi => ?_, fun i hi => ?_, by rw [← h1] at *; exact g5⟩
    · have hi := List.mem_range.1 hi
      unfold rowPr
      rw [Bool.and_eq_true, Bool.and_eq_true]
      refine ⟨g2 i hi, g3 i hi, ?_⟩
      have e := List.getElem?_eq_getElem hi
      rw [List.getD, e]
      exact g1 i _ e
    · have := g4 i (List.mem_range.1 hi)
      unfold colN at this
      rwa [h1] at this ⊢
  · rintro ⟨g1, g2, g3⟩
    have hr : ∀ i, i < l.length → cellN b l cs i = true ∧ rowN b l cs i = true ∧ holdsB fs i (l.getD i []) = true := fun i hi => by
      have := g1 i (List.mem_range.2 hi)
      unfold rowPr at this
      rw [Bool.and_eq_true, Bool.and_eq_true] at this
      exact this
    refine ⟨fun i xs hx => ?_, fun i hi => (hr i hi).1, fun i hi => (hr i hi).2.1, fun i hi => ?_, by rw [h1] at g3 ⊢; exact g3⟩
    · have := (hr i (List.getElem?_eq_some_iff.1 hx).1).2.2
      rwa [List.getD, hx] at this
    · have := g2 i (List.mem_range.2 hi)
      unfold colN
      rwa [h1] at this ⊢
end Go.Proofs.YtlnamjhgbdacbaaGreat
/- The reference's table of neighbours with a number, and the law's. -/
namespace Go.Proofs.YtlnamjhgbdacbaaGreat
open Go.RowKit Go.Shelf

def nthRow (b : Int) : List Int → Int → List Int × Int
  | [], q => ([], q)
  | x :: xs, q => ((lowOf b x + (if 0 < x % b then (nthRow b xs q).2 % 2 * b else 0)) :: (nthRow b xs q).1, if 0 < x % b then (nthRow b xs q).2 / 2 else (nthRow b xs q).2)
def nthT (b : Int) : List (List Int) → Int → List (List Int) × Int
  | [], q => ([], q)
  | x :: xs, q => ((nthRow b x (nthT b xs q).2).1 :: (nthT b xs q).1, (nthRow b x (nthT b xs q).2).2)
theorem nthRow_len (b : Int) : ∀ (xs : List Int) (q : Int), (nthRow b xs q).1.length = xs.length
  | [], _ => rfl
  | x :: xs, q => by simp [nthRow, nthRow_len b xs q]
theorem nthT_len (b : Int) : ∀ (xs : List (List Int)) (q : Int), (nthT b xs q).1.length = xs.length
  | [], _ => rfl
  | x :: xs, q => by simp [nthT, nthT_len b xs q]
theorem nthRow_nn (b : Int) : ∀ (xs : List Int) (q : Int), 0 ≤ q → 0 ≤ (nthRow b xs q).2 ∧ (nthRow b xs q).2 ≤ q
  | [], q, h => ⟨h, Int.le_refl _⟩
  | x :: xs, q, h => by
    have ih := nthRow_nn b xs q h
    simp only [nthRow]
    split
    · exact ⟨by omega, by omega⟩
    · exact ih
theorem nthT_nn (b : Int) : ∀ (xs : List (List Int)) (q : Int), 0 ≤ q → 0 ≤ (nthT b xs q).2 ∧ (nthT b xs q).2 ≤ q
  | [], q, h => ⟨h, Int.le_refl _⟩
  | x :: xs, q, h => by
    have ih := nthT_nn b xs q h
    have := nthRow_nn b x (nthT b xs q).2 ih.1
    simp only [nthT]
    omega
theorem nthRow_drop (b : Int) : ∀ (j : Nat) (xs : List Int) (q : Int), (nthRow b (xs.drop j) q).1 = (nthRow b xs q).1.drop j
  | 0, _, _ => rfl
  | j + 1, [], q => by simp [nthRow]
  | j + 1, x :: xs, q => by simp [nthRow, nthRow_drop b j xs q]
theorem nthT_drop (b : Int) : ∀ (j : Nat) (xs : List (List Int)) (q : Int), (nthT b (xs.drop j) q).1 = (nthT b xs q).1.drop j
  | 0, _, _ => rfl
  | j + 1, [], q => by simp [nthT]
  | j + 1, x :: xs, q => by simp [nthT, nthT_drop b j xs q]
theorem nthRow_at {b : Int} {xs : List Int} {q : Int} {c : Nat} {x : Int} (hx : xs[c]? = some x) :
    (nthRow b xs q).1.getD c 0 = lowOf b x + (if 0 < x % b then (nthRow b (xs.drop (c + 1)) q).2 % 2 * b else 0) ∧ (nthRow b (xs.drop c) q).2 = if 0 < x % b then (nthRow b (xs.drop (c + 1)) q).2 / 2 else (nthRow b (xs.drop (c + 1)) q).2 := by
  obtain ⟨hc, e⟩ := List.getElem?_eq_some_iff.1 hx
  have hd : xs.drop c = x :: xs.drop (c + 1) := by rw [List.drop_eq_getElem_cons hc, e]
  have h1 := nthRow_drop b c xs q
  have h2 : (nthRow b xs q).1.getD c 0 = ((nthRow b xs q).1.drop c).getD 0 0 := by simp [List.getD, List.getElem?_drop]
  rw [h2, ← h1, hd]
  exact ⟨rfl, rfl⟩
theorem nthT_at {b : Int} {cs : List (List Int)} {q : Int} {r : Nat} {x : List Int} (hx : cs[r]? = some x) :
    (nthT b cs q).1[r]? = some (nthRow b x (nthT b (cs.drop (r + 1)) q).2).1 ∧ (nthT b (cs.drop r) q).2 = (nthRow b x (nthT b (cs.drop (r + 1)) q).2).2 := by
  obtain ⟨hc, e⟩ := List.getElem?_eq_some_iff.1 hx
  have hd : cs.drop r = x :: cs.drop (r + 1) := by rw [List.drop_eq_getElem_cons hc, e]
  have h1 := nthT_drop b r cs q
  have h2 : (nthT b cs q).1[r]? = ((nthT b cs q).1.drop r)[0]? := by simp [List.getElem?_drop]
  rw [h2, ← h1, hd]
  exact ⟨rfl, rfl⟩

def rowsC (n : Nat) (f : Nat → Value) : Array Value := ((List.range n).map f).toArray
theorem rowsC_get {n : Nat} {f : Nat → Value} {i : Nat} (h : i < n) : (rowsC n f)[i]? = some (f i) := by simp [rowsC, h]
theorem rowsC_set {n k : Nat} {f f' : Nat → Value} {v : Value} (hv : v = f' k) (h : ∀ i, i < n → i ≠ k → f' i = f i) : (rowsC n f).setIfInBounds k v = rowsC n f' := by
  apply Array.ext
  · simp [rowsC]
  · intro i h1 h2
    have hi : i < n := by simpa [rowsC] using h2
    rw [Array.getElem_setIfInBounds (by simpa [rowsC] using hi)]
    by_cases hk : k = i
    · subst hk; rw [if_pos rfl]; simp [rowsC, hv]
    · rw [if_neg hk]; simp [rowsC, h i hi (fun e => hk e.symm)]
def outV (cs : List (List Int)) (Rr : Nat → Nat) (k i : Nat) : Value := if i < k then .slice none 0 0 else .slice (some ⟨Rr i, 0, none⟩) (cs.getD i []).length (cs.getD i []).length
def partF (R : List Int) (j i : Nat) : Int := if i < j then 0 else R.getD i 0
structure NthI (cs : List (List Int)) (T : List (List Int)) (go : Nat) (Rr : Nat → Nat) (k : Nat) (w W : World) : Prop where
  out : Blk W go 22 (rowsC cs.length (outV cs Rr k))
  rows : ∀ i xs, k ≤ i → T[i]? = some xs → Blk W (Rr i) 3 (cellsF xs.length (partF xs 0)) ∧ w.heap.size ≤ Rr i
  h : w.heap.size ≤ go
  below : Below w.heap.size w W
/-- within row k, when the cells from j on are done -/
structure NthJ (cs : List (List Int)) (T : List (List Int)) (R : List Int) (go : Nat) (Rr : Nat → Nat) (k : Nat) (F : Nat → Int) (w W : World) : Prop where
  out : Blk W go 22 (rowsC cs.length (outV cs Rr k))
  cur : Blk W (Rr k) 3 (cellsF R.length F)
  hc : w.heap.size ≤ Rr k
  rows : ∀ i xs, k + 1 ≤ i → T[i]? = some xs → Blk W (Rr i) 3 (cellsF xs.length (partF xs 0)) ∧ w.heap.size ≤ Rr i ∧ Rr i ≠ Rr k
  h : w.heap.size ≤ go
  below : Below w.heap.size w W
theorem NthJ.store {cs T : List (List Int)} {R : List Int} {go : Nat} {Rr : Nat → Nat} {k c : Nat} {F F' : Nat → Int} {w W : World} {v : Int} (h : NthJ cs T R go Rr k F w W) (hv : v = F' c) (hf : ∀ i, i < R.length → i ≠ c → F' i = F i) :
    NthJ cs T R go Rr k F' w (W.setCell ⟨Rr k, c, none⟩ (.int .i64 v)) := by
  refine ⟨h.out.far (p := ⟨Rr k, c, none⟩) (Blk.ne_ h.out h.cur (by decide)) _, ?_, h.hc, fun i xs hi hx => ?_, h.h, h.below.setCell (p := ⟨Rr k, c, none⟩) h.hc _⟩
  · rw [← cellsF_set hv hf]
    exact h.cur.set_ c _
  · obtain ⟨a, b, c'⟩ := h.rows i xs hi hx
    exact ⟨a.far (p := ⟨Rr k, c, none⟩) c' _, b, c'⟩
theorem NthJ.drew {cs T : List (List Int)} {R : List Int} {go : Nat} {Rr : Nat → Nat} {k : Nat} {F : Nat → Int} {w W : World} (h : NthJ cs T R go Rr k F w W) : NthJ cs T R go Rr k F w W.drew :=
  ⟨h.out.drew, h.cur.drew, h.hc, fun i xs hi hx => ⟨(h.rows i xs hi hx).1.drew, (h.rows i xs hi hx).2⟩, h.h, h.below.drew⟩
def GivesNth (b : Int) (cs : List (List Int)) (q : Int) (w : World) (e : Ending) (w' : World) : Prop :=
  ∃ go, e = .returned (.slice (some ⟨go, 0, none⟩) cs.length cs.length) ∧ IsRows w' w'.heap.size (some ⟨go, 0, none⟩) (nthT b cs q).1 ∧ Below w.heap.size w w'

end Go.Proofs.YtlnamjhgbdacbaaGreat
/- The reference's order of numbers; the law's table with a number. -/
namespace Go.Proofs.YtlnamjhgbdacbaaGreat
open Go.RowKit Go.Shelf

theorem ltL_at : ∀ {j : Nat} {x y : List Int} {u v : Int}, x.take j = y.take j → x[j]? = some u → y[j]? = some v → u ≠ v → ltL x y = decide (u < v)
  | 0, a :: x, b :: y, u, v, _, h1, h2, h3 => by
    simp at h1 h2
    subst h1 h2
    have : (a == b) = false := by simpa using h3
    simp [ltL, this]
  | j + 1, a :: x, b :: y, u, v, h, h1, h2, h3 => by
    simp at h
    obtain ⟨rfl, h⟩ := h
    simp only [List.getElem?_cons_succ] at h1 h2
    have := ltL_at h h1 h2 h3
    have hd : decide (a < a) = false := by simp
    simp only [ltL, hd, this, beq_self_eq_true, Bool.true_and, Bool.false_or]
  | _, [], _, u, v, _, h1, _, _ => by simp at h1
  | _, _ :: _, [], u, v, _, _, h2, _ => by simp at h2
theorem ltT_at : ∀ {j : Nat} {x y : List (List Int)} {u v : List Int}, x.take j = y.take j → x[j]? = some u → y[j]? = some v → u ≠ v → ltT x y = ltL u v
  | 0, a :: x, b :: y, u, v, _, h1, h2, h3 => by
    simp at h1 h2
    subst h1 h2
    have : (a == b) = false := by simpa using h3
    simp [ltT, this]
  | j + 1, a :: x, b :: y, u, v, h, h1, h2, h3 => by
    simp at h
    obtain ⟨rfl, h⟩ := h
    simp only [List.getElem?_cons_succ] at h1 h2
    have := ltT_at h h1 h2 h3
    simp [ltT, this, ltL_irrefl]
  | _, [], _, u, v, _, h1, _, _ => by simp at h1
  | _, _ :: _, [], u, v, _, _, h2, _ => by simp at h2

end Go.Proofs.YtlnamjhgbdacbaaGreat
/- The law's own copy of a list. -/
namespace Go.Proofs.YtlnamjhgbdacbaaGreat
open Go.RowKit Go.Shelf

set_option maxRecDepth 10000 in
set_option maxHeartbeats 400000 in
theorem list_any (A : Option Addr) (c : Nat) (xs : List Int) (w : World) (h : IsInts w w.heap.size A xs) (hA : A = none → c = 0) (hl : xs.length ≤ 1000000) :
    Calls Tryz.prog 25 #[.slice A xs.length c] w (GivesInts xs w) := by
  obtain ⟨i0, hi0, hz0, hz1, hz2⟩ := info_parts int_info
  cases A with
  | none =>
    have hx : xs = [] := by
      cases xs with
      | nil => rfl
      | cons x l => obtain ⟨a, e, _⟩ := h 0 x rfl; cases e
    subst hx
    obtain rfl := hA rfl
    have hr : (Builtin.append_ #[22, 22] 22 #[.slice none 0 0, .slice none 0 0]).run Tryz.prog w = .ok (.slice none 0 0) w := by
      exact run_append_nothing (P := Tryz.prog) w 22 22 22 3 i0 Tryz.underlying22 hi0 none 0 0 (Nat.le_refl _) (.slice none 0 0) (Src.ofNil w Tryz.underlying22 0)
    go_enter Tryz.func25, Tryz.ntmps25
    go_wp2
    go_ret
    exact ⟨none, 0, rfl, Nat.le_refl _, Nat.zero_le _, (fun k x hk => by simp at hk), (fun a e => by cases e), fun _ => rfl, Below.refl _ _⟩
  | some a =>
    have hnews := hid (ints_news h)
    have HO := hid (World.ownsRow_nil w w.heap.size 3 1)
    clear hA h
    go_enter Tryz.func25, Tryz.ntmps25
    go_wp2_with (at_builtin; refine wpList_append_own_at _ rfl _ _ 22 rfl w.heap.size 3 i0 (.int .i64 0) 1 8 Tryz.underlying22 hi0 hz0 hz1 hz2 rfl (by decide) _ 0 [] rfl HO.out a xs.length c (xs.map (Value.int .i64)) rfl (by simp) hnews.out (ints_one xs) (by simp only [maxLen]; omega) (by omega) (by simp) ?_; intro v' w1 hown' hgrow _ _)
    go_ret
    obtain ⟨A1, c1, rfl, h1, h2, h3, h4, h5⟩ := own_ints (xs := xs) (n := 0 + xs.length) (by omega) (by simpa using hown')
    exact ⟨A1, c1, rfl, h1, h2, h3, h4, h5, (Below.refl _ _).grown hgrow (Nat.le_refl _) (fun k hk => by cases hk)⟩
end Go.Proofs.YtlnamjhgbdacbaaGreat
/- The laws' copies: of rows. -/
namespace Go.Proofs.YtlnamjhgbdacbaaGreat
open Go.RowKit Go.Shelf

set_option maxRecDepth 10000 in
set_option maxHeartbeats 400000 in
theorem list_all (A : Option Addr) (c : Nat) (xs : List Int) (w : World) (h : IsInts w w.heap.size A xs) (hl : xs.length ≤ 1000000) :
    Calls Tryz.prog 25 #[.slice A xs.length c] w (GivesInts xs w) := by
  cases A with
  | some a => exact list_any (some a) c xs w h (fun e => by cases e) hl
  | none =>
    obtain ⟨i0, hi0, hz0, hz1, hz2⟩ := info_parts int_info
    have hx : xs = [] := by
      cases xs with
      | nil => rfl
      | cons x l => obtain ⟨a, e, _⟩ := h 0 x rfl; cases e
    subst hx
    have hr : (Builtin.append_ #[22, 22] 22 #[.slice none 0 0, .slice none 0 c]).run Tryz.prog w = .ok (.slice none 0 0) w := by
      exact run_append_nothing (P := Tryz.prog) w 22 22 22 3 i0 Tryz.underlying22 hi0 none 0 0 (Nat.le_refl _) (.slice none 0 c) (Src.ofNil w Tryz.underlying22 c)
    go_enter Tryz.func25, Tryz.ntmps25
    go_wp2
    go_ret
    exact ⟨none, 0, rfl, Nat.le_refl _, Nat.zero_le _, (fun k x hk => by simp at hk), (fun a e => by cases e), fun _ => rfl, Below.refl _ _⟩

def GivesRows (cs : List (List Int)) (w : World) (e : Ending) (w' : World) : Prop :=
  ∃ A c, e = .returned (.slice A cs.length c) ∧ Rows_ w.heap.size (.slice A cs.length c) cs.length cs w' ∧ Below w.heap.size w w'

end Go.Proofs.YtlnamjhgbdacbaaGreat
/- The law's table for the program: a copy. -/
namespace Go.Proofs.YtlnamjhgbdacbaaGreat
open Go.RowKit Go.Shelf

theorem fix_info : (Tryz.prog.info? 176).map (fun i => (i.zero, i.size, i.bytes)) = some (some (.agg #[.int .i64 0, .int .i64 0, .int .i64 0]), 3, 24) := by kernel_rfl
def fxCells (f : Fx) : List Value := [.int .i64 f.row, .int .i64 f.col, .int .i64 f.val]
def fxs (fs : List Fx) : List Value := fs.flatMap fxCells
theorem fxs_len : ∀ fs : List Fx, (fxs fs).length = fs.length * 3
  | [] => rfl
  | f :: fs => by
    have := fxs_len fs
    simp only [fxs, List.flatMap_cons, List.length_append, List.length_cons] at this ⊢
    rw [this]; simp [fxCells]; omega
theorem fxs_snoc (fs : List Fx) (f : Fx) : fxs (fs ++ [f]) = fxs fs ++ fxCells f := by simp [fxs]
theorem fxs_at : ∀ (fs : List Fx) (k : Nat) (f : Fx), fs[k]? = some f → (fxs fs)[k * 3]? = some (.int .i64 f.row) ∧ (fxs fs)[k * 3 + 1]? = some (.int .i64 f.col) ∧ (fxs fs)[k * 3 + 2]? = some (.int .i64 f.val)
  | [], k, f, h => by simp at h
  | g :: fs, 0, f, h => by
    simp at h
    subst h
    exact ⟨rfl, rfl, rfl⟩
  | g :: fs, k + 1, f, h => by
    have := fxs_at fs k f (by simpa using h)
    have e : fxs (g :: fs) = fxCells g ++ fxs fs := rfl
    rw [e]
    refine ⟨?_, ?_, ?_⟩
    · rw [List.getElem?_append_right (by simp [fxCells]; omega), show (k + 1) * 3 - (fxCells g).length = k * 3 by simp [fxCells]; omega]; exact this.1
    · rw [List.getElem?_append_right (by simp [fxCells]; omega), show (k + 1) * 3 + 1 - (fxCells g).length = k * 3 + 1 by simp [fxCells]; omega]; exact this.2.1
    · rw [List.getElem?_append_right (by simp [fxCells]; omega), show (k + 1) * 3 + 2 - (fxCells g).length = k * 3 + 2 by simp [fxCells]; omega]; exact this.2.2
section
variable {W W' : World} {base e size n : Nat} {v2 : Value} {vs2 : List Value}
theorem Rows_.row {b0 j : Nat} {v : Value} {rows : List (List Int)} (h : Rows_ b0 v j rows W) (ho : W.ownsRow base e size v2 n vs2) (he : 22 ≠ e) (he2 : 3 ≠ e) (hg : W.grownBy W' v2.ownBlock) : Rows_ b0 v j rows W' := by
  obtain ⟨vs, hov, hv⟩ := h
  refine ⟨vs, hov.kept hg ?_, fun i x hi hx => ?_⟩
  · rcases hov.2 with ⟨rfl, _⟩ | ⟨g, cap, cur, rfl, _, hgc, _⟩
    · exact .inl rfl
    · exact .inr fun e' => own_not ho (z := g) (fun cs hc => by
        rw [hgc] at hc
        injection hc with hc
        injection hc with _ ht
        exact he ht) e'.symm
  · obtain ⟨A, c, g1, g2⟩ := hv i x hi hx
    exact ⟨A, c, g1, g2.row ho he2 hg⟩
theorem own_fixes {fs : List Fx} {v : Value} (h : W.ownsRow base 176 3 v fs.length (fxs fs)) : ∃ A c, v = .slice A fs.length c ∧ IsFixes W W.heap.size A fs ∧ fs.length ≤ c ∧ c ≤ maxLen := by
  rcases h.2 with ⟨rfl, h0⟩ | ⟨g, cap, cur, rfl, hb, hg, h1, h2, h3, h4⟩
  · have : fs = [] := List.eq_nil_of_length_eq_zero h0
    subst this
    exact ⟨none, 0, rfl, (fun k x hk => by simp at hk), Nat.le_refl 0, Nat.zero_le maxLen⟩
  · refine ⟨_, cap, rfl, (fun k f hk => ?_), h1, h2⟩
    obtain ⟨c0, c1, c2⟩ := fxs_at fs k f hk
    have ha : (⟨g, 0, none⟩ : Addr).add (k * 3) = ⟨g, k * 3, none⟩ := by unfold Addr.add; split <;> simp_all
    refine ⟨_, rfl, (Array.getElem?_eq_some_iff.1 hg).1, h.cells (g := g) rfl (k * 3) _ c0, ?_, ?_⟩
    · have := h.cells (g := g) rfl (k * 3 + 1) _ c1
      rw [show (⟨g, 0, none⟩ : Addr).add (k * 3 + 1) = ⟨g, k * 3 + 1, none⟩ by unfold Addr.add; split <;> simp_all] at this
      rw [ha]; exact this
    · have := h.cells (g := g) rfl (k * 3 + 2) _ c2
      rw [show (⟨g, 0, none⟩ : Addr).add (k * 3 + 2) = ⟨g, k * 3 + 2, none⟩ by unfold Addr.add; split <;> simp_all] at this
      rw [ha]; exact this
end
def GivesTable (b : Int) (cs : List (List Int)) (fs : List Fx) (w : World) (e : Ending) (w' : World) : Prop :=
  ∃ A c A2 c2, e = .returned (.agg #[.int .i64 b, .slice A cs.length c, .slice A2 fs.length c2]) ∧ TIn A c cs A2 c2 fs w' ∧ Below w.heap.size w w'

end Go.Proofs.YtlnamjhgbdacbaaGreat
/- The last step of each statement's proof: a call that has only laid new memory leaves its arguments as they read. -/
namespace Go.Proofs.YtlnamjhgbdacbaaGreat
open Go.ChangeShapes Go.WideShapes Go.ChangeAt Go.RowKit

section
variable {H : Type} {enc : TypeId × Value → H}
/-- arguments read as they did -/
theorem trodAll_below {P : Program} (hl : laidOutB P = true) {W W' : World} (hb : Below W.heap.size W W') : ∀ {ts : List TypeId} {vs : List Value} {ds : List (DataW H)} {ps : List MemPlace},
    (ts.all fun t => P.readableRec t && decide (t < P.types.size)) = true → DataW.TrodAll enc P W 0 (fun _ => true) true ts vs ds ps → (∀ x ∈ ps, x.block < W.heap.size) →
    DataW.TrodAll enc P W' 0 (fun b => decide (b < W.heap.size)) true ts vs ds ps := by
  intro ts
  induction ts with
  | nil =>
    intro vs ds ps _ h _
    obtain ⟨rfl, rfl, rfl⟩ := trodAll_nil h
    exact trodAll_mk0
  | cons t ts ih =>
    intro vs ds ps ht h hp
    obtain ⟨v, vs', d, ds', p, p', rfl, rfl, rfl, h0, h1⟩ := trodAll_cons h
    simp only [List.all_cons, Bool.and_eq_true, decide_eq_true_eq] at ht
    exact trodAll_cons_mk (hb.trod hl ht.1.1 ht.1.2 h0 fun x hx => hp x (List.mem_append_left _ hx)) (ih ht.2 h1 fun x hx => hp x (List.mem_append_right _ hx))
theorem law_post {f : Func} {s : ChangeSpec} {W W' : World} {args : Array Value} {ds gs : List (DataW H)} {before : List MemPlace} (hl : laidOutB Tryz.prog = true) (hv : s.vars = [])
    (hr : f.resultTypes = #[4]) (hp : (f.params.toList.all fun t => Tryz.prog.readableRec t && decide (t < Tryz.prog.types.size)) = true)
    (hW : DataW.Whole enc Tryz.prog f.params.toList s.vars false W args.toList ds gs before) (hs : s.fn H (ds ++ gs) = { results := [.lit (.bool true)], args := ds }) (hb : Below W.heap.size W W') :
    s.post enc Tryz.prog f false true false false W args (.bool true) W' := by
  have hlt := hW.lt
  have hW' := hW
  obtain ⟨p, q, hA, hV, rfl, _, _⟩ := hW
  rw [hv] at hV
  obtain ⟨rfl, rfl⟩ := trodVars_none hV
  refine ⟨ds, [], p ++ [], [], p, [], hW', ?_, ?_, ?_, ?_, fun h => by cases h⟩
  · rw [hs, hr]
    exact trodAll_cons_mk (shut_bool Tryz.underlying4 _) trodAll_mk0
  · rw [hs]
    exact trodAll_below hl hb hp hA fun x hx => hlt x (by simpa using hx)
  · rw [hs, hv]; rfl
  · exact World.keptBut_mono (fun x hx => ⟨hx, .inr (.inl (by simpa using hx))⟩) (hb.frame (· ∈ p ++ []))
end
theorem own : ownKnob Tryz.prog.godebug = none := by kernel_rfl
theorem laid_out : laidOutB Tryz.prog = true := by kernel_rfl
end Go.Proofs.YtlnamjhgbdacbaaGreat
/- Opening an argument that is a list of numbers. -/
namespace Go.Proofs.YtlnamjhgbdacbaaGreat
open Go.ChangeShapes Go.WideShapes Go.ChangeAt Go.RowKit

section
variable {H : Type} {enc : TypeId × Value → H}
theorem of_slice {a b : Option Addr} {n m c d : Nat} {v : Value} (h : v = .slice a n c) (e : v.cells.toList = [.slice b m d]) : v = .slice b m d := by
  subst h
  simpa [Value.cells] using e
set_option maxRecDepth 100000 in
/-- a list of numbers of one kind, as an argument -/
theorem open_nums {W : World} {r : Reach} {b0 : Nat} {t e : TypeId} {k : IntKind} {v : Value} {d : DataW H} {ps : List MemPlace} (ht : Tryz.prog.underlying t = some (.slice e)) (he : Tryz.prog.underlying e = some (.int k)) (hc : Tryz.prog.cellsOf e = 1)
    (hval : Value.okWide Tryz.prog W r b0 t v) (hd : DataW.Trod enc Tryz.prog W 0 (fun _ => true) true t v d ps) :
    ∃ (A : Option Addr) (c : Nat) (xs : List Int), v = .slice A xs.length c ∧ xs.length ≤ c ∧ c ≤ maxLen ∧ (A = none → c = 0) ∧ (∀ x ∈ xs, k.min ≤ x ∧ x ≤ k.max) ∧
      ∀ i x, xs[i]? = some x → ∃ a, A = some a ∧ a.block < W.heap.size ∧ W.cell? (a.add i) = some (.int k x) := by
  obtain ⟨fuel, h⟩ := hd
  obtain ⟨a0, n0, c0, hv⟩ := okWide_slice ht hval
  rcases open_ints ht he hc h with ⟨e1, _⟩ | ⟨a, len, cap, zs, e1, _, hl, hm, hz, _, hcell, hwf⟩
  · have := of_slice hv e1
    subst this
    exact ⟨none, 0, [], rfl, Nat.le_refl 0, Nat.zero_le maxLen, fun _ => rfl, (fun x hx => by simp at hx), fun i x hx => by simp at hx⟩
  · have := of_slice hv e1
    subst this
    simp only [if_true] at hz
    have hlt : (zs.take len).length = len := by rw [List.length_take]; omega
    refine ⟨some a, cap, zs.take len, by rw [hlt], by omega, hm, (fun e => by cases e), (fun x hx => by simpa [Lit.wf] using hwf x (List.mem_of_mem_take hx)), fun i x hx => ?_⟩
    rw [List.getElem?_take] at hx
    split at hx
    · have hi := (List.getElem?_eq_some_iff.1 hx).1
      have hcl := hcell i hi
      rw [show zs.getD i 0 = x by simp [List.getD, hx]] at hcl
      exact ⟨a, rfl, by have := block_lt_of_cell hcl; rwa [block_of_add] at this, hcl⟩
    · cases hx
end
end Go.Proofs.YtlnamjhgbdacbaaGreat
/- Opening an argument that is a table. -/
namespace Go.Proofs.YtlnamjhgbdacbaaGreat
open Go.ChangeShapes Go.WideShapes Go.ChangeAt Go.RowKit Go.Deep Go.Joins

instance : Inhabited Fx := ⟨⟨0, 0, 0⟩⟩
section
variable {H : Type} {enc : TypeId × Value → H} {W : World} {n : Nat} {v : Value} {y : DataW H × List MemPlace}
set_option maxRecDepth 100000 in
theorem trod_rows (h : DataW.trod enc Tryz.prog W 0 (fun _ => true) true n 38 [v] = some y) :
    ∃ A c cs, v = .slice A (cs : List (List Int)).length c ∧ IsRows W W.heap.size A cs ∧ cs.length ≤ c ∧ c ≤ maxLen ∧ colsOf cs ≤ maxLen := by
  rcases open_int_rows Tryz.underlying38 Tryz.underlying22 Tryz.underlying3 (by kernel_rfl) (by kernel_rfl) h with ⟨e, _⟩ | ⟨a, len, cap, A, L, C, Z, e, _, hl, hm, _, hr⟩
  · injection e with e
    subst e
    exact ⟨none, 0, [], rfl, (fun r xs hr => by simp at hr), Nat.le_refl 0, Nat.zero_le maxLen, Nat.zero_le maxLen⟩
  · injection e with e
    subst e
    have hlen : ∀ r, r < cap → ((Z r).take (L r)).length = L r := fun r hr' => by
      obtain ⟨_, h1, _, h3, _⟩ := hr r hr'
      rw [List.length_take, h3]; omega
    refine ⟨some a, cap, (List.range len).map fun r => (Z r).take (L r), by simp, fun r xs hx => ?_, by simpa using hl, hm, ?_⟩
    · rw [List.getElem?_map] at hx
      cases hrr : (List.range len)[r]? with
      | none => rw [hrr] at hx; cases hx
      | some r' =>
        obtain ⟨hrl, e⟩ := List.getElem?_eq_some_iff.1 hrr
        simp at hrl
        have : r' = r := by rw [← e]; simp
        subst this
        rw [hrr] at hx
        simp only [Option.map_some] at hx
        injection hx with hx
        subst hx
        obtain ⟨h0, h1, h2, h3, _, h5, h6⟩ := hr r' (by omega)
        refine ⟨a, A r', C r', rfl, by have := block_lt_of_cell h0; rwa [block_of_add] at this, by rw [hlen r' (by omega)]; exact h0, by rw [hlen r' (by omega)]; exact h1, h2, fun i x hi => ?_⟩
        rw [List.getElem?_take] at hi
        split at hi
        · rename_i hil
          cases hA : A r' with
          | none => have := h5 hA; omega
          | some a' =>
            have hc := (h6 a' hA).2 i (by omega)
            rw [show (Z r').getD i 0 = x by simp [List.getD, hi]] at hc
            exact ⟨a', rfl, by have := block_lt_of_cell hc; rwa [block_of_add] at this, hc⟩
        · cases hi
    · cases len with
      | zero => exact Nat.zero_le maxLen
      | succ m =>
        obtain ⟨_, h1, h2, h3, _⟩ := hr 0 (by omega)
        rw [List.range_succ_eq_map]
        show ((Z 0).take (L 0)).length ≤ maxLen
        rw [hlen 0 (by omega)]
        exact Nat.le_trans h1 h2
end
end Go.Proofs.YtlnamjhgbdacbaaGreat
/- What the laws say of the best rounding, in plain words. -/
namespace Go.Proofs.YtlnamjhgbdacbaaGreat

theorem ready_chk {b : Int} {cs : List (List Int)} {fs : List Fx} (h : readyB b cs fs = true) : chkE b cs fs = 0 := by
  unfold readyB at h
  rw [Bool.and_eq_true] at h
  simpa using h.2
section
variable {b : Int} {cs : List (List Int)} {fs : List Fx} {T : List (List Int)}
theorem ways_len : (spec b cs fs cs.length zeroS).ways = (rnds b cs fs cs.length zeroS).length := (spec_rnds b cs fs cs.length zeroS).1
theorem ways_ne (hw : (spec b cs fs cs.length zeroS).ways ≠ 0) : rnds b cs fs cs.length zeroS ≠ [] := fun e => hw (by rw [ways_len, e]; rfl)
theorem none_plain (hw : (spec b cs fs cs.length zeroS).ways = 0) : ¬ IsR b cs fs T := fun h => by
  rw [ways_len] at hw
  have : rnds b cs fs cs.length zeroS = [] := List.eq_nil_of_length_eq_zero (by omega)
  have hm := rnds_isR.2 h
  rw [this] at hm
  cases hm
theorem best_plain (hw : (spec b cs fs cs.length zeroS).ways ≠ 0) : Best (rnds b cs fs cs.length zeroS) (costK cs cs.length) (bestOf b cs fs cs.length zeroS) ∧ (spec b cs fs cs.length zeroS).change = changeOf (bestOf b cs fs cs.length zeroS) cs := by
  obtain ⟨h1, h2⟩ := (spec_rnds b cs fs cs.length zeroS).2 (ways_ne hw)
  exact ⟨h1, by rw [h2, costK_change (bestOf_len _ _)]⟩
theorem best_isR (hw : (spec b cs fs cs.length zeroS).ways ≠ 0) : IsR b cs fs (bestOf b cs fs cs.length zeroS) := rnds_isR.1 (best_plain hw).1.mem
theorem least_plain (hb : 2 ≤ b) (hw : (spec b cs fs cs.length zeroS).ways ≠ 0) (hT : IsR b cs fs T) : (spec b cs fs cs.length zeroS).change ≤ changeOf T cs ∧ (changeOf T cs = (spec b cs fs cs.length zeroS).change → ltT T (bestOf b cs fs cs.length zeroS) = false) := by
  obtain ⟨h1, h2⟩ := best_plain hw
  have hm := rnds_isR.2 hT
  have e := costK_change (cs := cs) (x := T) hT.len
  have e2 := costK_change (cs := cs) (x := bestOf b cs fs cs.length zeroS) (bestOf_len _ _)
  refine ⟨by have := h1.le hm; rw [e, e2] at this; omega, fun he => ?_⟩
  rcases h1.after (rnds_sorted hb cs fs cs.length zeroS) hm (by rw [e, e2]; omega) with h | h
  · rw [h]; exact ltT_irrefl _
  · exact ltT_asymm h
end
theorem nthT_rows {b : Int} {cs : List (List Int)} {q : Int} {n : Nat} (h : ∀ r ∈ cs, r.length = n) : ∀ xs ∈ (nthT b cs q).1, xs.length = n := by
  induction cs with
  | nil => intro xs hx; cases hx
  | cons r cs ih =>
    intro xs hx
    rcases List.mem_cons.1 hx with rfl | hx
    · rw [nthRow_len]; exact h r (by simp)
    · exact ih (fun r' hr' => h r' (List.mem_cons_of_mem _ hr')) xs hx
theorem ralk_of {n m : Nat} {l : List (List Int)} (h : alikeB n m l = true) : ralkB n m l = true := by
  obtain ⟨h1, h2⟩ := alike_rows h
  unfold ralkB alkTo
  rw [List.take_length, Bool.and_eq_true]
  exact ⟨List.all_eq_true.2 fun r hr => by simpa using (h2 r hr).1, by simpa using h1⟩
end Go.Proofs.YtlnamjhgbdacbaaGreat
