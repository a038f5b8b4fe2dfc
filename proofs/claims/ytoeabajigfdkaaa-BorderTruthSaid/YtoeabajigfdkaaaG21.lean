/- The walks and the plain laws of this part of the program, part 21: what each computes. Conditions stand at each theorem. -/
import Derived.StillTailTactics
import Derived.Test.YtoeabajigfdkaaaG13
import Derived.Test.YtoeabajigfdkaaaG14
import Derived.Test.YtoeabajigfdkaaaG15
import Derived.Test.YtoeabajigfdkaaaG16
/- Truths in plain words: nobody is lost; each number and each size is within its bounds; how a truth is picked. Conditions stand at each theorem. -/
namespace Go.Proofs.Ytoeabajigfdkaaa

theorem at_sum (m : MapD) : m.old.sum = sumN m.at_ m.old.length := sum_eq_sumN m.old
/-- numbers that add up to the count in each old district add up to all -/
theorem all_sum {m : MapD} (ok : OkM m) {xs : List Int} (hl : xs.length = m.ss.length) (h : ∀ d, d < m.old.length → sumX m d xs m.ss.length = m.at_ d) : xs.sum = m.old.sum := by
  rw [at_sum, sum_eq_sumN, hl, ← sumN_class (fun i => xs.getD i 0) (fun i => (m.S i).o.toNat) m.ss.length m.old.length fun i hi => by have := ok.sAt hi; omega]
  refine sumN_congr fun d hd => ?_
  rw [← h d hd]
  refine sumN_congr fun i hi => ?_
  have := ok.sAt hi
  by_cases e : (m.S i).o = (d : Int)
  · rw [if_pos e, if_pos (by omega)]
  · rw [if_neg e, if_neg (by omega)]
theorem car_all {m : MapD} (ok : OkM m) : (car m).sum = m.old.sum := all_sum ok (car_len m) fun _ hd => car_sum ok hd
/-- the sums by districts add up to the whole -/
theorem smD_all {m : MapD} {l : Nat → Int} {xs : List Int} (hl : ∀ i, i < xs.length → 0 ≤ l i ∧ l i < m.nw) : (smD m l xs).sum = xs.sum := by
  rw [sum_eq_sumN, sum_eq_sumN xs, smD_cnt, ← sumN_class (fun i => xs.getD i 0) (fun i => (l i).toNat) xs.length m.nw.toNat fun i hi => by have := hl i hi; omega]
  refine sumN_congr fun d hd => ?_
  rw [smD_get hd fun i hi => (hl i hi).1]
  refine sumN_congr fun i hi => ?_
  have := hl i hi
  by_cases e : l i = (d : Int)
  · rw [if_pos e, if_pos (by omega)]
  · rw [if_neg e, if_neg (by omega)]
/-- the sum of the numbers of an old district that pass a test -/
def sumP (m : MapD) (p : Nat → Bool) (d : Nat) (xs : List Int) : Int := sumN (fun i => if (m.S i).o = (d : Int) ∧ p i = true then xs.getD i 0 else 0) m.ss.length
theorem sumP_split (m : MapD) (p : Nat → Bool) (d : Nat) (xs : List Int) : sumX m d xs m.ss.length = sumP m p d xs + sumP m (nt p) d xs := by
  unfold sumX sumP
  rw [← sumN_add]
  refine sumN_congr fun i _ => ?_
  by_cases e : (m.S i).o = (d : Int)
  · cases hp : p i <;> simp [e, nt, hp]
  · simp [e]
theorem sumP_b {m : MapD} {xs : List Int} (h : ∀ i, i < m.ss.length → inX m xs i) (p : Nat → Bool) (d : Nat) : sumO m d p Stt.lo m.ss.length ≤ sumP m p d xs ∧ sumP m p d xs ≤ sumO m d p Stt.hi m.ss.length := by
  unfold sumP sumO
  refine ⟨sumN_le fun i hi => ?_, sumN_le fun i hi => ?_⟩
  · split
    · exact (h i hi).1
    · exact Int.le_refl _
  · split
    · exact (h i hi).2
    · exact Int.le_refl _
theorem tr_part {m : MapD} {xs : List Int} (h : IsTr m xs) (p : Nat → Bool) {d : Nat} (hd : d < m.old.length) : partLo m p d ≤ sumP m p d xs ∧ sumP m p d xs ≤ partHi m p d := by
  have h1 := sumP_b h.rng p d
  have h2 := sumP_b h.rng (nt p) d
  have h3 := sumP_split m p d xs
  rw [h.sum d hd] at h3
  unfold partLo partHi
  omega
/-- the sum of all numbers that pass a test -/
theorem sumP_all {m : MapD} (ok : OkM m) (p : Nat → Bool) (xs : List Int) : sumN (fun d => sumP m p d xs) m.old.length = sumN (fun i => if p i = true then xs.getD i 0 else 0) m.ss.length := by
  rw [← sumN_class (fun i => if p i = true then xs.getD i 0 else 0) (fun i => (m.S i).o.toNat) m.ss.length m.old.length fun i hi => by have := ok.sAt hi; omega]
  refine sumN_congr fun d _ => ?_
  refine sumN_congr fun i hi => ?_
  have := ok.sAt hi
  by_cases e : (m.S i).o = (d : Int)
  · rw [if_pos (show (m.S i).o.toNat = d by omega)]
    cases hp : p i <;> simp [e]
  · rw [if_neg (show ¬ (m.S i).o.toNat = d by omega), if_neg fun h => e h.1]
theorem tr_street {m : MapD} (ok : OkM m) {xs : List Int} (h : IsTr m xs) {i : Nat} (hi : i < m.ss.length) : (strOne m i).1 ≤ xs.getD i 0 ∧ xs.getD i 0 ≤ (strOne m i).2 := by
  have ho := ok.sAt hi
  have h1 := tr_part h (aloneP i) (d := (m.S i).o.toNat) (by omega)
  have e : sumP m (aloneP i) (m.S i).o.toNat xs = xs.getD i 0 := by
    unfold sumP
    rw [sumN_one hi fun k _ hk => if_neg fun h => by
      have := h.2
      simp only [aloneP, beq_iff_eq] at this
      omega]
    rw [if_pos ⟨by omega, by simp [aloneP]⟩]
  rw [e] at h1
  exact h1
def szX (m : MapD) (xs : List Int) (d : Nat) : Int := (smD m (ownL m) xs).getD d 0
theorem szX_eq {m : MapD} (ok : OkM m) {xs : List Int} (hl : xs.length = m.ss.length) {d : Nat} (hd : d < m.nw.toNat) : szX m xs d = sumN (fun i => if inD (ownL m) (d : Int) i = true then xs.getD i 0 else 0) m.ss.length := by
  unfold szX
  rw [smD_get hd fun i hi => by have := ok.sAt (i := i) (by omega); unfold ownL; omega, hl]
  exact sumN_congr fun i _ => by simp only [inD, beq_iff_eq]
theorem tr_size {m : MapD} (ok : OkM m) {xs : List Int} (h : IsTr m xs) {d : Nat} (hd : d < m.nw.toNat) : (bndOne m d).1 ≤ szX m xs d ∧ szX m xs d ≤ (bndOne m d).2 := by
  rw [szX_eq ok h.len hd, ← sumP_all ok]
  unfold bndOne sizeLo sizeHi
  exact ⟨sumN_le fun k hk => (tr_part h _ hk).1, sumN_le fun k hk => (tr_part h _ hk).2⟩
/-- how far a size can be off -/
theorem tr_off {m : MapD} (ok : OkM m) {xs : List Int} (h : IsTr m xs) {d : Nat} (hd : d < m.nw.toNat) : szX m xs d - smQ m d ≤ offOne m d ∧ smQ m d - szX m xs d ≤ offOne m d ∧ offOne m d = max ((bndOne m d).2 - smQ m d) (smQ m d - (bndOne m d).1) := by
  have h1 := tr_size ok h hd
  have e : offOne m d = max ((bndOne m d).2 - smQ m d) (smQ m d - (bndOne m d).1) := rfl
  omega
theorem xs_get {m : MapD} {xs : List Int} (hl : xs.length = m.ss.length) {i : Nat} (hi : i < m.ss.length) : xs[i]? = some (xs.getD i 0) := by
  rw [List.getD, List.getElem?_eq_getElem (by omega)]; rfl
theorem szX_get {m : MapD} {xs : List Int} {d : Nat} (hd : d < m.nw.toNat) : (smD m (ownL m) xs)[d]? = some (szX m xs d) := by
  have : d < (smD m (ownL m) xs).length := by rw [smD_cnt]; exact hd
  unfold szX
  rw [List.getD, List.getElem?_eq_getElem this]; rfl
theorem tr_b {m : MapD} (ok : OkM m) {xs : List Int} (h : IsTr m xs) : ∀ x ∈ xs, 0 ≤ x ∧ x ≤ 10000 := fun x hx => by
  obtain ⟨i, hi, rfl⟩ := List.getElem_of_mem hx
  have hi' : i < m.ss.length := by rw [← h.len]; exact hi
  have h1 := ok.sAt hi'
  have h2 := h.rng i hi'
  unfold inX at h2
  rw [List.getD, List.getElem?_eq_getElem hi] at h2
  simp only [Option.getD_some] at h2
  omega
/-- picking a truth: old districts before d are done -/
structure PkO (m : MapD) (d : Nat) (xs : List Int) : Prop where
  len : xs.length = m.ss.length
  rng : ∀ i, i < m.ss.length → (m.S i).o < (d : Int) → inX m xs i
  sum : ∀ q, q < d → sumX m q xs m.ss.length = m.at_ q
/-- and of district d the first k streets -/
structure PkI (m : MapD) (d k : Nat) (xs : List Int) (left : Int) : Prop extends PkO m d xs where
  now : ∀ i, i < k → (m.S i).o = (d : Int) → inX m xs i
  lft : left = m.at_ d - sumX m d xs k
  low : sumO m d tt Stt.lo m.ss.length - sumO m d tt Stt.lo k ≤ left
  hgh : left ≤ sumO m d tt Stt.hi m.ss.length - sumO m d tt Stt.hi k
theorem PkO.start {m : MapD} (ok : OkM m) : PkO m 0 (List.replicate m.ss.length 0) :=
  ⟨by simp, fun i hi h => by have := ok.sAt hi; omega, fun q hq => by omega⟩
theorem PkI.start {m : MapD} (hc : cstM m = 0) {d : Nat} (hd : d < m.old.length) {xs : List Int} (h : PkO m d xs) : PkI m d 0 xs (m.at_ d) := by
  have h1 := conM_at (cst_ok hc).2 hd
  refine ⟨h, fun i hi => by omega, ?_, ?_, ?_⟩
  · simp [sumX, sumN]
  · have : sumO m d tt Stt.lo 0 = 0 := rfl
    omega
  · have : sumO m d tt Stt.hi 0 = 0 := rfl
    omega
theorem PkI.skip {m : MapD} {d k : Nat} {xs : List Int} {left : Int} {s : Stt} (h : PkI m d k xs left) (hs : m.ss[k]? = some s) (hd : s.o ≠ (d : Int)) : PkI m d (k + 1) xs left :=
  ⟨h.toPkO, fun i hi ho => by
    by_cases e : i = k
    · subst e; rw [MapD.S_eq hs] at ho; exact absurd ho hd
    · exact h.now i (by omega) ho, by rw [sumX_skip hs hd]; exact h.lft, by rw [sumO_skip hs hd]; exact h.low, by rw [sumO_skip hs hd]; exact h.hgh⟩
theorem sumX_set_ne {m : MapD} {d k j : Nat} {xs : List Int} {x : Int} (h : (m.S j).o ≠ (d : Int)) : sumX m d (xs.set j x) k = sumX m d xs k := by
  unfold sumX
  refine sumN_congr fun i _ => ?_
  by_cases e : i = j
  · subst e; rw [if_neg h, if_neg h]
  · rw [set_getD_ne (by omega)]
theorem sumX_set_ge {m : MapD} {d k j : Nat} {xs : List Int} {x : Int} (h : k ≤ j) : sumX m d (xs.set j x) k = sumX m d xs k := by
  unfold sumX
  refine sumN_congr fun i hi => ?_
  rw [set_getD_ne (by omega)]
/-- what the streets after street k of district d have at most or at least, up to street j -/
def tlS (m : MapD) (d k : Nat) (g : Stt → Int) (j : Nat) : Int := sumO m d tt g j - sumO m d tt g k
theorem tlS_zero (m : MapD) (d k : Nat) (g : Stt → Int) : tlS m d k g k = 0 := by unfold tlS; omega
theorem tlS_skip {m : MapD} {d k j : Nat} {g : Stt → Int} {s : Stt} (h : m.ss[j]? = some s) (hd : s.o ≠ (d : Int)) : tlS m d k g (j + 1) = tlS m d k g j := by unfold tlS; rw [sumO_skip h hd]
theorem tlS_take {m : MapD} {d k j : Nat} {g : Stt → Int} {s : Stt} (h : m.ss[j]? = some s) (hd : s.o = (d : Int)) : tlS m d k g (j + 1) = tlS m d k g j + g s := by unfold tlS; rw [sumO_take h hd rfl]; omega
theorem sumO_bb {m : MapD} (ok : OkM m) (d k : Nat) (hk : k ≤ m.ss.length) : 0 ≤ sumO m d tt Stt.lo k ∧ sumO m d tt Stt.lo k ≤ 80000 ∧ 0 ≤ sumO m d tt Stt.hi k ∧ sumO m d tt Stt.hi k ≤ 80000 := by
  have h8 := ok.s8
  have h1 := sumO_bounds (m := m) (g := Stt.lo) (M := 10000) (by omega) d tt k fun i hi => by have := ok.sAt (i := i) (by omega); omega
  have h2 := sumO_bounds (m := m) (g := Stt.hi) (M := 10000) (by omega) d tt k fun i hi => by have := ok.sAt (i := i) (by omega); omega
  omega
theorem tlS_b {m : MapD} (ok : OkM m) (d k j : Nat) (hk : k ≤ m.ss.length) (hj : j ≤ m.ss.length) : -80000 ≤ tlS m d k Stt.lo j ∧ tlS m d k Stt.lo j ≤ 80000 ∧ -80000 ≤ tlS m d k Stt.hi j ∧ tlS m d k Stt.hi j ≤ 80000 := by
  have h1 := sumO_bb ok d k hk
  have h2 := sumO_bb ok d j hj
  unfold tlS
  omega
theorem PkI.lb {m : MapD} (ok : OkM m) {d k : Nat} {xs : List Int} {left : Int} (h : PkI m d k xs left) (hk : k ≤ m.ss.length) : -80000 ≤ left ∧ left ≤ 80000 := by
  have h1 := sumO_bb ok d k hk
  have h2 := sumO_bb ok d m.ss.length (Nat.le_refl _)
  have h3 := h.low
  have h4 := h.hgh
  omega
/-- there is room for street k -/
theorem PkI.room {m : MapD} (ok : OkM m) {d k : Nat} {xs : List Int} {left : Int} {s : Stt} (h : PkI m d k xs left) (hs : m.ss[k]? = some s) (hd : s.o = (d : Int)) : max (left - tlS m d (k + 1) Stt.hi m.ss.length) s.lo ≤ min (left - tlS m d (k + 1) Stt.lo m.ss.length) s.hi := by
  have hk := (List.getElem?_eq_some_iff.1 hs).1
  have h1 := h.low
  have h2 := h.hgh
  have h3 := sumO_take (p := tt) (g := Stt.lo) hs hd rfl
  have h4 := sumO_take (p := tt) (g := Stt.hi) hs hd rfl
  have h5 := ok.sAt hk
  rw [MapD.S_eq hs] at h5
  have h6 : tlS m d (k + 1) Stt.lo m.ss.length ≤ tlS m d (k + 1) Stt.hi m.ss.length := by
    unfold tlS sumO
    have := sumN_mono (f := fun i => (if (m.S i).o = (d : Int) ∧ tt i = true then (m.S i).hi else 0) - (if (m.S i).o = (d : Int) ∧ tt i = true then (m.S i).lo else 0)) (show k + 1 ≤ m.ss.length by omega) fun i hi => by
      have := ok.sAt hi
      split <;> omega
    rw [sumN_sub, sumN_sub] at this
    omega
  unfold tlS at *
  omega
theorem PkI.take {m : MapD} {d k : Nat} {xs : List Int} {left x : Int} {s : Stt} (h : PkI m d k xs left) (hs : m.ss[k]? = some s) (hd : s.o = (d : Int)) (h1 : max (left - tlS m d (k + 1) Stt.hi m.ss.length) s.lo ≤ x) (h2 : x ≤ min (left - tlS m d (k + 1) Stt.lo m.ss.length) s.hi) : PkI m d (k + 1) (xs.set k x) (left - x) := by
  have hk := (List.getElem?_eq_some_iff.1 hs).1
  have hl := h.len
  have hS := MapD.S_eq hs
  unfold tlS at h1 h2
  refine ⟨⟨by rw [List.length_set]; exact hl, fun i hi ho => ?_, fun q hq => ?_⟩, fun i hi ho => ?_, ?_, by omega, by omega⟩
  · have hne : i ≠ k := fun e => by subst e; rw [hS] at ho; omega
    have := h.rng i hi ho
    unfold inX at this ⊢
    rwa [set_getD_ne (by omega)]
  · rw [sumX_set_ne (by rw [hS]; omega)]
    exact h.sum q hq
  · by_cases e : i = k
    · subst e
      unfold inX
      rw [hS, set_getD_eq (by omega)]
      omega
    · have := h.now i (by omega) ho
      unfold inX at this ⊢
      rwa [set_getD_ne (by omega)]
  · rw [sumX_take hs hd, sumX_set_ge (Nat.le_refl _), set_getD_eq (by omega)]
    have := h.lft
    omega
theorem PkI.done {m : MapD} {d : Nat} {xs : List Int} {left : Int} (h : PkI m d m.ss.length xs left) : PkO m (d + 1) xs :=
  ⟨h.len, fun i hi ho => by
    by_cases e : (m.S i).o = (d : Int)
    · exact h.now i hi e
    · exact h.rng i hi (by omega), fun q hq => by
    by_cases e : q = d
    · subst e
      have h1 := h.low
      have h2 := h.hgh
      have h3 := h.lft
      omega
    · exact h.sum q (by omega)⟩
theorem PkO.tr {m : MapD} (ok : OkM m) {xs : List Int} (h : PkO m m.old.length xs) : IsTr m xs :=
  ⟨h.len, fun i hi => h.rng i hi (by have := ok.sAt hi; omega), h.sum⟩
end Go.Proofs.Ytoeabajigfdkaaa
/- A truth that is picked by words: a word, and the truth. Conditions stand at each theorem. -/
namespace Go.Proofs.Ytoeabajigfdkaaa
open Go.RowKit Go.Shelf

theorem int_at {w : World} {n : Nat} {a : Addr} {xs : List Int} {k : Nat} {x : Int} (h : IsInts w n (some a) xs) (hk : xs[k]? = some x) : w.cell? (a.add k) = some (.int .i64 x) := by
  obtain ⟨a', e, _, h0⟩ := h k x hk
  cases e
  exact h0
theorem stt_at {w : World} {n : Nat} {a : Addr} {ss : List Stt} {k : Nat} {s : Stt} (h : IsStts w n (some a) ss) (hk : ss[k]? = some s) : w.cell? (a.add (k * 5)) = some (.int .i64 s.o) ∧ w.cell? ⟨(a.add (k * 5)).block, (a.add (k * 5)).off + 1, none⟩ = some (.int .i64 s.n) ∧ w.cell? ⟨(a.add (k * 5)).block, (a.add (k * 5)).off + 2, none⟩ = some (.int .i64 s.wt) ∧ w.cell? ⟨(a.add (k * 5)).block, (a.add (k * 5)).off + 3, none⟩ = some (.int .i64 s.lo) ∧ w.cell? ⟨(a.add (k * 5)).block, (a.add (k * 5)).off + 4, none⟩ = some (.int .i64 s.hi) := by
  obtain ⟨a', e, _, h0⟩ := h k s hk
  cases e
  exact h0
/-- the slice at A reads as these words, below block n -/
def IsWords (w : World) (n : Nat) (A : Option Addr) (ws : List Int) : Prop := ∀ i x, ws[i]? = some x → 0 ≤ x ∧ x ≤ 65535 ∧ ∃ a, A = some a ∧ a.block < n ∧ w.cell? (a.add i) = some (.int .u16 x)
theorem IsWords.at_ {w w' : World} {A : Option Addr} {ws : List Int} (h : IsWords w w.heap.size A ws) (hb : Below w.heap.size w w') : IsWords w' w'.heap.size A ws := fun i x hi => by
  obtain ⟨h0, h1, a, e, hl, hc⟩ := h i x hi
  exact ⟨h0, h1, a, e, by have := hb.size; omega, (hb.cell (by rw [block_of_add]; exact hl)).trans hc⟩
set_option maxRecDepth 100000 in
set_option maxHeartbeats 2000000 in
theorem word_any (Aw : Option Addr) (cw : Nat) (ws : List Int) (k : Nat) (w : World) (h : IsWords w w.heap.size Aw ws) (hl : ws.length ≤ maxLen) (hk : k ≤ 1000) :
    Calls Try.prog 90 #[.slice Aw ws.length cw, .int .i64 (k : Int)] w fun e w' => ∃ x : Int, e = .returned (.int .i64 x) ∧ 0 ≤ x ∧ x ≤ 65535 ∧ Below w.heap.size w w' := by
  by_cases h0 : ws.length = 0
  · have hz : ((ws.length : Int) == 0) = true := by rw [h0]; rfl
    clear h h0
    go_enter Try.func90, Try.ntmps90
    go_wp2
    go_ret
    exact ⟨0, rfl, by omega, by omega, Below.refl _ _⟩
  · have hz : ((ws.length : Int) == 0) = false := by rw [beq_eq_false_iff_ne]; omega
    have hzn : ¬ (ws.length : Int) = 0 := by omega
    obtain ⟨r, hr⟩ : ∃ r : Nat, k % ws.length = r := ⟨_, rfl⟩
    have hrl : r < ws.length := by rw [← hr]; exact Nat.mod_lt _ (by omega)
    have hrI : (r : Int) < (ws.length : Int) := by omega
    have htm : (k : Int).tmod (ws.length : Int) = (r : Int) := by rw [Int.tmod_eq_emod_of_nonneg (by omega), ← hr]; exact (Int.natCast_emod _ _).symm
    have hwr : IntKind.i64.wrap (r : Int) = (r : Int) := IntWalk.i64_in _ (by unfold maxLen at hl; omega)
    obtain ⟨x, hx⟩ : ∃ x, ws[r]? = some x := ⟨_, List.getElem?_eq_getElem hrl⟩
    obtain ⟨x0, x1, a, ea, _, hc⟩ := h r x hx
    have hwx : IntKind.i64.wrap x = x := IntWalk.i64_in _ (by omega)
    subst ea
    clear h hr hx h0
    go_enter Try.func90, Try.ntmps90
    go_wp2
    go_ret
    exact ⟨x, rfl, x0, x1, Below.refl _ _⟩

set_option maxRecDepth 100000 in
set_option maxHeartbeats 8000000 in
theorem picked_any (m : MapD) (A : Option Addr) (c : Nat) (A2 : Option Addr) (c2 : Nat) (A3 : Option Addr) (c3 : Nat) (Aw : Option Addr) (cw : Nat) (ws : List Int) (w : World) (h : MIn m A c A2 c2 A3 c3 w) (hc : cstM m = 0) (hw : IsWords w w.heap.size Aw ws) (hwl : ws.length ≤ maxLen) :
    Calls Try.prog 51 #[.agg #[.slice A m.old.length c, .int .i64 m.nw, .slice A2 m.ss.length c2, .slice A3 m.js.length c3], .slice Aw ws.length cw] w fun e w' => ∃ xs, IsTr m xs ∧ GivesI xs w e w' := by
  have OK := hid (chk_okm (cst_ok hc).1)
  have HCM := hid hc
  have hd4 := OK.out.d4
  have hs8 := OK.out.s8
  obtain ⟨ao, rfl⟩ : ∃ a, A = some a := by
    obtain ⟨a, e, _⟩ := h.io 0 _ (List.getElem?_eq_getElem (by have := OK.out.d1; omega))
    exact ⟨a, e⟩
  obtain ⟨aa, rfl⟩ : ∃ a, A2 = some a := by
    obtain ⟨a, e, _⟩ := h.is 0 _ (List.getElem?_eq_getElem (by have := OK.out.s1; omega))
    exact ⟨a, e⟩
  have hB := below_box (w := w) #[.slice (some ao) m.old.length c, .int .i64 m.nw, .slice (some aa) m.ss.length c2, .slice A3 m.js.length c3] 26
  have hT := Blk.new w 26 #[.slice (some ao) m.old.length c, .int .i64 m.nw, .slice (some aa) m.ss.length c2, .slice A3 m.js.length c3]
  obtain ⟨t0, t1, t2, t3⟩ := hT.c4
  have hmk := run_make_row' (P := Try.prog) 22 3 (.int .i64 0) 8 Try.underlying22 int_info rfl .i64 .i64 m.ss.length (by omega) (by omega)
  rw [intC_zero] at hmk
  have hZ := Blk.new (w.alloc (.cells #[.slice (some ao) m.old.length c, .int .i64 m.nw, .slice (some aa) m.ss.length c2, .slice A3 m.js.length c3] 26)) 3 (intC (List.replicate m.ss.length 0))
  rw [World.size_alloc] at hZ
  have hB2 := hB.alloc hB.size (.cells (intC (List.replicate m.ss.length 0)) 3)
  have hT2 := hT.alloc (.cells (intC (List.replicate m.ss.length 0)) 3)
  have HS := hid (And.intro (PkO.start OK.out) (And.intro hZ (And.intro hT2 hB2)))
  have HA := hid h
  have HW := hid hw
  have HWL := hid hwl
  clear hZ hB2 hT2 hB hT h hc hw hwl
  go_enter Try.func51, Try.ntmps51
  go_wp2
  clear t0 t1 t2 t3 hmk
  go_loopw [6] (fun i W => ∃ (d : Nat) (xs : List Int), d ≤ m.old.length ∧ i = .int .i64 d ∧ PkO m d xs ∧ Blk W (w.heap.size + 1) 3 (intC xs) ∧ Blk W w.heap.size 26 #[.slice (some ao) m.old.length c, .int .i64 m.nw, .slice (some aa) m.ss.length c2, .slice A3 m.js.length c3] ∧ Below w.heap.size w W) (fun i _ => m.old.length - (intOf i).toNat)
  case atStart => exact ⟨0, _, Nat.zero_le _, rfl, HS.out⟩
  case round =>
    clear HS
    obtain ⟨d, xs, hd, rfl, hp, hbo, hbt, hbr⟩ := hrel
    obtain ⟨t0, t1, t2, t3⟩ := hbt.c4
    have HR := hid (And.intro hp (And.intro hbo (And.intro hbt hbr)))
    clear hp hbo hbt hbr
    by_cases hlt : d < m.old.length
    · have hdI : (d : Int) < (m.old.length : Int) := by omega
      obtain ⟨x, hx⟩ : ∃ x, m.old[d]? = some x := ⟨_, List.getElem?_eq_getElem hlt⟩
      have go2 := int_at (HA.out.at_ HR.out.2.2.2).io hx
      have hpi := PkI.start HCM.out hlt HR.out.1
      rw [MapD.at_eq hx] at hpi
      have HPI := hid hpi
      clear hx hpi
      go_wp2
      clear t0 t1 t2 t3 go2
      generalize wr = wd at *
      go_loopw [7, 8] (fun l i W => ∃ (k : Nat) (zs : List Int) (lf : Int), k ≤ m.ss.length ∧ i = .int .i64 k ∧ l = .int .i64 lf ∧ PkI m d k zs lf ∧ Blk W (w.heap.size + 1) 3 (intC zs) ∧ Blk W w.heap.size 26 #[.slice (some ao) m.old.length c, .int .i64 m.nw, .slice (some aa) m.ss.length c2, .slice A3 m.js.length c3] ∧ Below w.heap.size w W) (fun _ i _ => m.ss.length - (intOf i).toNat)
      case atStart => exact ⟨0, xs, x, Nat.zero_le _, rfl, rfl, HPI.out, HR.out.2⟩
      case round =>
        clear HPI HR
        obtain ⟨k, zs, lf, hk, rfl, rfl, hp, hbo, hbt, hbr⟩ := hrel
        obtain ⟨t0, t1, t2, t3⟩ := hbt.c4
        have HR := hid (And.intro hp (And.intro hbo (And.intro hbt hbr)))
        clear hp hbo hbt hbr
        by_cases hlk : k < m.ss.length
        · have hkI : (k : Int) < (m.ss.length : Int) := by omega
          obtain ⟨s, hs⟩ : ∃ s, m.ss[k]? = some s := ⟨_, List.getElem?_eq_getElem hlk⟩
          obtain ⟨f0, f1, f2, f3, f4⟩ := stt_at (HA.out.at_ HR.out.2.2.2).is hs
          by_cases hq : s.o = (d : Int)
          · have hqB : (s.o != (d : Int)) = false := by simp [hq]
            have HS1 := hid (And.intro hs hq)
            have HF := hid (And.intro f3 f4)
            obtain ⟨lb1, lb2⟩ := HR.out.1.lb OK.out hk
            have hroom := HR.out.1.room OK.out hs hq
            have hsB := OK.out.stt s (List.mem_of_getElem? hs)
            have HSB := hid hsB
            have HROOM := hid hroom
            clear hs hq f1 f2 f3 f4 hroom hsB
            go_wp2
            clear t0 t1 t2 t3 f0
            generalize wr = wk at *
            go_loopw [9, 10, 11] (fun a b i W => ∃ j : Nat, k + 1 ≤ j ∧ j ≤ m.ss.length ∧ i = .int .i64 j ∧ a = .int .i64 (lf - tlS m d (k + 1) Stt.hi j) ∧ b = .int .i64 (lf - tlS m d (k + 1) Stt.lo j) ∧ Below wk.heap.size wk W) (fun _ _ i _ => m.ss.length - (intOf i).toNat)
            case atStart => exact ⟨k + 1, Nat.le_refl _, by omega, by go_num, by rw [tlS_zero, Int.sub_zero], by rw [tlS_zero, Int.sub_zero], Below.refl _ _⟩
            case round =>
              obtain ⟨j, hj0, hj, rfl, rfl, rfl, hbr⟩ := hrel
              have HRJ := hid hbr
              have HTJ := hid (HR.out.2.2.1.keep hbr)
              obtain ⟨t0, t1, t2, t3⟩ := HTJ.out.c4
              have HBJ := hid (HR.out.2.2.2.trans (hbr.mono HR.out.2.2.2.size))
              clear hbr
              obtain ⟨b1, b2, b3, b4⟩ := tlS_b OK.out d (k + 1) j (by omega) hj
              by_cases hlj : j < m.ss.length
              · have hjI : (j : Int) < (m.ss.length : Int) := by omega
                obtain ⟨z, hz⟩ : ∃ z, m.ss[j]? = some z := ⟨_, List.getElem?_eq_getElem hlj⟩
                obtain ⟨z0, z1, z2, z3, z4⟩ := stt_at (HA.out.at_ HBJ.out).is hz
                have hzB := OK.out.stt z (List.mem_of_getElem? hz)
                by_cases hzq : z.o = (d : Int)
                · have hqz : (z.o == (d : Int)) = true := by simp [hzq]
                  have HTH := hid (tlS_take (k := k + 1) (g := Stt.hi) hz hzq)
                  have HTL := hid (tlS_take (k := k + 1) (g := Stt.lo) hz hzq)
                  have hw1 : IntKind.i64.wrap (lf - tlS m d (k + 1) Stt.hi j - z.hi) = lf - tlS m d (k + 1) Stt.hi j - z.hi := IntWalk.i64_in _ (by omega)
                  have hw2 : IntKind.i64.wrap (lf - tlS m d (k + 1) Stt.lo j - z.lo) = lf - tlS m d (k + 1) Stt.lo j - z.lo := IntWalk.i64_in _ (by omega)
                  clear hz hzq z1 z2 hzB b1 b2 b3 b4
                  go_wp2
                  clear z0 t0 t1 t2 t3
                  have s3 := xt_cell z3
                  have s4 := xt_cell z4
                  obtain ⟨x0, x1, x2, x3⟩ := xt_c4 HTJ.out
                  clear z3 z4
                  refine wp_region_quiet_xt (by kernel_rfl) (by kernel_rfl) ?_
                  repeat (go_big_quiet_step (fail))
                  refine wpQuiet_nil ?_
                  intro W3 hw3
                  replace hw3 := of_xt hw3
                  have HW3 := hid (HRJ.out.trans (hw3.mono HRJ.out.size))
                  clear hw3 s3 s4 x0 x1 x2 x3
                  go_wp2
                  go_roundw
                  case rel => exact ⟨j + 1, by omega, by omega, by go_num, by rw [HTH.out, ← Int.sub_sub], by rw [HTL.out, ← Int.sub_sub], HW3.out⟩
                  case measure => first | (simp [intOf]; done) | (simp [intOf]; omega)
                · have hqz : (z.o == (d : Int)) = false := by simp [hzq]
                  have HTH := hid (tlS_skip (k := k + 1) (g := Stt.hi) hz hzq)
                  have HTL := hid (tlS_skip (k := k + 1) (g := Stt.lo) hz hzq)
                  clear hz hzq z1 z2 z3 z4 hzB b1 b2 b3 b4
                  go_wp2
                  clear z0 t0 t1 t2 t3
                  go_roundw
                  case rel => exact ⟨j + 1, by omega, by omega, by go_num, by rw [HTH.out], by rw [HTL.out], HRJ.out⟩
                  case measure => first | (simp [intOf]; done) | (simp [intOf]; omega)
              · have hjI : decide ((j : Int) < (m.ss.length : Int)) = false := by simp; omega
                obtain rfl : j = m.ss.length := by omega
                obtain ⟨lb3, hlb3⟩ : ∃ z, lf - tlS m d (k + 1) Stt.hi m.ss.length = z := ⟨_, rfl⟩
                obtain ⟨lb4, hlb4⟩ : ∃ z, lf - tlS m d (k + 1) Stt.lo m.ss.length = z := ⟨_, rfl⟩
                have hrm := HROOM.out
                rw [hlb3, hlb4] at hrm
                obtain ⟨lo, hlo⟩ : ∃ z, max lb3 s.lo = z := ⟨_, rfl⟩
                obtain ⟨hi, hhi⟩ : ∃ z, min lb4 s.hi = z := ⟨_, rfl⟩
                have hmx : (if lb3 < s.lo then s.lo else lb3) = lo := by rw [← hlo]; split <;> omega
                have hmn : (if s.hi < lb4 then s.hi else lb4) = hi := by rw [← hhi]; split <;> omega
                have hmxv : (if lb3 < s.lo then Value.int .i64 s.lo else Value.int .i64 lb3) = Value.int .i64 lo := by rw [← hlo]; split <;> congr 1 <;> omega
                have hmnv : (if s.hi < lb4 then Value.int .i64 s.hi else Value.int .i64 lb4) = Value.int .i64 hi := by rw [← hhi]; split <;> congr 1 <;> omega
                have hsb := HSB.out
                have hlh : lo ≤ hi ∧ -400000 ≤ lo ∧ hi ≤ 400000 := by omega
                have HP := hid (show max (lf - tlS m d (k + 1) Stt.hi m.ss.length) s.lo = lo ∧ min (lf - tlS m d (k + 1) Stt.lo m.ss.length) s.hi = hi from ⟨by rw [hlb3]; exact hlo, by rw [hlb4]; exact hhi⟩)
                clear hrm hlo hhi hsb b1 b2 b3 b4
                go_wp2
                clear t0 t1 t2 t3
                rw [hlb3, hlb4]
                clear hlb3 hlb4
                have hfj := HBJ.out
                have s3 := xt_cell ((stt_at (HA.out.at_ hfj).is HS1.out.1).2.2.2.1)
                have s4 := xt_cell ((stt_at (HA.out.at_ hfj).is HS1.out.1).2.2.2.2)
                obtain ⟨x0, x1, x2, x3⟩ := xt_c4 HTJ.out
                clear hfj
                refine wp_region_quiet_xt (by kernel_rfl) (by kernel_rfl) ?_
                repeat (go_big_quiet_step (fail))
                refine wpQuiet_nil ?_
                intro W3 hw3
                replace hw3 := of_xt hw3
                have HW3 := hid (HRJ.out.trans (hw3.mono HRJ.out.size))
                clear hw3 s3 s4 x0 x1 x2 x3 hmx hmn hmxv hmnv
                have HBW := hid (HR.out.2.2.2.trans (HW3.out.mono HR.out.2.2.2.size))
                have KW := hid (word_any Aw cw ws k W3 (HW.out.at_ HBW.out) HWL.out (by omega))
                go_wp2_with fail
                refine KW.out.mono ?_
                rintro e w9 ⟨x, rfl, hx0, hx1, hb⟩
                have hb9 := HW3.out.trans (hb.mono HW3.out.size)
                have HR9 := hid (And.intro (HR.out.2.1.keep hb9) (And.intro (HR.out.2.2.1.keep hb9) (HR.out.2.2.2.trans (hb9.mono HR.out.2.2.2.size))))
                clear hb hb9 KW HW3 HBW HRJ HTJ HBJ
                obtain ⟨r, hr⟩ : ∃ r, x % 4 = r := ⟨_, rfl⟩
                have htm : x.tmod 4 = r := by rw [Int.tmod_eq_emod_of_nonneg hx0]; exact hr
                have hwr : IntKind.i64.wrap r = r := IntWalk.i64_in _ (by omega)
                clear hr
                by_cases r0 : r = 0
                · have r0B : (r == 0) = true := by simp [r0]
                  have hwv : IntKind.i64.wrap (lf - (lo)) = lf - (lo) := IntWalk.i64_in _ (by omega)
                  have HNX := hid (HR.out.1.take HS1.out.1 HS1.out.2 (x := lo) (by rw [HP.out.1]; omega) (by rw [HP.out.2]; omega))
                  have yo := (HR9.out.1.cell k)
                  rw [intC_get (xs_get HR.out.1.len hlk)] at yo
                  have yf := HR9.out.1.frozen k
                  have yl := HR9.out.1.lt
                  have HNB := hid (show Blk (w9.setCell ⟨w.heap.size + 1, k, none⟩ (.int .i64 (lo))) (w.heap.size + 1) 3 (intC (zs.set k (lo))) ∧ Blk (w9.setCell ⟨w.heap.size + 1, k, none⟩ (.int .i64 (lo))) w.heap.size 26 #[.slice (some ao) m.old.length c, .int .i64 m.nw, .slice (some aa) m.ss.length c2, .slice A3 m.js.length c3] ∧ Below w.heap.size w (w9.setCell ⟨w.heap.size + 1, k, none⟩ (.int .i64 (lo))) from ⟨by rw [← intC_set]; exact HR9.out.1.set_ k _, blk_off HR9.out.2.1 (by omega), HR9.out.2.2.setCell (p := ⟨w.heap.size + 1, k, none⟩) (by show w.heap.size ≤ w.heap.size + 1; omega) _⟩)
                  clear HR9 HR
                  go_wp2
                  clear yo yf yl
                  go_roundw
                  case rel => exact ⟨k + 1, _, _, by omega, by go_num, rfl, HNX.out, HNB.out⟩
                  case measure => first | (simp [intOf]; done) | (simp [intOf]; omega)
                · have r0B : (r == 0) = false := by simpa using r0
                  by_cases r1 : r = 1
                  · have r1B : (r == 1) = true := by simp [r1]
                    have hwv : IntKind.i64.wrap (lf - (hi)) = lf - (hi) := IntWalk.i64_in _ (by omega)
                    have HNX := hid (HR.out.1.take HS1.out.1 HS1.out.2 (x := hi) (by rw [HP.out.1]; omega) (by rw [HP.out.2]; omega))
                    have yo := (HR9.out.1.cell k)
                    rw [intC_get (xs_get HR.out.1.len hlk)] at yo
                    have yf := HR9.out.1.frozen k
                    have yl := HR9.out.1.lt
                    have HNB := hid (show Blk (w9.setCell ⟨w.heap.size + 1, k, none⟩ (.int .i64 (hi))) (w.heap.size + 1) 3 (intC (zs.set k (hi))) ∧ Blk (w9.setCell ⟨w.heap.size + 1, k, none⟩ (.int .i64 (hi))) w.heap.size 26 #[.slice (some ao) m.old.length c, .int .i64 m.nw, .slice (some aa) m.ss.length c2, .slice A3 m.js.length c3] ∧ Below w.heap.size w (w9.setCell ⟨w.heap.size + 1, k, none⟩ (.int .i64 (hi))) from ⟨by rw [← intC_set]; exact HR9.out.1.set_ k _, blk_off HR9.out.2.1 (by omega), HR9.out.2.2.setCell (p := ⟨w.heap.size + 1, k, none⟩) (by show w.heap.size ≤ w.heap.size + 1; omega) _⟩)
                    clear HR9 HR
                    go_wp2
                    clear yo yf yl
                    go_roundw
                    case rel => exact ⟨k + 1, _, _, by omega, by go_num, rfl, HNX.out, HNB.out⟩
                    case measure => first | (simp [intOf]; done) | (simp [intOf]; omega)
                  · have r1B : (r == 1) = false := by simpa using r1
                    obtain ⟨u, hu⟩ : ∃ u, x / 4 = u := ⟨_, rfl⟩
                    have htd : x.tdiv 4 = u := by rw [Int.tdiv_eq_ediv_of_nonneg hx0]; exact hu
                    have hu0 : 0 ≤ u ∧ u ≤ 65535 := by omega
                    have hwu : IntKind.i64.wrap u = u := IntWalk.i64_in _ (by omega)
                    obtain ⟨g, hg⟩ : ∃ g, hi - lo + 1 = g := ⟨_, rfl⟩
                    have hwg1 : IntKind.i64.wrap (hi - lo) = hi - lo := IntWalk.i64_in _ (by omega)
                    have hwg2 : IntKind.i64.wrap (hi - lo + 1) = g := by rw [hg]; exact IntWalk.i64_in _ (by omega)
                    have hgn : ¬ g = 0 := by omega
                    obtain ⟨y, hy⟩ : ∃ y, u % g = y := ⟨_, rfl⟩
                    have hty : u.tmod g = y := by rw [Int.tmod_eq_emod_of_nonneg hu0.1]; exact hy
                    have hy0 : 0 ≤ y := by rw [← hy]; exact Int.emod_nonneg _ hgn
                    have hy1 : y < g := by rw [← hy]; exact Int.emod_lt_of_pos _ (by omega)
                    have hwy : IntKind.i64.wrap y = y := IntWalk.i64_in _ (by omega)
                    have hwz : IntKind.i64.wrap (lo + y) = lo + y := IntWalk.i64_in _ (by omega)
                    clear hu hy
                    have hwv : IntKind.i64.wrap (lf - (lo + y)) = lf - (lo + y) := IntWalk.i64_in _ (by omega)
                    have HNX := hid (HR.out.1.take HS1.out.1 HS1.out.2 (x := lo + y) (by rw [HP.out.1]; omega) (by rw [HP.out.2]; omega))
                    have yo := (HR9.out.1.cell k)
                    rw [intC_get (xs_get HR.out.1.len hlk)] at yo
                    have yf := HR9.out.1.frozen k
                    have yl := HR9.out.1.lt
                    have HNB := hid (show Blk (w9.setCell ⟨w.heap.size + 1, k, none⟩ (.int .i64 (lo + y))) (w.heap.size + 1) 3 (intC (zs.set k (lo + y))) ∧ Blk (w9.setCell ⟨w.heap.size + 1, k, none⟩ (.int .i64 (lo + y))) w.heap.size 26 #[.slice (some ao) m.old.length c, .int .i64 m.nw, .slice (some aa) m.ss.length c2, .slice A3 m.js.length c3] ∧ Below w.heap.size w (w9.setCell ⟨w.heap.size + 1, k, none⟩ (.int .i64 (lo + y))) from ⟨by rw [← intC_set]; exact HR9.out.1.set_ k _, blk_off HR9.out.2.1 (by omega), HR9.out.2.2.setCell (p := ⟨w.heap.size + 1, k, none⟩) (by show w.heap.size ≤ w.heap.size + 1; omega) _⟩)
                    clear HR9 HR
                    go_wp2
                    clear yo yf yl
                    go_roundw
                    case rel => exact ⟨k + 1, _, _, by omega, by go_num, rfl, HNX.out, HNB.out⟩
                    case measure => first | (simp [intOf]; done) | (simp [intOf]; omega)
          · have hqB : (s.o != (d : Int)) = true := by simpa using hq
            have HNX := hid (HR.out.1.skip hs hq)
            clear hs hq f1 f2 f3 f4
            go_wp2
            clear t0 t1 t2 t3 f0
            go_roundw
            case rel => exact ⟨k + 1, zs, lf, by omega, by go_num, rfl, HNX.out, HR.out.2⟩
            case measure => first | (simp [intOf]; done) | (simp [intOf]; omega)
        · have hkI : decide ((k : Int) < (m.ss.length : Int)) = false := by simp; omega
          obtain rfl : k = m.ss.length := by omega
          have HNX := hid HR.out.1.done
          go_wp2
          clear t0 t1 t2 t3
          go_roundw
          case rel => exact ⟨d + 1, zs, by omega, by go_num, HNX.out, HR.out.2⟩
          case measure => first | (simp [intOf]; done) | (simp [intOf]; omega)
    · have hdI : decide ((d : Int) < (m.old.length : Int)) = false := by simp; omega
      obtain rfl : d = m.old.length := by omega
      have HTR := hid (HR.out.1.tr OK.out)
      have HLE := hid HR.out.1.len
      have HFI := hid (show IntsAt (some ⟨w.heap.size + 1, 0, none⟩, m.ss.length) xs wr from ⟨ints_blk HR.out.2.1, by rw [HLE.out]; exact Nat.le_refl _, by unfold maxLen; omega⟩)
      have HBE := hid HR.out.2.2.2
      clear HR
      go_wp2
      clear t0 t1 t2 t3
      go_ret
      exact ⟨xs, HTR.out, (some ⟨w.heap.size + 1, 0, none⟩, m.ss.length), by rw [HLE.out]; rfl, HFI.out, HBE.out⟩
end Go.Proofs.Ytoeabajigfdkaaa
/- Numbers that are pushed to an end, in plain words: they are a truth, and reach the bounds. Conditions stand at each theorem. -/
namespace Go.Proofs.Ytoeabajigfdkaaa

/-- numbers xs, and what is left ls of each old district's count; the streets that pass f have had their turn -/
structure PuS (m : MapD) (f : Nat → Bool) (xs ls : List Int) : Prop where
  lx : xs.length = m.ss.length
  ll : ls.length = m.old.length
  rng : ∀ i, i < m.ss.length → inX m xs i
  lft : ∀ d, d < m.old.length → ls.getD d 0 = m.at_ d - sumX m d xs m.ss.length
  pos : ∀ d, d < m.old.length → 0 ≤ ls.getD d 0
  trn : ∀ d, d < m.old.length → ls.getD d 0 = 0 ∨ ∀ i, i < m.ss.length → (m.S i).o = (d : Int) → f i = true → xs.getD i 0 = (m.S i).hi
theorem PuS.congr {m : MapD} {f g : Nat → Bool} {xs ls : List Int} (h : PuS m f xs ls) (hfg : ∀ i, i < m.ss.length → g i = true → f i = true) : PuS m g xs ls :=
  ⟨h.lx, h.ll, h.rng, h.lft, h.pos, fun d hd => (h.trn d hd).imp id fun h i hi ho hg => h i hi ho (hfg i hi hg)⟩
theorem sumX_set {m : MapD} {d k : Nat} {xs : List Int} {x : Int} (hk : k < m.ss.length) (hl : xs.length = m.ss.length) (ho : (m.S k).o = (d : Int)) : sumX m d (xs.set k x) m.ss.length = sumX m d xs m.ss.length + (x - xs.getD k 0) := by
  unfold sumX
  rw [sumN_set (f := fun i => if (m.S i).o = (d : Int) then (xs.set k x).getD i 0 else 0) (g := fun i => if (m.S i).o = (d : Int) then xs.getD i 0 else 0) hk fun i _ hne => by
    show (if (m.S i).o = (d : Int) then (xs.set k x).getD i 0 else 0) = if (m.S i).o = (d : Int) then xs.getD i 0 else 0
    rw [set_getD_ne (by omega)]]
  show sumX m d xs m.ss.length + ((if (m.S k).o = (d : Int) then (xs.set k x).getD k 0 else 0) - if (m.S k).o = (d : Int) then xs.getD k 0 else 0) = _
  rw [if_pos ho, if_pos ho, set_getD_eq (by omega)]; rfl
/-- street k has its turn -/
theorem PuS.turn {m : MapD} {f : Nat → Bool} {xs ls : List Int} (h : PuS m f xs ls) {k q : Nat} {s : Stt} (hs : m.ss[k]? = some s) (ho : s.o = (q : Int)) (hq : q < m.old.length) {n : Int} (hn : n = min (ls.getD q 0) (s.hi - xs.getD k 0)) :
    PuS m (fun i => f i || decide (i = k)) (xs.set k (xs.getD k 0 + n)) (ls.set q (ls.getD q 0 - n)) := by
  have hk := (List.getElem?_eq_some_iff.1 hs).1
  have hS := MapD.S_eq hs
  have hlx := h.lx
  have hll := h.ll
  have hok : (m.S k).o = (q : Int) := by rw [hS]; exact ho
  have hr := h.rng k hk
  unfold inX at hr
  rw [hS] at hr
  have hp := h.pos q hq
  have hn0 : 0 ≤ n := by omega
  refine ⟨by rw [List.length_set]; exact hlx, by rw [List.length_set]; exact hll, fun i hi => ?_, fun d hd => ?_, fun d hd => ?_, fun d hd => ?_⟩
  · by_cases e : i = k
    · subst e
      unfold inX
      rw [hS, set_getD_eq (by omega)]
      omega
    · have := h.rng i hi
      unfold inX at this ⊢
      rwa [set_getD_ne (by omega)]
  · by_cases e : d = q
    · subst e
      rw [set_getD_eq (by omega), sumX_set hk hlx hok, h.lft d hd]
      omega
    · rw [set_getD_ne (by omega), sumX_set_ne (by rw [hok]; omega)]
      exact h.lft d hd
  · by_cases e : d = q
    · subst e
      rw [set_getD_eq (by omega)]
      omega
    · rw [set_getD_ne (by omega)]
      exact h.pos d hd
  · by_cases e : d = q
    · subst e
      rw [set_getD_eq (by omega)]
      rcases h.trn d hd with h0 | h1
      · exact .inl (by omega)
      · by_cases e2 : ls.getD d 0 - n = 0
        · exact .inl e2
        · refine .inr fun i hi hoi hf => ?_
          by_cases e3 : i = k
          · subst e3
            rw [set_getD_eq (by omega), hS]
            omega
          · rw [set_getD_ne (by omega)]
            refine h1 i hi hoi ?_
            simpa [e3] using hf
    · rw [set_getD_ne (by omega)]
      refine (h.trn d hd).imp id fun h1 i hi hoi hf => ?_
      have e3 : i ≠ k := fun e3 => by subst e3; rw [hok] at hoi; omega
      rw [set_getD_ne (by omega)]
      exact h1 i hi hoi (by simpa [e3] using hf)
/-- at the start all have as few as may be -/
def psO (m : MapD) (k : Nat) : List Int := lst m fun i => if i < k then (m.S i).lo else 0
def psL (m : MapD) (k : Nat) : List Int := (List.range m.old.length).map fun d => m.at_ d - sumO m d tt Stt.lo k
theorem psO_zero (m : MapD) : psO m 0 = List.replicate m.ss.length 0 := by
  refine List.ext_getElem? fun i => ?_
  unfold psO lst
  by_cases h : i < m.ss.length
  · simp [h]
  · simp [h]
theorem psL_len (m : MapD) (k : Nat) : (psL m k).length = m.old.length := by simp [psL]
theorem psO_len (m : MapD) (k : Nat) : (psO m k).length = m.ss.length := lst_len _ _
theorem psL_get {m : MapD} {k d : Nat} (h : d < m.old.length) : (psL m k)[d]? = some (m.at_ d - sumO m d tt Stt.lo k) := by simp [psL, h]
theorem psL_zero (m : MapD) : psL m 0 = m.old := by
  refine List.ext_getElem? fun d => ?_
  by_cases h : d < m.old.length
  · have e : m.old[d]? = some m.old[d] := List.getElem?_eq_getElem h
    rw [psL_get h, e, MapD.at_eq e]
    have : sumO m d tt Stt.lo 0 = 0 := rfl
    rw [this, Int.sub_zero]
  · rw [List.getElem?_eq_none (by rw [psL_len]; omega), List.getElem?_eq_none (by omega)]
theorem psO_step {m : MapD} {k : Nat} {s : Stt} (h : m.ss[k]? = some s) : (psO m k).set k s.lo = psO m (k + 1) := by
  have hk := (List.getElem?_eq_some_iff.1 h).1
  refine List.ext_getElem? fun i => ?_
  rw [List.getElem?_set]
  unfold psO
  by_cases hi : i < m.ss.length
  · rw [lst_get hi, lst_get hi, lst_len]
    by_cases e : k = i
    · subst e
      rw [if_pos rfl, if_pos hk, if_pos (by omega), MapD.S_eq h]
    · rw [if_neg e]
      by_cases h2 : i < k
      · rw [if_pos h2, if_pos (by omega)]
      · rw [if_neg h2, if_neg (by omega)]
  · rw [if_neg (by omega), List.getElem?_eq_none (by rw [lst_len]; omega), List.getElem?_eq_none (by rw [lst_len]; omega)]
theorem psL_step {m : MapD} {k q : Nat} {s : Stt} (h : m.ss[k]? = some s) (hq : s.o = (q : Int)) : (psL m k).set q (m.at_ q - sumO m q tt Stt.lo k - s.lo) = psL m (k + 1) := by
  refine List.ext_getElem? fun d => ?_
  rw [List.getElem?_set, psL_len]
  by_cases hd : d < m.old.length
  · rw [psL_get hd, psL_get hd]
    by_cases e : q = d
    · subst e
      rw [if_pos rfl, if_pos hd, sumO_take h hq rfl]
      congr 1
      omega
    · rw [if_neg e, sumO_skip h (by omega)]
  · rw [List.getElem?_eq_none (by rw [psL_len]; omega : (psL m (k + 1)).length ≤ d), List.getElem?_eq_none (by rw [psL_len]; omega : (psL m k).length ≤ d)]
    split
    · rw [if_neg (by omega)]
    · rfl
theorem psO_at {m : MapD} {k i : Nat} (hi : i < m.ss.length) : (psO m k).getD i 0 = if i < k then (m.S i).lo else 0 := by
  unfold psO
  rw [List.getD, lst_get hi]; rfl
theorem psL_at {m : MapD} {k d : Nat} (hd : d < m.old.length) : (psL m k).getD d 0 = m.at_ d - sumO m d tt Stt.lo k := by
  rw [List.getD, psL_get hd]; rfl
theorem ps_start {m : MapD} (hc : cstM m = 0) : PuS m (fun _ => false) (psO m m.ss.length) (psL m m.ss.length) := by
  have ok := chk_okm (cst_ok hc).1
  refine ⟨psO_len _ _, psL_len _ _, fun i hi => ?_, fun d hd => ?_, fun d hd => ?_, fun d _ => .inr fun i _ _ h => by cases h⟩
  · have := ok.sAt hi
    unfold inX
    rw [psO_at hi, if_pos hi]
    omega
  · rw [psL_at hd]
    congr 1
    unfold sumO sumX
    refine sumN_congr fun i hi => ?_
    rw [psO_at hi, if_pos hi]
    simp [tt]
  · rw [psL_at hd]
    have := conM_at (cst_ok hc).2 hd
    omega
/-- the streets that have had their turn in step t, of the first k -/
def fT (q : Nat → Bool) : Nat → Nat → Nat → Bool
  | 0, k => fun i => q i && decide (i < k)
  | 1, k => fun i => q i || decide (i < k)
  | _, _ => fun _ => true
/-- the streets that pass q go first -/
structure PuR (m : MapD) (q : Nat → Bool) (t k : Nat) (xs ls : List Int) : Prop where
  s : PuS m (fT q t k) xs ls
  a : t = 0 → ∀ i, i < m.ss.length → q i = false → xs.getD i 0 = (m.S i).lo
  b : t ≠ 0 → ∀ d, d < m.old.length → sumP m q d xs = partHi m q d
theorem PuR.start {m : MapD} (hc : cstM m = 0) (q : Nat → Bool) : PuR m q 0 0 (psO m m.ss.length) (psL m m.ss.length) :=
  ⟨(ps_start hc).congr fun i _ h => by simp [fT] at h, fun _ i hi _ => by rw [psO_at hi, if_pos hi], fun h => absurd rfl h⟩
theorem PuR.skip {m : MapD} {q : Nat → Bool} {t k : Nat} {xs ls : List Int} (h : PuR m q t k xs ls) (ht : t < 2) (hq : (q k == decide (t = 0)) = false) : PuR m q t (k + 1) xs ls := by
  refine ⟨h.s.congr fun i _ hf => ?_, h.a, h.b⟩
  match t, ht, hq with
  | 0, _, hq =>
    simp only [fT, Bool.and_eq_true, decide_eq_true_eq] at hf ⊢
    refine ⟨hf.1, ?_⟩
    rcases Nat.lt_succ_iff_lt_or_eq.1 hf.2 with h | h
    · exact h
    · subst h; rw [hf.1] at hq; simp at hq
  | 1, _, hq =>
    simp only [fT, Bool.or_eq_true, decide_eq_true_eq] at hf ⊢
    rcases hf with h | h
    · exact .inl h
    · rcases Nat.lt_succ_iff_lt_or_eq.1 h with h | h
      · exact .inr h
      · subst h
        refine .inl ?_
        cases e : q i with
        | true => rfl
        | false => rw [e] at hq; simp at hq
theorem sumP_set_ne {m : MapD} {p : Nat → Bool} {d k : Nat} {xs : List Int} {x : Int} (h : p k = false) : sumP m p d (xs.set k x) = sumP m p d xs := by
  unfold sumP
  refine sumN_congr fun i _ => ?_
  by_cases e : i = k
  · subst e
    rw [if_neg fun e => (by rw [h] at e; cases e.2), if_neg fun e => (by rw [h] at e; cases e.2)]
  · rw [set_getD_ne (by omega)]
theorem PuR.turn {m : MapD} {q : Nat → Bool} {t k : Nat} {xs ls : List Int} (h : PuR m q t k xs ls) (ht : t < 2) (hq : (q k == decide (t = 0)) = true) {o : Nat} {s : Stt} (hs : m.ss[k]? = some s) (ho : s.o = (o : Int)) (ho2 : o < m.old.length) {n : Int} (hn : n = min (ls.getD o 0) (s.hi - xs.getD k 0)) :
    PuR m q t (k + 1) (xs.set k (xs.getD k 0 + n)) (ls.set o (ls.getD o 0 - n)) := by
  refine ⟨(h.s.turn hs ho ho2 hn).congr fun i _ hf => ?_, fun e i hi hqi => ?_, fun e d hd => ?_⟩
  · match t, ht with
    | 0, _ =>
      simp only [fT, Bool.and_eq_true, Bool.or_eq_true, decide_eq_true_eq] at hf ⊢
      rcases Nat.lt_succ_iff_lt_or_eq.1 hf.2 with h | h
      · exact .inl ⟨hf.1, h⟩
      · exact .inr h
    | 1, _ =>
      simp only [fT, Bool.or_eq_true, decide_eq_true_eq] at hf ⊢
      rcases hf with h | h
      · exact .inl (.inl h)
      · rcases Nat.lt_succ_iff_lt_or_eq.1 h with h | h
        · exact .inl (.inr h)
        · exact .inr h
  · subst e
    have hne : i ≠ k := fun e => by subst e; rw [hqi] at hq; simp at hq
    rw [set_getD_ne (by omega)]
    exact h.a rfl i hi hqi
  · rw [sumP_set_ne]
    · exact h.b e d hd
    · rw [decide_eq_false e] at hq
      cases e2 : q k with
      | false => rfl
      | true => rw [e2] at hq; simp at hq
theorem PuR.next0 {m : MapD} {q : Nat → Bool} {xs ls : List Int} (h : PuR m q 0 m.ss.length xs ls) : PuR m q 1 0 xs ls := by
  refine ⟨h.s.congr fun i hi hf => ?_, fun e => by omega, fun _ d hd => ?_⟩
  · simp only [fT, Bool.or_eq_true, decide_eq_true_eq] at hf
    simp only [fT, Bool.and_eq_true, decide_eq_true_eq]
    exact ⟨hf.resolve_right (by omega), hi⟩
  · have h1 := sumP_split m q d xs
    have h2 : sumP m (nt q) d xs = sumO m d (nt q) Stt.lo m.ss.length := by
      unfold sumP sumO
      refine sumN_congr fun i hi => ?_
      by_cases e : (m.S i).o = (d : Int) ∧ nt q i = true
      · rw [if_pos e, if_pos e]
        exact h.a rfl i hi (by simpa [nt] using e.2)
      · rw [if_neg e, if_neg e]
    have h3 := (sumP_b h.s.rng q d).2
    have h4 := h.s.lft d hd
    have h5 := h.s.pos d hd
    unfold partHi
    rcases h.s.trn d hd with h6 | h6
    · omega
    · have h7 : sumP m q d xs = sumO m d q Stt.hi m.ss.length := by
        unfold sumP sumO
        refine sumN_congr fun i hi => ?_
        by_cases e : (m.S i).o = (d : Int) ∧ q i = true
        · rw [if_pos e, if_pos e]
          exact h6 i hi e.1 (by simp [fT, e.2, hi])
        · rw [if_neg e, if_neg e]
      omega
theorem PuR.next1 {m : MapD} {q : Nat → Bool} {xs ls : List Int} (h : PuR m q 1 m.ss.length xs ls) : PuR m q 2 0 xs ls :=
  ⟨h.s.congr fun i hi _ => by simp [fT, hi], fun e => by omega, fun _ => h.b (by omega)⟩
theorem PuR.tr {m : MapD} (hc : cstM m = 0) {q : Nat → Bool} {xs ls : List Int} (h : PuR m q 2 0 xs ls) : IsTr m xs ∧ ∀ d, d < m.old.length → sumP m q d xs = partHi m q d := by
  refine ⟨⟨h.s.lx, h.s.rng, fun d hd => ?_⟩, h.b (by omega)⟩
  have h4 := h.s.lft d hd
  have h5 := h.s.pos d hd
  rcases h.s.trn d hd with h6 | h6
  · omega
  · have h7 : sumX m d xs m.ss.length = sumO m d tt Stt.hi m.ss.length := by
      unfold sumX sumO
      refine sumN_congr fun i hi => ?_
      by_cases e : (m.S i).o = (d : Int)
      · rw [if_pos e, if_pos ⟨e, rfl⟩]
        exact h6 i hi e rfl
      · rw [if_neg e, if_neg fun h => e h.1]
    have h8 := conM_at (cst_ok hc).2 hd
    omega
/-- the lowest sum is what the others' highest leaves -/
theorem low_of_high {m : MapD} {p : Nat → Bool} {xs : List Int} (h : IsTr m xs) {d : Nat} (hd : d < m.old.length) (hq : sumP m (nt p) d xs = partHi m (nt p) d) : sumP m p d xs = partLo m p d := by
  have h1 := sumP_split m p d xs
  rw [h.sum d hd] at h1
  have e : nt (nt p) = p := funext fun i => by simp [nt]
  unfold partHi at hq
  rw [e] at hq
  unfold partLo
  omega
/-- which streets are pushed first -/
def puQ (p : Nat → Bool) (high : Bool) : Nat → Bool := if high then p else nt p
def Pushed (m : MapD) (p : Nat → Bool) (high : Bool) (xs : List Int) : Prop := IsTr m xs ∧ ∀ d, d < m.old.length → sumP m p d xs = if high then partHi m p d else partLo m p d
theorem PuR.pushed {m : MapD} (hc : cstM m = 0) {p : Nat → Bool} {high : Bool} {xs ls : List Int} (h : PuR m (puQ p high) 2 0 xs ls) : Pushed m p high xs := by
  obtain ⟨h1, h2⟩ := h.tr hc
  refine ⟨h1, fun d hd => ?_⟩
  cases high with
  | true => exact h2 d hd
  | false => exact low_of_high h1 hd (h2 d hd)
theorem push_street {m : MapD} (ok : OkM m) {k : Nat} (hk : k < m.ss.length) {high : Bool} {xs : List Int} (h : Pushed m (aloneP k) high xs) : xs.getD k 0 = if high then (strOne m k).2 else (strOne m k).1 := by
  have ho := ok.sAt hk
  have h1 := h.2 (m.S k).o.toNat (by omega)
  have e : sumP m (aloneP k) (m.S k).o.toNat xs = xs.getD k 0 := by
    unfold sumP
    rw [sumN_one hk fun i _ hi => if_neg fun h => by
      have := h.2
      simp only [aloneP, beq_iff_eq] at this
      omega]
    rw [if_pos ⟨by omega, by simp [aloneP]⟩]
  rw [e] at h1
  exact h1
theorem push_size {m : MapD} (ok : OkM m) {d : Nat} (hd : d < m.nw.toNat) {high : Bool} {xs : List Int} (h : Pushed m (inD (ownL m) (d : Int)) high xs) : szX m xs d = if high then (bndOne m d).2 else (bndOne m d).1 := by
  rw [szX_eq ok h.1.len hd, ← sumP_all ok]
  cases high with
  | true => exact sumN_congr fun k hk => h.2 k hk
  | false => exact sumN_congr fun k hk => h.2 k hk
end Go.Proofs.Ytoeabajigfdkaaa
/- Numbers of a map that are pushed to an end. Conditions stand at each theorem. -/
namespace Go.Proofs.Ytoeabajigfdkaaa
open Go.RowKit Go.Shelf

/-- a block whose first cells are these numbers -/
def IntB (W : World) (g : Nat) (xs : List Int) : Prop := ∃ cur, Blk W g 3 cur ∧ ∀ (k : Nat) x, xs[k]? = some x → cur[k]? = some (.int .i64 x)
theorem IntB.of {W : World} {g : Nat} {xs : List Int} (h : Blk W g 3 (intC xs)) : IntB W g xs := ⟨_, h, fun _ _ hx => intC_get hx⟩
theorem IntB.keep {W W' : World} {g : Nat} {xs : List Int} (h : IntB W g xs) (hb : Below W.heap.size W W') : IntB W' g xs := by
  obtain ⟨cur, h1, h2⟩ := h
  exact ⟨cur, h1.keep hb, h2⟩
theorem IntB.off {W : World} {g g' i : Nat} {xs : List Int} {v : Value} (h : IntB W g xs) (hne : g ≠ g') : IntB (W.setCell ⟨g', i, none⟩ v) g xs := by
  obtain ⟨cur, h1, h2⟩ := h
  exact ⟨cur, blk_off h1 hne, h2⟩
theorem IntB.upd {W : World} {g k : Nat} {xs : List Int} {v : Int} (h : IntB W g xs) : IntB (W.setCell ⟨g, k, none⟩ (.int .i64 v)) g (xs.set k v) := by
  obtain ⟨cur, h1, h2⟩ := h
  refine ⟨_, h1.set_ k _, fun i x hx => ?_⟩
  rw [List.getElem?_set] at hx
  rw [Array.getElem?_setIfInBounds]
  by_cases e : k = i
  · subst e
    rw [if_pos rfl] at hx
    split at hx
    · rename_i hk
      injection hx with hx
      have := (Array.getElem?_eq_some_iff.1 (h2 k _ (List.getElem?_eq_getElem hk))).1
      rw [if_pos rfl, if_pos this, hx]
    · cases hx
  · rw [if_neg e] at hx
    rw [if_neg e]
    exact h2 i x hx
theorem IntB.cell {W : World} {g k : Nat} {xs : List Int} {x : Int} (h : IntB W g xs) (hx : xs[k]? = some x) : W.cell? ⟨g, k, none⟩ = some (.int .i64 x) := by
  obtain ⟨cur, h1, h2⟩ := h
  exact (h1.cell k).trans (h2 k x hx)
theorem IntB.lt {W : World} {g : Nat} {xs : List Int} (h : IntB W g xs) : g < W.heap.size := by
  obtain ⟨cur, h1, _⟩ := h
  exact h1.lt
theorem IntB.blk {W : World} {g : Nat} {xs : List Int} (h : IntB W g xs) : ∃ cur, Blk W g 3 cur := by
  obtain ⟨cur, h1, _⟩ := h
  exact ⟨cur, h1⟩
theorem IntB.is {W : World} {g : Nat} {xs : List Int} (h : IntB W g xs) : IsInts W W.heap.size (some ⟨g, 0, none⟩) xs := fun k x hx => ⟨_, rfl, h.lt, by rw [add_blk]; exact h.cell hx⟩
theorem IntB.of_row {W : World} {base : Nat} {v : Value} {xs : List Int} (h : W.ownsRow base 3 1 v xs.length (xs.map (Value.int .i64))) (h1 : 1 ≤ xs.length) : ∃ g cap, v = .slice (some ⟨g, 0, none⟩) xs.length cap ∧ IntB W g xs ∧ base ≤ g ∧ xs.length ≤ cap ∧ cap ≤ maxLen := by
  rcases h.2 with ⟨e, h0⟩ | ⟨z, cap, cur, e, hb, hg, hl, hm, _⟩
  · omega
  · refine ⟨z, cap, e, ⟨cur, hg, fun k x hx => ?_⟩, hb, hl, hm⟩
    have hc := h.cells (g := z) (by rw [e]; rfl) k (.int .i64 x) (by simp [hx])
    rw [add_blk] at hc
    rw [← Blk.cell (show Blk W z 3 cur from hg)]
    exact hc
/-- numbers behind an empty list of the call's own: only new memory -/
theorem copy_nums {W : World} {base g0 : Nat} {a : Addr} {c : Nat} {xs : List Int} (hx : IsInts W W.heap.size (some a) xs) (hg : Blk W g0 3 #[]) (h0 : base ≤ g0) (h1 : 1 ≤ xs.length) (hs : xs.length ≤ 1000) :
    ∃ v' w', (Builtin.append_ #[22, 22] 22 #[.slice (some ⟨g0, 0, none⟩) 0 0, .slice (some a) xs.length c]).run Try.prog W = .ok v' w' ∧ w'.ownsRow base 3 1 v' xs.length (xs.map (Value.int .i64)) ∧ Below W.heap.size W w' := by
  obtain ⟨i0, hi0, hz0, hz1, hz2⟩ := info_parts int_info
  have hown : W.ownsRow base 3 1 (.slice (some ⟨g0, 0, none⟩) 0 0) 0 [] := ⟨rfl, .inr ⟨g0, 0, #[], rfl, h0, hg, Nat.le_refl _, Nat.zero_le _, rfl, rfl⟩⟩
  have hcells := ints_news hx
  have hlen : (xs.map (Value.int .i64)).length = xs.length * i0.size := by rw [hz1]; simp
  obtain ⟨v', w', hrun, hown', _, _, _⟩ := run_append_own_at (P := Try.prog) W base 22 22 3 i0 (.int .i64 0) 1 8 Try.underlying22 hi0 hz0 hz1 hz2 rfl (by decide) _ 0 [] hown a xs.length c (xs.map (Value.int .i64)) (by simp) hcells (ints_one xs) (by simp only [maxLen]; omega) (by omega) (by have := hg.lt; omega)
  have hr2 := run_append_grow (P := Try.prog) W 22 22 3 i0 (.int .i64 0) Try.underlying22 hi0 hz0 ⟨g0, 0, none⟩ 0 0 [] (by simp) (fun j v h => by simp at h) a xs.length c (xs.map (Value.int .i64)) hlen hcells (by omega) (by omega) (by
    rw [hz2, nextslicecap_zero (by omega)]
    omega)
  rw [hrun] at hr2
  injection hr2 with e1 e2
  rw [Nat.zero_add, List.nil_append] at hown'
  refine ⟨v', w', hrun, hown', ?_⟩
  rw [e2]
  exact ((Below.refl _ _).drew).alloc (Nat.le_refl _) _
theorem pu_cond (pb high tb : Bool) : (pb == (high == tb)) = ((if high then pb else !pb) == tb) := by cases pb <;> cases high <;> cases tb <;> rfl
theorem PuR.next {m : MapD} {q : Nat → Bool} {t : Nat} {xs ls : List Int} (h : PuR m q t m.ss.length xs ls) (ht : t < 2) : PuR m q (t + 1) 0 xs ls :=
  match t, ht, h with
  | 0, _, h => h.next0
  | 1, _, h => h.next1
theorem ls_get {ls : List Int} {n q : Nat} (hl : ls.length = n) (hq : q < n) : ls[q]? = some (ls.getD q 0) := by
  rw [List.getD, List.getElem?_eq_getElem (by omega)]; rfl

set_option maxRecDepth 100000 in
set_option maxHeartbeats 8000000 in
theorem pushed_any (m : MapD) (A : Option Addr) (c : Nat) (A2 : Option Addr) (c2 : Nat) (A3 : Option Addr) (c3 : Nat) (A4 : Option Addr) (c4 : Nat) (bs : List Int) (dd : Int) (high : Bool) (w : World) (h : MIn m A c A2 c2 A3 c3 w) (hc : cstM m = 0) (hbs : IsInts w w.heap.size A4 bs) (hbl : bs.length = m.ss.length) :
    Calls Try.prog 53 #[.agg #[.slice A m.old.length c, .int .i64 m.nw, .slice A2 m.ss.length c2, .slice A3 m.js.length c3], .slice A4 bs.length c4, .int .i64 dd, .bool high] w fun e w' => ∃ xs, Pushed m (atB bs dd) high xs ∧ GivesI xs w e w' := by
  have OK := hid (chk_okm (cst_ok hc).1)
  have HCM := hid hc
  have hd4 := OK.out.d4
  have hd1 := OK.out.d1
  have hs8 := OK.out.s8
  obtain ⟨ao, rfl⟩ : ∃ a, A = some a := by
    obtain ⟨a, e, _⟩ := h.io 0 _ (List.getElem?_eq_getElem (by have := OK.out.d1; omega))
    exact ⟨a, e⟩
  obtain ⟨aa, rfl⟩ : ∃ a, A2 = some a := by
    obtain ⟨a, e, _⟩ := h.is 0 _ (List.getElem?_eq_getElem (by have := OK.out.s1; omega))
    exact ⟨a, e⟩
  obtain ⟨ab, rfl⟩ : ∃ a, A4 = some a := by
    obtain ⟨a, e, _⟩ := hbs 0 _ (List.getElem?_eq_getElem (by have := OK.out.s1; omega))
    exact ⟨a, e⟩
  have hB := below_box (w := w) #[.slice (some ao) m.old.length c, .int .i64 m.nw, .slice (some aa) m.ss.length c2, .slice A3 m.js.length c3] 26
  have hT := Blk.new w 26 #[.slice (some ao) m.old.length c, .int .i64 m.nw, .slice (some aa) m.ss.length c2, .slice A3 m.js.length c3]
  obtain ⟨t0, t1, t2, t3⟩ := hT.c4
  have hmk := run_make_row' (P := Try.prog) 22 3 (.int .i64 0) 8 Try.underlying22 int_info rfl .i64 .i64 m.ss.length (by omega) (by omega)
  rw [intC_zero] at hmk
  have hZ := Blk.new (w.alloc (.cells #[.slice (some ao) m.old.length c, .int .i64 m.nw, .slice (some aa) m.ss.length c2, .slice A3 m.js.length c3] 26)) 3 (intC (List.replicate m.ss.length 0))
  rw [World.size_alloc] at hZ
  have hB2 := hB.alloc hB.size (.cells (intC (List.replicate m.ss.length 0)) 3)
  have hT2 := hT.alloc (.cells (intC (List.replicate m.ss.length 0)) 3)
  have HS0 := hid (And.intro (IntB.of hZ) (And.intro hT2 hB2))
  have HA := hid h
  have HBS := hid hbs
  have HBL := hid hbl
  clear hZ hB2 hT2 hB hT h hc hbs hbl
  go_enter Try.func53, Try.ntmps53
  go_upto_region 2 with (fail)
  clear hmk t0 t1 t2 t3
  refine gen (p := Code.wp _ _ _ _) (fun W => IntB W (w.heap.size + 1) (List.replicate m.ss.length 0) ∧ Blk W w.heap.size 26 #[.slice (some ao) m.old.length c, .int .i64 m.nw, .slice (some aa) m.ss.length c2, .slice A3 m.js.length c3] ∧ Below w.heap.size w W) HS0.out ?_
  rintro w1 hw1
  have HS1 := hid hw1
  clear hw1 HS0
  obtain ⟨t0, t1, t2, t3⟩ := (HS1.out.2.1.alloc (.cells #[] 3)).c4
  go_wp2_with (at_builtin; refine wpList_run_append rfl _ _ 22 rfl rfl rfl (copy_nums (base := w1.heap.size) (HA.out.at_ (HS1.out.2.2.trans ((below_box _ _).mono HS1.out.2.2.size))).io (Blk.new _ _ _) (Nat.le_refl _) hd1 (by omega)) ?_; rintro v' w7 ⟨ho7, hb7⟩; obtain ⟨g, cap, rfl, hG7, hg7, hc7, hm7⟩ := IntB.of_row ho7 hd1; have hst7 := then_below (below_box _ _) hb7; have HS7 := hid (And.intro (show IntB w7 (w.heap.size + 1) (psO m 0) by rw [psO_zero]; exact HS1.out.1.keep hst7) (And.intro (show IntB w7 g (psL m 0) by rw [psL_zero]; exact hG7) (And.intro (HS1.out.2.1.keep hst7) (HS1.out.2.2.trans (hst7.mono HS1.out.2.2.size))))); have hgw : w.heap.size + 2 ≤ g := (by have := HS1.out.1.lt; omega); clear hst7 ho7 hb7 hG7 hg7 t0 t1 t2 t3)
  have hgo : g ≠ w.heap.size + 1 := by omega
  have hgm : w.heap.size ≠ g := by omega
  have hom : w.heap.size ≠ w.heap.size + 1 := by omega
  clear HS1
  go_loopw [11] (fun i W => ∃ k : Nat, k ≤ m.ss.length ∧ i = .int .i64 k ∧ IntB W (w.heap.size + 1) (psO m k) ∧ IntB W g (psL m k) ∧ Blk W w.heap.size 26 #[.slice (some ao) m.old.length c, .int .i64 m.nw, .slice (some aa) m.ss.length c2, .slice A3 m.js.length c3] ∧ Below w.heap.size w W) (fun i _ => m.ss.length - (intOf i).toNat)
  case atStart => exact ⟨0, Nat.zero_le _, rfl, HS7.out⟩
  case round =>
    clear HS7
    obtain ⟨k, hk, rfl, hrr⟩ := hrel
    have HR := hid hrr
    obtain ⟨t0, t1, t2, t3⟩ := hrr.2.2.1.c4
    clear hrr
    by_cases hlt : k < m.ss.length
    · have hkI : (k : Int) < (m.ss.length : Int) := by omega
      obtain ⟨s, hs⟩ : ∃ s, m.ss[k]? = some s := ⟨_, List.getElem?_eq_getElem hlt⟩
      obtain ⟨f0, f1, f2, f3, f4⟩ := stt_at (HA.out.at_ HR.out.2.2.2).is hs
      have hso := OK.out.stt s (List.mem_of_getElem? hs)
      obtain ⟨q, hq⟩ : ∃ q : Nat, s.o = (q : Int) := ⟨s.o.toNat, by omega⟩
      have yo := HR.out.1.cell (ls_get (psO_len m k) hlt)
      have yl := HR.out.1.lt
      obtain ⟨cz, hcz⟩ := HR.out.1.blk
      have yf := hcz.frozen k
      have HNX := hid (show IntB (wr.setCell ⟨w.heap.size + 1, k, none⟩ (.int .i64 s.lo)) (w.heap.size + 1) (psO m (k + 1)) ∧ IntB (wr.setCell ⟨w.heap.size + 1, k, none⟩ (.int .i64 s.lo)) g (psL m k) ∧ Blk (wr.setCell ⟨w.heap.size + 1, k, none⟩ (.int .i64 s.lo)) w.heap.size 26 #[.slice (some ao) m.old.length c, .int .i64 m.nw, .slice (some aa) m.ss.length c2, .slice A3 m.js.length c3] ∧ Below w.heap.size w (wr.setCell ⟨w.heap.size + 1, k, none⟩ (.int .i64 s.lo)) from ⟨by rw [← psO_step hs]; exact HR.out.1.upd, HR.out.2.1.off hgo, blk_off HR.out.2.2.1 hom, HR.out.2.2.2.setCell (p := ⟨w.heap.size + 1, k, none⟩) (by show w.heap.size ≤ w.heap.size + 1; omega) _⟩)
      have HSQ := hid (And.intro hs (And.intro hq hso))
      clear hs hcz f0 f1 f2 f4 hso hq
      go_upto_region 7 with (fail)
      refine gen (p := Code.wp _ _ _ _) (fun W => IntB W (w.heap.size + 1) (psO m (k + 1)) ∧ IntB W g (psL m k) ∧ Blk W w.heap.size 26 #[.slice (some ao) m.old.length c, .int .i64 m.nw, .slice (some aa) m.ss.length c2, .slice A3 m.js.length c3] ∧ Below w.heap.size w W) HNX.out ?_
      rintro w3 hw3
      have HN3 := hid hw3
      clear hw3 HNX HR yo yf yl f3 t0 t1 t2 t3
      obtain ⟨t0, t1, t2, t3⟩ := HN3.out.2.2.1.c4
      have f0 := (stt_at (HA.out.at_ HN3.out.2.2.2).is HSQ.out.1).1
      rw [HSQ.out.2.1] at f0
      have hqd : q < m.old.length := by have := HSQ.out.2; omega
      have hqI : (q : Int) < (m.old.length : Int) := by omega
      have yo := HN3.out.1.cell (show (psO m (k + 1))[k]? = some s.lo by rw [ls_get (psO_len m (k + 1)) hlt, psO_at hlt, if_pos (by omega), MapD.S_eq HSQ.out.1])
      have yg := HN3.out.2.1.cell (psL_get hqd)
      obtain ⟨cz, hcz⟩ := HN3.out.2.1.blk
      have yf := hcz.frozen q
      have yl := hcz.lt
      have hbb := sumO_bb OK.out q k hk
      have hab := OK.out.atB hqd
      have hsb := HSQ.out.2.2
      obtain ⟨lf, hlf⟩ : ∃ z, m.at_ q - sumO m q tt Stt.lo k = z := ⟨_, rfl⟩
      have hwl : IntKind.i64.wrap (lf - s.lo) = lf - s.lo := IntWalk.i64_in _ (by omega)
      have HNX := hid (show IntB (w3.setCell ⟨g, q, none⟩ (.int .i64 (lf - s.lo))) (w.heap.size + 1) (psO m (k + 1)) ∧ IntB (w3.setCell ⟨g, q, none⟩ (.int .i64 (lf - s.lo))) g (psL m (k + 1)) ∧ Blk (w3.setCell ⟨g, q, none⟩ (.int .i64 (lf - s.lo))) w.heap.size 26 #[.slice (some ao) m.old.length c, .int .i64 m.nw, .slice (some aa) m.ss.length c2, .slice A3 m.js.length c3] ∧ Below w.heap.size w (w3.setCell ⟨g, q, none⟩ (.int .i64 (lf - s.lo))) from ⟨HN3.out.1.off hgo.symm, by rw [← psL_step HSQ.out.1 HSQ.out.2.1, hlf]; exact HN3.out.2.1.upd, blk_off HN3.out.2.2.1 hgm, HN3.out.2.2.2.setCell (p := ⟨g, q, none⟩) (by show w.heap.size ≤ g; omega) _⟩)
      rw [hlf] at yg
      have HNY := hid (And.intro (HNX.out.1.keep (Below.refl _ _).drew) (And.intro (HNX.out.2.1.keep (Below.refl _ _).drew) (And.intro HNX.out.2.2.1.drew HNX.out.2.2.2.drew)))
      clear hlf hbb hab hsb hcz HNX HN3
      go_wp2
      go_still_tail 14, (by kernel_rfl)
      go_wp2
      clear t0 t1 t2 t3 f0 yo yg yf yl
      go_roundw
      case rel => exact ⟨k + 1, by omega, by go_num, HNY.out⟩
      case measure => first | (simp [intOf]; done) | (simp [intOf]; omega)
    · have hkI : decide ((k : Int) < (m.ss.length : Int)) = false := by simp; omega
      obtain rfl : k = m.ss.length := by omega
      go_wp2
      clear t0 t1 t2 t3
      generalize wr = w5 at *
      have HPS := hid (PuR.start HCM.out (puQ (atB bs dd) high))
      go_loopw [12] (fun i W => ∃ (t : Nat) (xs ls : List Int), t ≤ 2 ∧ i = .int .i64 t ∧ PuR m (puQ (atB bs dd) high) t 0 xs ls ∧ IntB W (w.heap.size + 1) xs ∧ IntB W g ls ∧ Blk W w.heap.size 26 #[.slice (some ao) m.old.length c, .int .i64 m.nw, .slice (some aa) m.ss.length c2, .slice A3 m.js.length c3] ∧ Below w.heap.size w W) (fun i _ => 2 - (intOf i).toNat)
      case atStart => exact ⟨0, _, _, by omega, rfl, HPS.out, HR.out⟩
      case round =>
        clear HPS HR
        obtain ⟨t, xs, ls, ht, rfl, hp, hrr⟩ := hrel
        have HP0 := hid (And.intro hp hrr)
        clear hp hrr
        by_cases hlt2 : t < 2
        · have htI : (t : Int) < 2 := by omega
          obtain ⟨tb, htb⟩ : ∃ b, ((t : Int) == 0) = b := ⟨_, rfl⟩
          obtain ⟨hb9, hhb⟩ : ∃ b, (high == tb) = b := ⟨_, rfl⟩
          have htd : decide (t = 0) = tb := by rw [← htb]; by_cases e : t = 0 <;> simp [e]
          have HTD := hid (And.intro htd hhb)
          clear htd
          go_wp2
          generalize wr = wt at *
          go_loopw [13] (fun i W => ∃ (k : Nat) (xs ls : List Int), k ≤ m.ss.length ∧ i = .int .i64 k ∧ PuR m (puQ (atB bs dd) high) t k xs ls ∧ IntB W (w.heap.size + 1) xs ∧ IntB W g ls ∧ Blk W w.heap.size 26 #[.slice (some ao) m.old.length c, .int .i64 m.nw, .slice (some aa) m.ss.length c2, .slice A3 m.js.length c3] ∧ Below w.heap.size w W) (fun i _ => m.ss.length - (intOf i).toNat)
          case atStart => exact ⟨0, xs, ls, Nat.zero_le _, rfl, HP0.out⟩
          case round =>
            clear HP0
            obtain ⟨k, zs, lz, hk, rfl, hp, hrr⟩ := hrel
            have HR := hid (And.intro hp hrr)
            obtain ⟨t0, t1, t2, t3⟩ := hrr.2.2.1.c4
            clear hp hrr
            by_cases hlk : k < m.ss.length
            · have hkI : (k : Int) < (m.ss.length : Int) := by omega
              have hkB : (k : Int) < (bs.length : Int) := by have := HBL.out; omega
              obtain ⟨y, hy⟩ : ∃ y, bs[k]? = some y := ⟨_, List.getElem?_eq_getElem (by have := HBL.out; omega)⟩
              have fb := int_at (HBS.out.at_ HR.out.2.2.2.2) hy
              obtain ⟨pb, hpb⟩ : ∃ b, (y == dd) = b := ⟨_, rfl⟩
              have HCD := hid (show (pb == hb9) = (puQ (atB bs dd) high k == decide (t = 0)) by
                have e : atB bs dd k = pb := by unfold atB; rw [List.getD, hy]; exact hpb
                rw [← HTD.out.2, HTD.out.1, pu_cond]
                unfold puQ
                cases high
                · simp [nt, e]
                · simp [e])
              clear hy
              by_cases hcd : (puQ (atB bs dd) high k == decide (t = 0)) = true
              · have hcB : (pb == hb9) = true := by rw [HCD.out]; exact hcd
                have hce : pb = hb9 := by simpa using hcB
                obtain ⟨s, hs⟩ : ∃ s, m.ss[k]? = some s := ⟨_, List.getElem?_eq_getElem hlk⟩
                obtain ⟨f0, f1, f2, f3, f4⟩ := stt_at (HA.out.at_ HR.out.2.2.2.2).is hs
                have hso := OK.out.stt s (List.mem_of_getElem? hs)
                obtain ⟨q, hq⟩ : ∃ q : Nat, s.o = (q : Int) := ⟨s.o.toNat, by omega⟩
                rw [hq] at f0
                have HSQ := hid (And.intro hs (And.intro hq hso))
                have HCT := hid hcd
                have hsl := HR.out.2.1.lt
                have hgl := HR.out.2.2.1.lt
                clear hs hq hso hcd
                go_upto_region 16 with (fail)
                refine gen (p := Code.wp _ _ _ _) (fun W => (IntB W (w.heap.size + 1) zs ∧ IntB W g lz ∧ Blk W w.heap.size 26 #[.slice (some ao) m.old.length c, .int .i64 m.nw, .slice (some aa) m.ss.length c2, .slice A3 m.js.length c3] ∧ Below w.heap.size w W) ∧ Blk W wr.heap.size 45 #[.int .i64 (q : Int), .int .i64 s.n, .int .i64 s.wt, .int .i64 s.lo, .int .i64 s.hi]) ⟨⟨HR.out.2.1.keep (below_box _ _), HR.out.2.2.1.keep (below_box _ _), HR.out.2.2.2.1.keep (below_box _ _), HR.out.2.2.2.2.trans ((below_box _ _).mono HR.out.2.2.2.2.size)⟩, Blk.new _ _ _⟩ ?_
                rintro w3 ⟨hw3, hsb⟩
                have HN3 := hid hw3
                have HSB := hid hsb
                have HPR := hid HR.out.1
                clear hw3 hsb HR f0 f1 f2 f3 f4 fb t0 t1 t2 t3
                generalize wr.heap.size = SB at *
                have hqd : q < m.old.length := by have := HSQ.out.2; omega
                have hqI : (q : Int) < (m.old.length : Int) := by omega
                obtain ⟨x, hx⟩ : ∃ x, zs.getD k 0 = x := ⟨_, rfl⟩
                obtain ⟨lf, hlf⟩ : ∃ x, lz.getD q 0 = x := ⟨_, rfl⟩
                have ho0 := xt_cell (HN3.out.1.cell (show zs[k]? = some x by rw [ls_get HPR.out.s.lx hlk, hx]))
                have hg0 := xt_cell (HN3.out.2.1.cell (show lz[q]? = some lf by rw [ls_get HPR.out.s.ll hqd, hlf]))
                obtain ⟨z0, z1, z2, z3, z4⟩ := xt_c5 HSB.out
                have hr1 := HPR.out.s.rng k hlk
                unfold inX at hr1
                rw [hx, MapD.S_eq HSQ.out.1] at hr1
                have hr2 := HPR.out.s.pos q hqd
                have hr3 := HPR.out.s.lft q hqd
                have hr4 := sumX_bounds OK.out (d := q) (xs := zs) (k := m.ss.length) (Nat.le_refl _) (fun i hi _ => HPR.out.s.rng i hi)
                have hr5 := OK.out.atB hqd
                have hr6 := HSQ.out.2.2
                rw [hlf] at hr2 hr3
                have hwx : IntKind.i64.wrap (s.hi - x) = s.hi - x := IntWalk.i64_in _ (by omega)
                obtain ⟨n, hn⟩ : ∃ n, min lf (s.hi - x) = n := ⟨_, rfl⟩
                have hmn : (if s.hi - x < lf then s.hi - x else lf) = n := by rw [← hn]; split <;> omega
                have hmnv : (if s.hi - x < lf then Value.int .i64 (s.hi - x) else Value.int .i64 lf) = Value.int .i64 n := by rw [← hn]; split <;> congr 1 <;> omega
                have hwn : IntKind.i64.wrap (x + n) = x + n := IntWalk.i64_in _ (by omega)
                have hwl : IntKind.i64.wrap (lf - n) = lf - n := IntWalk.i64_in _ (by omega)
                have HTU := hid (HPR.out.turn hlt2 HCT.out HSQ.out.1 HSQ.out.2.1 hqd (n := n) (by rw [hx, hlf]; exact hn.symm))
                have HXL := hid (And.intro hx hlf)
                clear hx hlf hr1 hr2 hr3 hr4 hr5 hr6 hn
                refine wp_region_quiet_xt (by kernel_rfl) (by kernel_rfl) ?_
                repeat (go_big_quiet_step (fail))
                refine wpQuiet_nil ?_
                intro W3 hw3
                replace hw3 := of_xt hw3
                have HN4 := hid (And.intro (HN3.out.1.keep hw3) (And.intro (HN3.out.2.1.keep hw3) (And.intro (HN3.out.2.2.1.keep hw3) (HN3.out.2.2.2.trans (hw3.mono HN3.out.2.2.2.size)))))
                have HS4 := hid (HSB.out.keep hw3)
                clear hw3 ho0 hg0 z0 z1 z2 z3 z4 hmn hmnv hwx HN3 HSB
                have yo := HN4.out.1.cell (show zs[k]? = some x by rw [ls_get HPR.out.s.lx hlk, HXL.out.1])
                obtain ⟨cz, hcz⟩ := HN4.out.1.blk
                have yf := hcz.frozen k
                have yl := hcz.lt
                have hso : SB ≠ w.heap.size + 1 := by omega
                have HN5 := hid (show IntB (W3.setCell ⟨w.heap.size + 1, k, none⟩ (.int .i64 (x + n))) (w.heap.size + 1) (zs.set k (x + n)) ∧ IntB (W3.setCell ⟨w.heap.size + 1, k, none⟩ (.int .i64 (x + n))) g lz ∧ Blk (W3.setCell ⟨w.heap.size + 1, k, none⟩ (.int .i64 (x + n))) w.heap.size 26 #[.slice (some ao) m.old.length c, .int .i64 m.nw, .slice (some aa) m.ss.length c2, .slice A3 m.js.length c3] ∧ Below w.heap.size w (W3.setCell ⟨w.heap.size + 1, k, none⟩ (.int .i64 (x + n))) from ⟨HN4.out.1.upd, HN4.out.2.1.off hgo, blk_off HN4.out.2.2.1 hom, HN4.out.2.2.2.setCell (p := ⟨w.heap.size + 1, k, none⟩) (by show w.heap.size ≤ w.heap.size + 1; omega) _⟩)
                clear hcz
                go_upto_region 18 with (fail)
                refine gen (p := Code.wp _ _ _ _) (fun W => (IntB W (w.heap.size + 1) (zs.set k (x + n)) ∧ IntB W g lz ∧ Blk W w.heap.size 26 #[.slice (some ao) m.old.length c, .int .i64 m.nw, .slice (some aa) m.ss.length c2, .slice A3 m.js.length c3] ∧ Below w.heap.size w W) ∧ Blk W SB 45 #[.int .i64 (q : Int), .int .i64 s.n, .int .i64 s.wt, .int .i64 s.lo, .int .i64 s.hi]) ⟨HN5.out, blk_off HS4.out hso⟩ ?_
                rintro w6 ⟨hw6, hsb⟩
                have HN6 := hid hw6
                clear hw6 HN5 HN4 HS4 yo yf yl
                have yg := HN6.out.2.1.cell (show lz[q]? = some lf by rw [ls_get HPR.out.s.ll hqd, HXL.out.2])
                obtain ⟨z0, z1, z2, z3, z4⟩ := hsb.c5
                obtain ⟨cz, hcz⟩ := HN6.out.2.1.blk
                have yf := hcz.frozen q
                have yl := hcz.lt
                have HN7 := hid (show IntB (w6.setCell ⟨g, q, none⟩ (.int .i64 (lf - n))) (w.heap.size + 1) (zs.set k (x + n)) ∧ IntB (w6.setCell ⟨g, q, none⟩ (.int .i64 (lf - n))) g (lz.set q (lf - n)) ∧ Blk (w6.setCell ⟨g, q, none⟩ (.int .i64 (lf - n))) w.heap.size 26 #[.slice (some ao) m.old.length c, .int .i64 m.nw, .slice (some aa) m.ss.length c2, .slice A3 m.js.length c3] ∧ Below w.heap.size w (w6.setCell ⟨g, q, none⟩ (.int .i64 (lf - n))) from ⟨HN6.out.1.off hgo.symm, HN6.out.2.1.upd, blk_off HN6.out.2.2.1 hgm, HN6.out.2.2.2.setCell (p := ⟨g, q, none⟩) (by show w.heap.size ≤ g; omega) _⟩)
                clear hcz hsb HN6
                go_wp2
                clear z0 z1 z2 z3 z4 yg yf yl
                go_roundw
                case rel => exact ⟨k + 1, _, _, by omega, by go_num, by have := HTU.out; rwa [HXL.out.1, HXL.out.2] at this, HN7.out⟩
                case measure => first | (simp [intOf]; done) | (simp [intOf]; omega)
              · have hcB : (pb == hb9) = false := by rw [HCD.out]; simpa using hcd
                have hce : ¬ pb = hb9 := by simpa using hcB
                have HNX := hid (HR.out.1.skip hlt2 (by simpa using hcd))
                clear hcd
                go_wp2
                clear t0 t1 t2 t3 fb
                go_roundw
                case rel => exact ⟨k + 1, zs, lz, by omega, by go_num, HNX.out, HR.out.2⟩
                case measure => first | (simp [intOf]; done) | (simp [intOf]; omega)
            · have hkI : decide ((k : Int) < (m.ss.length : Int)) = false := by simp; omega
              obtain rfl : k = m.ss.length := by omega
              have HNX := hid (HR.out.1.next hlt2)
              go_wp2
              clear t0 t1 t2 t3
              go_roundw
              case rel => exact ⟨t + 1, zs, lz, by omega, by go_num, HNX.out, HR.out.2⟩
              case measure => first | (simp [intOf]; done) | (simp [intOf]; omega)
        · have htI : decide ((t : Int) < 2) = false := by simp; omega
          obtain rfl : t = 2 := by omega
          have HFI := hid (HP0.out.1.pushed HCM.out)
          have HLE := hid HP0.out.1.s.lx
          have HIN := hid (show IntsAt (some ⟨w.heap.size + 1, 0, none⟩, m.ss.length) xs wr from ⟨HP0.out.2.1.is, by rw [HLE.out]; exact Nat.le_refl _, by unfold maxLen; omega⟩)
          have HBE := hid HP0.out.2.2.2.2
          clear HP0
          go_wp2
          go_ret
          exact ⟨xs, HFI.out, (some ⟨w.heap.size + 1, 0, none⟩, m.ss.length), by rw [HLE.out]; rfl, HIN.out, HBE.out⟩
end Go.Proofs.Ytoeabajigfdkaaa
/- Words for the statements about truths: what pushed and Picked hand back. Conditions stand at each theorem. -/
namespace Go.Proofs.Ytoeabajigfdkaaa
open Go.RowKit Go.Shelf

theorem sumP_congr {m : MapD} {p p' : Nat → Bool} {d : Nat} {xs : List Int} (h : ∀ i, i < m.ss.length → p i = p' i) : sumP m p d xs = sumP m p' d xs := by
  unfold sumP
  exact sumN_congr fun i hi => by rw [h i hi]
theorem Pushed.congr {m : MapD} {p p' : Nat → Bool} {high : Bool} {xs : List Int} (h : ∀ i, i < m.ss.length → p i = p' i) (hp : Pushed m p high xs) : Pushed m p' high xs :=
  ⟨hp.1, fun d hd => by rw [← sumP_congr h, ← partHi_congr h, ← partLo_congr h]; exact hp.2 d hd⟩
/-- a list of numbers that is there, in memory: what it is, of such a kind -/
def SomeAt (P : List Int → Prop) (y : Addr × Nat) (W : World) : Prop := ∃ xs, P xs ∧ IntsAt (some y.1, y.2) xs W
theorem SomeAt.at_ {P : List Int → Prop} {y : Addr × Nat} {W W' : World} (h : SomeAt P y W) (hb : Below W.heap.size W W') : SomeAt P y W' := by
  obtain ⟨xs, h1, h2⟩ := h
  exact ⟨xs, h1, h2.at_ hb⟩
theorem ints_some {y : Option Addr × Nat} {xs : List Int} {W : World} (h : IntsAt y xs W) (h1 : 1 ≤ xs.length) : ∃ a, y = (some a, y.2) := by
  obtain ⟨a, e, _⟩ := h.1 0 _ (List.getElem?_eq_getElem (show 0 < xs.length by omega))
  exact ⟨a, by rw [← e]⟩
section
variable {m : MapD} {A : Option Addr} {c : Nat} {A2 : Option Addr} {c2 : Nat} {A3 : Option Addr} {c3 : Nat} {w : World}
theorem pushed_alone (h : MIn m A c A2 c2 A3 c3 w) (hc : cstM m = 0) {k : Nat} (high : Bool) {y : Option Addr × Nat} (hy : IntsAt y (lst m (aloneL k)) w) : Calls Try.prog 53 #[.agg #[.slice A m.old.length c, .int .i64 m.nw, .slice A2 m.ss.length c2, .slice A3 m.js.length c3], .slice y.1 (lst m (aloneL k)).length y.2, .int .i64 1, .bool high] w fun e w' => ∃ z : Addr × Nat, e = .returned (.slice (some z.1) m.ss.length z.2) ∧ SomeAt (Pushed m (aloneP k) high) z w' ∧ Below w.heap.size w w' := by
  have hs1 := (chk_okm (cst_ok hc).1).s1
  refine (pushed_any m A c A2 c2 A3 c3 y.1 y.2 (lst m (aloneL k)) 1 high w h hc hy.1 (lst_len _ _)).mono fun e w' ⟨xs, hp, z, h1, h2, h3⟩ => ?_
  obtain ⟨a, ea⟩ := ints_some h2 (by rw [hp.1.len]; exact hs1)
  rw [ea, hp.1.len] at h1
  rw [ea] at h2
  exact ⟨(a, z.2), h1, ⟨xs, hp.congr fun i hi => by
    have := fnO_lst (l := aloneL k) hi
    unfold fnO at this
    simp only [atB, this, aloneL, aloneP]
    by_cases e : i = k
    · subst e; simp
    · rw [if_neg e]
      have : (i : Int) ≠ (k : Int) := by omega
      simp [this], h2⟩, h3⟩
theorem pushed_own (h : MIn m A c A2 c2 A3 c3 w) (hc : cstM m = 0) (d : Nat) (high : Bool) {y : Option Addr × Nat} (hy : IntsAt y (lst m (ownL m)) w) : Calls Try.prog 53 #[.agg #[.slice A m.old.length c, .int .i64 m.nw, .slice A2 m.ss.length c2, .slice A3 m.js.length c3], .slice y.1 (lst m (ownL m)).length y.2, .int .i64 (d : Int), .bool high] w fun e w' => ∃ z : Addr × Nat, e = .returned (.slice (some z.1) m.ss.length z.2) ∧ SomeAt (Pushed m (inD (ownL m) (d : Int)) high) z w' ∧ Below w.heap.size w w' := by
  have hs1 := (chk_okm (cst_ok hc).1).s1
  refine (pushed_any m A c A2 c2 A3 c3 y.1 y.2 (lst m (ownL m)) (d : Int) high w h hc hy.1 (lst_len _ _)).mono fun e w' ⟨xs, hp, z, h1, h2, h3⟩ => ?_
  obtain ⟨a, ea⟩ := ints_some h2 (by rw [hp.1.len]; exact hs1)
  rw [ea, hp.1.len] at h1
  rw [ea] at h2
  exact ⟨(a, z.2), h1, ⟨xs, hp.congr fun i hi => by
    have := fnO_lst (l := ownL m) hi
    unfold fnO at this
    simp only [atB, inD, this], h2⟩, h3⟩
theorem picked_at (h : MIn m A c A2 c2 A3 c3 w) (hc : cstM m = 0) {Aw : Option Addr} {cw : Nat} {ws : List Int} (hw : IsWords w w.heap.size Aw ws) (hwl : ws.length ≤ maxLen) : Calls Try.prog 51 #[.agg #[.slice A m.old.length c, .int .i64 m.nw, .slice A2 m.ss.length c2, .slice A3 m.js.length c3], .slice Aw ws.length cw] w fun e w' => ∃ z : Addr × Nat, e = .returned (.slice (some z.1) m.ss.length z.2) ∧ SomeAt (IsTr m) z w' ∧ Below w.heap.size w w' := by
  have hs1 := (chk_okm (cst_ok hc).1).s1
  refine (picked_any m A c A2 c2 A3 c3 Aw cw ws w h hc hw hwl).mono fun e w' ⟨xs, hp, z, h1, h2, h3⟩ => ?_
  obtain ⟨a, ea⟩ := ints_some h2 (by rw [hp.len]; exact hs1)
  rw [ea, hp.len] at h1
  rw [ea] at h2
  exact ⟨(a, z.2), h1, ⟨xs, hp, h2⟩, h3⟩
theorem sums_some (m : MapD) (A : Option Addr) (c : Nat) (A2 : Option Addr) (c2 : Nat) (A3 : Option Addr) (c3 : Nat) (ok : OkM m) {N : Nat} (hN : m.nw = (N : Int)) {y z : Option Addr × Nat} {xs : List Int} {w : World} (hy : IntsAt y (lst m (ownL m)) w) (hz : IntsAt z xs w) (ht : IsTr m xs) :
    Calls Try.prog 24 #[.agg #[.slice A m.old.length c, .int .i64 m.nw, .slice A2 m.ss.length c2, .slice A3 m.js.length c3], .slice y.1 (lst m (ownL m)).length y.2, .slice z.1 m.ss.length z.2] w fun e w' => ∃ z : Addr × Nat, e = .returned (.slice (some z.1) N z.2) ∧ IntsAt (some z.1, z.2) (smD m (ownL m) xs) w' ∧ Below w.heap.size w w' := by
  have hn1 := ok.n1
  have hl : (smD m (ownL m) xs).length = N := by rw [smD_cnt]; omega
  have K := sums_own m A c A2 c2 A3 c3 ok hy hz ht.len (tr_b ok ht)
  rw [ht.len] at K
  refine K.mono fun e w' ⟨x, h1, h2, h3⟩ => ?_
  obtain ⟨a, ea⟩ := ints_some h2 (by omega)
  rw [ea, hl] at h1
  rw [ea] at h2
  exact ⟨(a, x.2), h1, h2, h3⟩
theorem truth_yes {xs : List Int} (h : MIn m A c A2 c2 A3 c3 w) (hc : chkM m = 0) (ht : IsTr m xs) {z : Option Addr × Nat} (hz : IntsAt z xs w) : Calls Try.prog 46 #[.agg #[.slice A m.old.length c, .int .i64 m.nw, .slice A2 m.ss.length c2, .slice A3 m.js.length c3], .slice z.1 m.ss.length z.2] w fun e w' => e = .returned (.bool true) ∧ Below w.heap.size w w' := by
  have K := prove_truth_any m A c A2 c2 A3 c3 z.1 z.2 xs w h hz.1 hz.2.1 hz.2.2
  rwa [ht.len, truB_true hc ht] at K
theorem list_some {y : Addr × Nat} {xs : List Int} {n : Nat} (hy : IntsAt (some y.1, y.2) xs w) (hl : xs.length = n) (hn : n ≤ 1000) : Calls Try.prog 38 #[.slice (some y.1) n y.2] w fun e w' => ∃ z : Option Addr × Nat, e = .returned (.slice z.1 n z.2) ∧ IntsAt z xs w' ∧ Below w.heap.size w w' := by
  subst hl
  exact lst_i (y := (some y.1, y.2)) hy (fun e => by cases e) (by omega)
end
end Go.Proofs.Ytoeabajigfdkaaa
