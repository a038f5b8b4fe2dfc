/- The walks and the plain laws of this part of the program, part 16: what each computes. Conditions stand at each theorem. -/
import Derived.Test.YtoeabajigfdkaaaG15
/- Two districts merged: counts and bounds, in plain words. Conditions stand at each theorem. -/
namespace Go.Proofs.Ytoeabajigfdkaaa

/-- district l goes to district k -/
def mrgF (l k : Int) (s : Stt) : Stt := if s.n = l then ⟨s.o, k, s.wt, s.lo, s.hi⟩ else s
def mrgM (m : MapD) (k : Int) : MapD := updM m (m.nw - 1) (mrgF (m.nw - 1) k)
theorem mrgF_f (l k : Int) (s : Stt) : (mrgF l k s).o = s.o ∧ (mrgF l k s).wt = s.wt ∧ (mrgF l k s).lo = s.lo ∧ (mrgF l k s).hi = s.hi := by
  unfold mrgF
  split <;> exact ⟨rfl, rfl, rfl, rfl⟩
theorem mrgF_n (l k : Int) (s : Stt) : (mrgF l k s).n = if s.n = l then k else s.n := by
  unfold mrgF
  split <;> rfl
theorem mrg_cst {m : MapD} {k : Int} (h : cstM m = 0) (h2 : 2 ≤ m.nw) (h0 : 0 ≤ k) (hk : k < m.nw - 1) : cstM (mrgM m k) = 0 := by
  have ok := chk_okm (cst_ok h).1
  have := ok.n4
  refine updM_cst h (by omega) (by omega) (mrgF_f _ _) fun s hs => ?_
  have := ok.stt s hs
  rw [mrgF_n]
  split <;> omega
theorem mrg_car {m : MapD} {k : Int} : car (mrgM m k) = car m := updM_car fun s => ⟨(mrgF_f _ _ s).1, (mrgF_f _ _ s).2.1⟩
theorem mrg_own {m : MapD} {k : Int} {i : Nat} (hi : i < m.ss.length) : ownL (mrgM m k) i = if ownL m i = m.nw - 1 then k else ownL m i := by
  unfold ownL mrgM
  rw [updM_S hi, mrgF_n]
def smQ (m : MapD) (q : Nat) : Int := (smD m (ownL m) (car m)).getD q 0
theorem smQ_eq {m : MapD} (ok : OkM m) {q : Nat} (hq : (q : Int) < m.nw) : smQ m q = sumN (fun i => if ownL m i = (q : Int) then (car m).getD i 0 else 0) m.ss.length := by
  have := smD_get (m := m) (l := ownL m) (xs := car m) (q := q) (by omega) (fun i hi => by
    rw [car_len] at hi
    have := ok.sAt hi
    unfold ownL
    omega)
  rwa [car_len] at this
theorem smD_cnt (m : MapD) (l : Nat → Int) (xs : List Int) : (smD m l xs).length = m.nw.toNat := smTo_len _ _ _ _
theorem smQ_get {m : MapD} {q : Nat} (hq : q < m.nw.toNat) : (smD m (ownL m) (car m))[q]? = some (smQ m q) := by
  unfold smQ
  rw [List.getD_eq_getElem?_getD, List.getElem?_eq_getElem (by rw [smD_cnt]; exact hq)]
  rfl
theorem mrg_c {m : MapD} {k : Int} (h : cstM m = 0) (h2 : 2 ≤ m.nw) (h0 : 0 ≤ k) (hk : k < m.nw - 1) {q : Nat} (hq : (q : Int) < m.nw - 1) (hne : (q : Int) ≠ k) : smQ (mrgM m k) q = smQ m q := by
  rw [smQ_eq (chk_okm (cst_ok (mrg_cst h h2 h0 hk)).1) (show (q : Int) < m.nw - 1 from hq), smQ_eq (chk_okm (cst_ok h).1) (by omega), mrg_car, show (mrgM m k).ss.length = m.ss.length from updM_len _ _ _]
  refine sumN_congr fun i hi => ?_
  rw [mrg_own hi]
  by_cases e : ownL m i = m.nw - 1
  · rw [if_pos e, if_neg (by omega), if_neg (by omega)]
  · rw [if_neg e]
theorem mrg_k {m : MapD} {k : Nat} (h : cstM m = 0) (h2 : 2 ≤ m.nw) (hk : (k : Int) < m.nw - 1) {l : Nat} (hl : (l : Int) = m.nw - 1) : smQ (mrgM m k) k = smQ m k + smQ m l := by
  rw [smQ_eq (chk_okm (cst_ok (mrg_cst h h2 (by omega) hk)).1) (show (k : Int) < m.nw - 1 from hk), smQ_eq (chk_okm (cst_ok h).1) (by omega), smQ_eq (chk_okm (cst_ok h).1) (by omega), mrg_car, show (mrgM m k).ss.length = m.ss.length from updM_len _ _ _, ← sumN_add]
  refine sumN_congr fun i hi => ?_
  rw [mrg_own hi]
  by_cases e : ownL m i = m.nw - 1
  · rw [if_pos e, if_pos rfl, if_neg (by omega), if_pos (by omega)]; omega
  · rw [if_neg e, if_neg (by omega : ¬ ownL m i = (l : Int))]; omega
theorem mrg_sum {m : MapD} {k : Int} {d : Nat} {p q : Nat → Bool} {g : Stt → Int} (hg : ∀ l k s, g (mrgF l k s) = g s) (hp : ∀ i, i < m.ss.length → p i = q i) : sumO (mrgM m k) d p g m.ss.length = sumO m d q g m.ss.length :=
  updM_sum (Nat.le_refl _) (fun s => ⟨(mrgF_f _ _ s).1, hg _ _ s⟩) hp
theorem mrg_b {m : MapD} {k : Int} {q : Nat} (hq : (q : Int) < m.nw - 1) (hne : (q : Int) ≠ k) : bndOne (mrgM m k) q = bndOne m q := by
  have e : ∀ i, i < m.ss.length → inD (ownL (mrgM m k)) (q : Int) i = inD (ownL m) (q : Int) i := fun i hi => by
    simp only [inD]
    rw [mrg_own hi]
    by_cases e : ownL m i = m.nw - 1
    · rw [if_pos e]
      have h1 : (k == (q : Int)) = false := by simp; omega
      have h2 : (ownL m i == (q : Int)) = false := by simp; omega
      rw [h1, h2]
    · rw [if_neg e]
  have e' : ∀ i, i < m.ss.length → nt (inD (ownL (mrgM m k)) (q : Int)) i = nt (inD (ownL m) (q : Int)) i := fun i hi => by simp only [nt]; rw [e i hi]
  unfold bndOne sizeLo sizeHi
  refine Prod.ext (sumN_congr fun d _ => ?_) (sumN_congr fun d _ => ?_)
  · unfold partLo
    rw [show (mrgM m k).ss.length = m.ss.length from updM_len _ _ _, mrg_sum (g := Stt.lo) (fun l k s => (mrgF_f l k s).2.2.1) e, mrg_sum (g := Stt.hi) (fun l k s => (mrgF_f l k s).2.2.2) e']
    rfl
  · unfold partHi
    rw [show (mrgM m k).ss.length = m.ss.length from updM_len _ _ _, mrg_sum (g := Stt.hi) (fun l k s => (mrgF_f l k s).2.2.2) e, mrg_sum (g := Stt.lo) (fun l k s => (mrgF_f l k s).2.2.1) e']
    rfl
theorem mrg_part {m : MapD} {k l : Nat} (h : cstM m = 0) (hk : (k : Int) < m.nw - 1) (hl : (l : Int) = m.nw - 1) {d : Nat} (hd : d < m.old.length) :
    partLo m (inD (ownL m) (k : Int)) d + partLo m (inD (ownL m) (l : Int)) d ≤ partLo (mrgM m k) (inD (ownL (mrgM m k)) (k : Int)) d ∧ partHi (mrgM m k) (inD (ownL (mrgM m k)) (k : Int)) d ≤ partHi m (inD (ownL m) (k : Int)) d + partHi m (inD (ownL m) (l : Int)) d := by
  have ok := chk_okm (cst_ok h).1
  obtain ⟨c1, c2⟩ := conM_at (cst_ok h).2 hd
  have hx : ∀ i, i < m.ss.length → inD (ownL (mrgM m k)) (k : Int) i = (inD (ownL m) (k : Int) i || inD (ownL m) (l : Int) i) := fun i hi => by
    simp only [inD]
    rw [mrg_own hi, ← hl]
    by_cases e : ownL m i = (l : Int)
    · rw [if_pos e]; simp [e]
    · rw [if_neg e, beq_eq_false_iff_ne.2 e, Bool.or_false]
  have s1 : ∀ g : Stt → Int, (∀ l k s, g (mrgF l k s) = g s) → sumO (mrgM m k) d (inD (ownL (mrgM m k)) (k : Int)) g m.ss.length = sumO m d (inD (ownL m) (k : Int)) g m.ss.length + sumO m d (inD (ownL m) (l : Int)) g m.ss.length := fun g hg => by
    rw [mrg_sum hg hx]
    unfold sumO
    rw [← sumN_add]
    refine sumN_congr fun i hi => ?_
    by_cases eo : (m.S i).o = (d : Int)
    · by_cases e1 : ownL m i = (k : Int)
      · have e2 : ownL m i ≠ (l : Int) := by omega
        simp [inD, eo, e1, beq_eq_false_iff_ne.2 (show (k : Int) ≠ (l : Int) by omega)]
      · by_cases e2 : ownL m i = (l : Int)
        · simp [inD, eo, e2, beq_eq_false_iff_ne.2 (show (l : Int) ≠ (k : Int) by omega)]
        · simp [inD, eo, e1, e2]
    · simp [eo]
  have l1 := s1 Stt.lo (fun l k s => (mrgF_f l k s).2.2.1)
  have l2 := s1 Stt.hi (fun l k s => (mrgF_f l k s).2.2.2)
  have t0 : ∀ (p : Nat → Bool) (g : Stt → Int), sumO m d (nt p) g m.ss.length = sumO m d tt g m.ss.length - sumO m d p g m.ss.length := fun p g => by
    have := sumO_split m d p g m.ss.length
    omega
  have tx : ∀ (p : Nat → Bool) (g : Stt → Int), (∀ l k s, g (mrgF l k s) = g s) → sumO (mrgM m k) d (nt p) g m.ss.length = sumO m d tt g m.ss.length - sumO (mrgM m k) d p g m.ss.length := fun p g hg => by
    have h1 := sumO_split (mrgM m k) d p g m.ss.length
    rw [mrg_sum (q := tt) hg fun i _ => rfl] at h1
    omega
  have b : ∀ p : Nat → Bool, sumO m d p Stt.lo m.ss.length ≤ sumO m d p Stt.hi m.ss.length := fun p => sumO_le d p _ fun i hi => (ok.sAt hi).2.2.2.2.2.2.2.1
  have b1 := b (inD (ownL m) (k : Int))
  have b2 := b (inD (ownL m) (l : Int))
  unfold partLo partHi
  rw [show (mrgM m k).ss.length = m.ss.length from updM_len _ _ _, tx _ Stt.lo (fun l k s => (mrgF_f l k s).2.2.1), tx _ Stt.hi (fun l k s => (mrgF_f l k s).2.2.2), l1, l2, t0, t0, t0, t0, show (mrgM m k).at_ d = m.at_ d from rfl]
  generalize sumO m d (inD (ownL m) (k : Int)) Stt.lo m.ss.length = v1 at *
  generalize sumO m d (inD (ownL m) (k : Int)) Stt.hi m.ss.length = v2 at *
  generalize sumO m d (inD (ownL m) (l : Int)) Stt.lo m.ss.length = v3 at *
  generalize sumO m d (inD (ownL m) (l : Int)) Stt.hi m.ss.length = v4 at *
  generalize sumO m d tt Stt.lo m.ss.length = v5 at *
  generalize sumO m d tt Stt.hi m.ss.length = v6 at *
  omega
theorem mrg_bnd {m : MapD} {k l : Nat} (h : cstM m = 0) (hk : (k : Int) < m.nw - 1) (hl : (l : Int) = m.nw - 1) :
    (bndOne m k).1 + (bndOne m l).1 ≤ (bndOne (mrgM m k) k).1 ∧ (bndOne (mrgM m k) k).2 ≤ (bndOne m k).2 + (bndOne m l).2 := by
  unfold bndOne sizeLo sizeHi
  constructor
  · show sumN _ _ + sumN _ _ ≤ sumN _ _
    rw [← sumN_add]
    exact sumN_le fun d hd => (mrg_part h hk hl hd).1
  · show sumN _ _ ≤ sumN _ _ + sumN _ _
    rw [← sumN_add]
    exact sumN_le fun d hd => (mrg_part h hk hl hd).2
end Go.Proofs.Ytoeabajigfdkaaa
