/- The walks and the plain laws of this part of the program, part 22: what each computes. Conditions stand at each theorem. -/
import Derived.Test.YtoeabajigfdkaaaG13
import Derived.Test.YtoeabajigfdkaaaG18
/- A map in which one street's range is narrower. Conditions stand at each theorem. -/
namespace Go.Proofs.Ytoeabajigfdkaaa
open Go.RowKit Go.Shelf

def narS (s : Stt) (lo hi : Int) : Stt := ⟨s.o, s.n, s.wt, lo, hi⟩
def narM (m : MapD) (k : Nat) (s : Stt) : MapD := ⟨m.old, m.nw, m.ss.set k s, m.js⟩
theorem narM_len (m : MapD) (k : Nat) (s : Stt) : (narM m k s).ss.length = m.ss.length := by simp [narM]
theorem nar_of {m : MapD} {k : Nat} {s : Stt} {lo hi : Int} (hs : m.ss[k]? = some s) (h1 : s.lo ≤ lo) (h2 : hi ≤ s.hi) : Nar m (narM m k (narS s lo hi)) := by
  refine ⟨rfl, narM_len _ _ _, rfl, rfl, fun i hi_ => ?_⟩
  have hk := (List.getElem?_eq_some_iff.1 hs).1
  by_cases e : i = k
  · subst e
    have e1 : (narM m i (narS s lo hi)).S i = narS s lo hi := MapD.S_eq (by show (m.ss.set i _)[i]? = _; rw [List.getElem?_set_self hk])
    rw [e1, MapD.S_eq hs]
    exact ⟨rfl, rfl, h1, h2⟩
  · have e1 : (narM m k (narS s lo hi)).S i = m.S i := by
      show (m.ss.set k _).getD i _ = m.ss.getD i _
      rw [List.getD, List.getD, List.getElem?_set_ne (fun e' => e e'.symm)]
    rw [e1]
    exact ⟨rfl, rfl, Int.le_refl _, Int.le_refl _⟩
theorem SttB.set {W : World} {g : Nat} {cur : Array Value} {ss : List Stt} {k r : Nat} {s s' : Stt} {z : Int} (h : SttB W g cur ss) (hs : ss[k]? = some s) (hr : r < 5) (hz : s'.f r = z) (ho : ∀ q, q < 5 → q ≠ r → s'.f q = s.f q) :
    SttB (W.setCell ⟨g, k * 5 + r, none⟩ (.int .i64 z)) g (cur.setIfInBounds (k * 5 + r) (.int .i64 z)) (ss.set k s') := by
  have hk := (List.getElem?_eq_some_iff.1 hs).1
  refine ⟨h.1.set_ _ _, fun i t ht q hq => ?_⟩
  rw [Array.getElem?_setIfInBounds]
  by_cases e : k = i
  · subst e
    rw [List.getElem?_set_self hk] at ht
    injection ht with ht
    subst ht
    have hlt : k * 5 + r < cur.size := (Array.getElem?_eq_some_iff.1 (h.2 k s hs r hr)).1
    by_cases eq : r = q
    · subst eq
      rw [if_pos rfl, if_pos hlt, hz]
    · rw [if_neg (by omega), ho q hq (fun e => eq e.symm)]
      exact h.2 k s hs q hq
  · rw [List.getElem?_set_ne e] at ht
    rw [if_neg (by omega)]
    exact h.2 i t ht q hq
theorem SttB.off {W : World} {g g' i : Nat} {cur : Array Value} {ss : List Stt} {v : Value} (h : SttB W g cur ss) (hne : g ≠ g') : SttB (W.setCell ⟨g', i, none⟩ v) g cur ss := ⟨blk_off h.1 hne, h.2⟩
theorem nar_bnd {m x : MapD} (h : Nar m x) (d : Nat) : (bndOne m d).1 ≤ (bndOne x d).1 ∧ (bndOne x d).2 ≤ (bndOne m d).2 := by
  have e : ∀ i, i < x.ss.length → inD (ownL x) (d : Int) i = inD (ownL m) (d : Int) i := fun i hi => by
    simp only [inD, ownL]
    rw [(h.s i (by rw [← h.len]; exact hi)).2.1]
  have h1 := h.size (inD (ownL m) (d : Int)) m.old.length
  unfold bndOne
  rw [h.old]
  show sizeLo m _ _ ≤ sizeLo x _ _ ∧ sizeHi x _ _ ≤ sizeHi m _ _
  rw [sizeLo_congr e, sizeHi_congr e]
  exact h1
end Go.Proofs.Ytoeabajigfdkaaa
