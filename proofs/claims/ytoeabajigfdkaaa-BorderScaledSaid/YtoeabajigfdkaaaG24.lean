/- The walks and the plain laws of this part of the program, part 24: what each computes. Conditions stand at each theorem. -/
import Derived.Test.YtoeabajigfdkaaaG7
/- Two lists that grow side by side within one statement whose order is open (as Mcph, for another statement). No condition. -/
namespace Go.Proofs.Ytoeabajigfdkaaa
open Go.RowKit Go.Shelf

/-- two rows of the call's own, each before or behind its append (operations 8 and 15, slots 103 and 110) -/
structure PhD (B n6 n7 : Nat) (c6 c7 : List Value) (x6 x7 v6 v7 : Value) (li : Array Bool) (a : Act) (W : World) : Prop where
  r6 : W.ownsRow B 3 1 (if li.getD 8 false then a.tmps.getD 103 undef else v6) (if li.getD 8 false then n6 + 1 else n6) (if li.getD 8 false then c6 ++ [x6] else c6)
  r7 : W.ownsRow B 3 1 (if li.getD 15 false then a.tmps.getD 110 undef else v7) (if li.getD 15 false then n7 + 1 else n7) (if li.getD 15 false then c7 ++ [x7] else c7)
  ne : (if li.getD 8 false then a.tmps.getD 103 undef else v6).ownBlock = none ∨ (if li.getD 8 false then a.tmps.getD 103 undef else v6).ownBlock ≠ (if li.getD 15 false then a.tmps.getD 110 undef else v7).ownBlock
section
variable {B n6 n7 : Nat} {c6 c7 : List Value} {x6 x7 v6 v7 : Value} {li : Array Bool} {a : Act} {W W' : World}
theorem PhD.other (h : PhD B n6 n7 c6 c7 x6 x7 v6 v7 li a W) {i d : Nat} {v : Value} (h4 : i ≠ 8) (h8 : i ≠ 15) (hd : d ≠ 103) (hd2 : d ≠ 110) (hb : Below W.heap.size W W') : PhD B n6 n7 c6 c7 x6 x7 v6 v7 (li.setIfInBounds i true) (a.put (some d) v) W' := by
  have e4 : (li.setIfInBounds i true).getD 8 false = li.getD 8 false := getD_set_oth h4
  have e8 : (li.setIfInBounds i true).getD 15 false = li.getD 15 false := getD_set_oth h8
  have e35 : (a.put (some d) v).tmps.getD 103 undef = a.tmps.getD 103 undef := put_getD_other hd
  have e39 : (a.put (some d) v).tmps.getD 110 undef = a.tmps.getD 110 undef := put_getD_other hd2
  obtain ⟨r6, r7, ne⟩ := h
  refine ⟨?_, ?_, ?_⟩
  · rw [e4, e35]; exact row_kept (vo := .slice none 0 0) r6 (grown_of_below hb _) (.inl rfl)
  · rw [e8, e39]; exact row_kept (vo := .slice none 0 0) r7 (grown_of_below hb _) (.inl rfl)
  · rw [e4, e8, e35, e39]; exact ne
theorem PhD.step6 (h : PhD B n6 n7 c6 c7 x6 x7 v6 v7 li a W) {v' : Value} (hn : li.getD 8 false = false) (hs : 8 < li.size) (ht : 103 < a.tmps.size) (ho : W'.ownsRow B 3 1 v' (n6 + 1) (c6 ++ [x6])) (hg : W.grownBy W' v6.ownBlock) (hf : v'.ownBlock = v6.ownBlock ∨ v'.ownBlock = some W.heap.size) :
    PhD B n6 n7 c6 c7 x6 x7 v6 v7 (li.setIfInBounds 8 true) (a.put (some 103) v') W' := by
  have e4 : (li.setIfInBounds 8 true).getD 8 false = true := getD_set_eq hs
  have e8 : (li.setIfInBounds 8 true).getD 15 false = li.getD 15 false := getD_set_oth (by decide)
  have e35 : (a.put (some 103) v').tmps.getD 103 undef = v' := put_getD_same ht
  have e39 : (a.put (some 103) v').tmps.getD 110 undef = a.tmps.getD 110 undef := put_getD_other (by decide)
  obtain ⟨r6, r7, ne⟩ := h
  rw [hn] at ne
  simp only [Bool.false_eq_true, if_false] at ne
  refine ⟨?_, ?_, ?_⟩
  · rw [e4, e35]; exact ho
  · rw [e8, e39]; exact row_kept r7 hg ne
  · rw [e4, e8, e35, e39]
    simp only [if_true]
    rcases hf with e | e
    · rw [e]; exact ne
    · refine .inr fun e' => ?_
      rw [e] at e'
      have := (r7.lt _ e'.symm).2
      omega
theorem PhD.step7 (h : PhD B n6 n7 c6 c7 x6 x7 v6 v7 li a W) {v' : Value} (hn : li.getD 15 false = false) (hs : 15 < li.size) (ht : 110 < a.tmps.size) (ho : W'.ownsRow B 3 1 v' (n7 + 1) (c7 ++ [x7])) (hg : W.grownBy W' v7.ownBlock) (hf : v'.ownBlock = v7.ownBlock ∨ v'.ownBlock = some W.heap.size) :
    PhD B n6 n7 c6 c7 x6 x7 v6 v7 (li.setIfInBounds 15 true) (a.put (some 110) v') W' := by
  have e8 : (li.setIfInBounds 15 true).getD 15 false = true := getD_set_eq hs
  have e4 : (li.setIfInBounds 15 true).getD 8 false = li.getD 8 false := getD_set_oth (by decide)
  have e39 : (a.put (some 110) v').tmps.getD 110 undef = v' := put_getD_same ht
  have e35 : (a.put (some 110) v').tmps.getD 103 undef = a.tmps.getD 103 undef := put_getD_other (by decide)
  obtain ⟨r6, r7, ne⟩ := h
  rw [hn] at ne
  simp only [Bool.false_eq_true, if_false] at ne
  refine ⟨?_, ?_, ?_⟩
  · rw [e4, e35]; exact row_kept r6 hg (ne_swap ne)
  · rw [e8, e39]; exact ho
  · rw [e4, e8, e35, e39]
    simp only [if_true]
    rcases hf with e | e
    · rw [e]; exact ne
    · refine .inr fun e' => ?_
      rw [e] at e'
      have := (r6.lt _ e').2
      omega
end
end Go.Proofs.Ytoeabajigfdkaaa
