/- The walks and the plain laws of this part of the program, part 17: what each computes. Conditions stand at each theorem. -/
import Derived.Test.YtoeabajigfdkaaaG2
/- A guarded step whose guard was itself left out is left out. -/
namespace Go.Proofs.Ytoeabajigfdkaaa
open Go.RowKit Go.Shelf

theorem yielded_un {l : List Oper} {a : Act} {j d : Nat} (hd : dstB l j d = true) (hv : a.tmps.getD d undef = undef) : yielded l.toArray a.tmps j = none := by
  have h1 : (l.toArray[j]?).bind (·.dst) = some d := by simpa [dstB] using hd
  unfold yielded
  rw [h1]
  simp only [Option.bind_some]
  rw [Array.getD_eq_getD_getElem?] at hv
  cases ht : a.tmps[d]? with
  | none => rfl
  | some v => rw [ht] at hv; simp at hv; subst hv; rfl
theorem wanted_un {l : List Oper} {o : Oper} {a : Act} {j d : Nat} {b : Bool} (hg : o.guard = some (j, b)) (hd : dstB l j d = true) (hv : a.tmps.getD d undef = undef) : Region.wanted o (yielded l.toArray a.tmps) = false := by
  unfold Region.wanted
  rw [hg]
  simp only [yielded_un hd hv]
  rfl
end Go.Proofs.Ytoeabajigfdkaaa
