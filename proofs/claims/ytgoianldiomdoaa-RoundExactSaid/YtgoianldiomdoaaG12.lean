/- A table under construction. Conditions stand at each theorem. -/
import Derived.Test.YtgoianldiomdoaaG5
import Derived.Test.YtgoianldiomdoaaG9
import Derived.Test.YtgoianldiomdoaaG11
/- A table under construction: its box, its rows; a row that is appended to. -/
namespace Go.Proofs.Ytgoianldiomdoaa
open Go.RowKit Go.Shelf

/-- a list of numbers of the call's own, as a row -/
theorem own_row {W : World} {base : Nat} {v : Value} {xs : List Int} (h : W.ownsRow base 3 1 v xs.length (xs.map (Value.int .i64))) :
    ∃ A c, v = .slice A xs.length c ∧ Good (fun _ => False) W ⟨0, 0, xs⟩ A c := by
  rcases h.2 with ⟨rfl, h0⟩ | ⟨g, cap, cur, rfl, hb, hg, h1, h2, h3, h4⟩
  · have : xs = [] := List.eq_nil_of_length_eq_zero h0
    subst this
    exact ⟨none, 0, rfl, ⟨(fun k x hk => by simp at hk), (fun a e => by cases e), Nat.le_refl 0, Nat.zero_le maxLen, fun _ => rfl⟩⟩
  · refine ⟨_, cap, rfl, ⟨fun k x hk => ⟨_, rfl, (Array.getElem?_eq_some_iff.1 hg).1, h.cells (g := g) rfl k (.int .i64 x) (by rw [List.getElem?_map]; exact congrArg _ hk)⟩, fun a e => ?_, h1, h2, (fun e => by cases e)⟩⟩
    injection e with e
    subst e
    exact ⟨⟨_, hg⟩, id⟩
/-- the table in its box, when k rows lie in it; the argument's box -/
structure XI (b : Int) (A : Option Addr) (c : Nat) (cs : List (List Int)) (A2 : Option Addr) (c2 : Nat) (fs : List Fx) (Bx : Nat) (X : List (List Int)) (k : Nat) (v : Value) (w W : World) : Prop where
  tb : Blk W w.heap.size 25 #[.int .i64 b, .slice A cs.length c, .slice A2 fs.length c2]
  bx : Blk W Bx 25 #[.int .i64 b, v, .slice none 0 0]
  rows : Rows_ w.heap.size v k X W
  below : Below w.heap.size w W
  ne : w.heap.size + 1 ≤ Bx
theorem XI.at_ {b : Int} {A : Option Addr} {c : Nat} {cs : List (List Int)} {A2 : Option Addr} {c2 : Nat} {fs : List Fx} {Bx : Nat} {X : List (List Int)} {k : Nat} {v : Value} {w W W' : World}
    (h : XI b A c cs A2 c2 fs Bx X k v w W) (hb : Below W.heap.size W W') : XI b A c cs A2 c2 fs Bx X k v w W' :=
  ⟨h.tb.keep hb, h.bx.keep hb, h.rows.below hb, h.below.trans (hb.mono h.below.size), h.ne⟩
/-- a row more -/
theorem XI.next {b : Int} {A : Option Addr} {c : Nat} {cs : List (List Int)} {A2 : Option Addr} {c2 : Nat} {fs : List Fx} {Bx : Nat} {X : List (List Int)} {k : Nat} {v v' : Value} {w W W1 W2 : World} {xs : List Int} {A5 : Option Addr} {c5 : Nat} {vs : List Value}
    (h : XI b A c cs A2 c2 fs Bx X k v w W) (hx : X[k]? = some xs) (hg : Good (fun _ => False) W ⟨0, 0, xs⟩ A5 c5) (hb : Below W.heap.size W W1)
    (ho : W1.ownsRow w.heap.size 56 1 v k vs) (hvs : ∀ i x, i < k → X[i]? = some x → ∃ A c, vs[i]? = some (.slice A x.length c) ∧ Good (fun _ => False) W1 ⟨0, 0, x⟩ A c)
    (hgr : W1.grownBy W2 v.ownBlock) (hown : W2.ownsRow w.heap.size 56 1 v' (k + 1) (vs ++ [.slice A5 xs.length c5])) :
    XI b A c cs A2 c2 fs Bx X (k + 1) v' w (W2.setCell ⟨Bx, 1, none⟩ v') := by
  have h1 := h.at_ hb
  have hg1 := hg.below hb
  have hbx2 := h1.bx.row ho (by decide) hgr
  have htb2 := h1.tb.row ho (by decide) hgr
  have hgs := grown_of_set W2 ⟨Bx, 1, none⟩ v'
  have hk7 : Keep (fun q => q = Bx) W2 (W2.setCell ⟨Bx, 1, none⟩ v') := Keep.of_grown hgs rfl
  have hne := h.ne
  refine ⟨hk7.blk htb2 (by omega), hbx2.set_ 1 v', ⟨_, hown.kept hgs (own_ne hown (blk_not hbx2 (by decide))), fun i x hi hxi => ?_⟩, ?_, h.ne⟩
  · by_cases hij : i < k
    · obtain ⟨Ai, ci, q1, q2⟩ := hvs i x hij hxi
      have : vs.length = k := by have := ho.1; omega
      exact ⟨Ai, ci, by rw [List.getElem?_append_left (by omega)]; exact q1, (q2.row ho (by decide) hgr).set_ hbx2 (by decide) hk7⟩
    · obtain rfl : i = k := by omega
      rw [hx] at hxi
      injection hxi with hxi
      subst hxi
      have : vs.length = i := by have := ho.1; omega
      exact ⟨A5, c5, by rw [List.getElem?_append_right (by omega), this]; simp, (hg1.row ho (by decide) hgr).set_ hbx2 (by decide) hk7⟩
  · exact (below_row h1.below ho (Nat.le_refl _) hgr h1.below.size).setCell (p := ⟨Bx, 1, none⟩) (by show w.heap.size ≤ Bx; omega) _
end Go.Proofs.Ytgoianldiomdoaa
