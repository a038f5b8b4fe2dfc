/- For every map and every base: if the table of the people carried from each old district to each new one is rounded so that it adds up, its rows add up to neighbours of the old counts, its columns to neighbours of the carried counts, and each count is in the range that a reader learns: the statement TopMoved. No condition. -/
import Derived.Test.YtlnamjhgbdacbaaGreatG8
import Derived.Test.YtlnamjhgbdacbaaGreatG17
namespace Go.Proofs.YtlnamjhgbdacbaaGreat
open Go.RowKit Go.Shelf

theorem moved_any9 (m : MapD) (A : Option Addr) (c : Nat) (A2 : Option Addr) (c2 : Nat) (A3 : Option Addr) (c3 : Nat) (q : Int) (w : World) (h : MArg m A c A2 c2 A3 c3 w) (hq0 : 0 ≤ q) (hq1 : q ≤ 255) :
    Calls Tryz.prog 3 #[.agg #[.slice A m.old.length c, .int .i64 m.nw, .slice A2 m.ss.length c2, .slice A3 m.js.length c3], .int .u8 q] w fun e w' => e = .returned (.bool true) ∧ Below w.heap.size w w' := by
  cases ht : thinM m
  · exact mvd_not m A c A2 c2 A3 c3 q w h ht
  · by_cases hc : chkM m = 0
    · exact mvd_good m A c A2 c2 A3 c3 q w h hq0 hq1 ht hc
    · exact mvd_bad m A c A2 c2 A3 c3 q w h ht _ hc rfl

open Go.ChangeShapes Go.WideShapes Go.ChangeAt in
set_option maxRecDepth 100000 in
theorem moved_lifted (os : Os) (started : os.Started) (H : Type) (enc : TypeId × Value → H) :
    ReturnsInHanded {} Tryz.checked os 3 .any (Rows.topMovedSpec.pre6 enc Tryz.prog Tryz.f3 Rows.topMovedRow.domain false) (Rows.topMovedSpec.post enc Tryz.prog Tryz.f3 false true false false) := by
  refine returnsInHanded_of_change (C := Tryz.checked) own started (by kernel_rfl) Tryz.func3
    (ChangeSpec.witness6 (enc := enc) (C := Tryz.checked) false ⟨#[], #[.agg #[.slice none 0 0, .int .i64 0, .slice none 0 0, .slice none 0 0], .int .u8 0], []⟩ 8 (by kernel_rfl) (by kernel_rfl) (by kernel_rfl) (by kernel_rfl)) ?_
  intro W base args ds gs before hval0 hW hcnd _
  have hval : ∀ (j : Nat) t v, Tryz.f3.params[j]? = some t → args[j]? = some v → Value.okWide Tryz.prog W .any base t v := hval0
  have hW' := hW
  obtain ⟨p, q, hA0, hV, rfl, hfz, hnd⟩ := hW
  have hA : DataW.TrodAll enc Tryz.prog W 0 (fun _ => true) true Tryz.f3.params.toList args.toList ds p := hA0
  rw [Tryz.params3] at hA hval
  obtain ⟨v0, vs0, d0, ds0, p0, q0, hargs, rfl, rfl, h0, r0⟩ := trodAll_cons hA
  obtain ⟨v1, vs1, d1, ds1, p1, q1, rfl, rfl, rfl, h1, r1⟩ := trodAll_cons r0
  obtain ⟨rfl, rfl, rfl⟩ := trodAll_nil r1
  obtain rfl : args = #[v0, v1] := by cases args; simp_all
  obtain ⟨rfl, rfl⟩ := trodVars_none hV
  obtain ⟨m, A, c, A2, c2, A3, c3, rfl, ht⟩ := open_map (hval 0 26 v0 rfl rfl) h0
  obtain ⟨q9, rfl, rfl, rfl, wk1⟩ := open_int Tryz.underlying5 (hval 1 5 v1 rfl rfl) h1
  have hbq9 : 0 ≤ q9 ∧ q9 ≤ 255 := by
    have h : decide (IntKind.u8.min ≤ q9) = true ∧ decide (q9 ≤ IntKind.u8.max) = true := by simpa [Lit.wf] using wk1
    have h2 := of_decide_eq_true h.1
    have h3 := of_decide_eq_true h.2
    have e1 : IntKind.u8.min = 0 := by decide
    have e2 : IntKind.u8.max = 255 := by decide
    omega
  refine (moved_any9 m A c A2 c2 A3 c3 q9 W ht hbq9.1 hbq9.2).mono fun e W' ⟨he, hb⟩ => ⟨_, he, ?_⟩
  exact law_post laid_out rfl rfl (by kernel_rfl) hW' rfl hb

theorem moved_over : Rows.topMovedRow.holds Tryz.pinned (OpenSpec.ofChange Rows.topMovedSpec) :=
  OpenClaim.holds_of_wide 3 Tryz.f3 rfl rfl rfl rfl rfl rfl rfl ⟨rfl, rfl, rfl, rfl, rfl⟩ rfl rfl rfl rfl rfl (by kernel_rfl) Tryz.func3 (by kernel_rfl)
    (of_decide_eq_true (by kernel_rfl)) (by unfold Func.isWrapper; first | (rw [if_pos (by decide +kernel)]; kernel_rfl) | (rw [if_neg (by decide +kernel)]; exact ⟨rfl, rfl⟩))
    (fun os started H enc _ => moved_lifted os started H enc)
/-- the statement -/
theorem top_moved : Rows.TopMovedSaid := moved_over
#print axioms top_moved
end Go.Proofs.YtlnamjhgbdacbaaGreat
