/- For every map of places and roads, every limit and every count: the walks of a plan are new districts of places; a district whose walk counts all places of its route is not apart; nobody is lost when the count is carried over; and without a plan the one district is apart just where a place cannot be reached: the statement TopWalked. No condition. -/
import Derived.Test.YtlnamjhgbdacbaaGreatK16
namespace Go.Proofs.YtlnamjhgbdacbaaGreat
open Go.RowKit Go.Shelf

theorem walked_any9 (m : WMD) (A : Option Addr) (c : Nat) (A2 : Option Addr) (c2 : Nat) (q1 q2 : Int) (w : World) (h : WIn m A c A2 c2 w) (hq1 : 0 ≤ q1 ∧ q1 ≤ 65535) (hq2 : 0 ≤ q2 ∧ q2 ≤ 65535) :
    Calls Tryz.prog 4 #[.agg #[.slice A m.work.length c, .slice A2 m.roads.length c2], .int .u16 q1, .int .u16 q2] w fun e w' => e = .returned (.bool true) ∧ Below w.heap.size w w' := by
  cases ht : wthinB m
  · exact wkd_not m A c A2 c2 q1 q2 w h ht
  · exact wkd_thin m A c A2 c2 q1 q2 w h ht hq1 hq2
theorem u16_bound {q : Int} (h : (Lit.wf (.int .u16 q)) = true) : 0 ≤ q ∧ q ≤ 65535 := by
  have h : decide (IntKind.u16.min ≤ q) = true ∧ decide (q ≤ IntKind.u16.max) = true := by simpa [Lit.wf] using h
  have h2 := of_decide_eq_true h.1
  have h3 := of_decide_eq_true h.2
  have e1 : IntKind.u16.min = 0 := by decide
  have e2 : IntKind.u16.max = 65535 := by decide
  omega

open Go.ChangeShapes Go.WideShapes Go.ChangeAt in
set_option maxRecDepth 100000 in
theorem walked_lifted (os : Os) (started : os.Started) (H : Type) (enc : TypeId × Value → H) :
    ReturnsInHanded {} Tryz.checked os 4 .any (Rows.topWalkedSpec.pre6 enc Tryz.prog Tryz.f4 Rows.topWalkedRow.domain false) (Rows.topWalkedSpec.post enc Tryz.prog Tryz.f4 false true false false) := by
  refine returnsInHanded_of_change (C := Tryz.checked) own started (by kernel_rfl) Tryz.func4
    (ChangeSpec.witness6 (enc := enc) (C := Tryz.checked) false ⟨#[], #[.agg #[.slice none 0 0, .slice none 0 0], .int .u16 0, .int .u16 0], []⟩ 8 (by kernel_rfl) (by kernel_rfl) (by kernel_rfl) (by kernel_rfl)) ?_
  intro W base args ds gs before hval0 hW hcnd _
  have hval : ∀ (j : Nat) t v, Tryz.f4.params[j]? = some t → args[j]? = some v → Value.okWide Tryz.prog W .any base t v := hval0
  have hW' := hW
  obtain ⟨p, q, hA0, hV, rfl, hfz, hnd⟩ := hW
  have hA : DataW.TrodAll enc Tryz.prog W 0 (fun _ => true) true Tryz.f4.params.toList args.toList ds p := hA0
  rw [Tryz.params4] at hA hval
  obtain ⟨v0, vs0, d0, ds0, p0, q0, hargs, rfl, rfl, h0, r0⟩ := trodAll_cons hA
  obtain ⟨v1, vs1, d1, ds1, p1, q1, rfl, rfl, rfl, h1, r1⟩ := trodAll_cons r0
  obtain ⟨v2, vs2, d2, ds2, p2, q2, rfl, rfl, rfl, h2, r2⟩ := trodAll_cons r1
  obtain ⟨rfl, rfl, rfl⟩ := trodAll_nil r2
  obtain rfl : args = #[v0, v1, v2] := by cases args; simp_all
  obtain ⟨rfl, rfl⟩ := trodVars_none hV
  obtain ⟨m, A, c, A2, c2, rfl, ht⟩ := open_wmap (hval 0 55 v0 rfl rfl) h0
  obtain ⟨q9, rfl, rfl, rfl, wk1⟩ := open_int Tryz.underlying56 (hval 1 56 v1 rfl rfl) h1
  obtain ⟨q8, rfl, rfl, rfl, wk2⟩ := open_int Tryz.underlying56 (hval 2 56 v2 rfl rfl) h2
  refine (walked_any9 m A c A2 c2 q9 q8 W ht (u16_bound wk1) (u16_bound wk2)).mono fun e W' ⟨he, hb⟩ => ⟨_, he, ?_⟩
  exact law_post laid_out rfl rfl (by kernel_rfl) hW' rfl hb

theorem walked_over : Rows.topWalkedRow.holds Tryz.pinned (OpenSpec.ofChange Rows.topWalkedSpec) :=
  OpenClaim.holds_of_wide 4 Tryz.f4 rfl rfl rfl rfl rfl rfl rfl ⟨rfl, rfl, rfl, rfl, rfl⟩ rfl rfl rfl rfl rfl (by kernel_rfl) Tryz.func4 (by kernel_rfl)
    (of_decide_eq_true (by kernel_rfl)) (by unfold Func.isWrapper; first | (rw [if_pos (by decide +kernel)]; kernel_rfl) | (rw [if_neg (by decide +kernel)]; exact ⟨rfl, rfl⟩))
    (fun os started H enc _ => walked_lifted os started H enc)
/-- the statement -/
theorem top_walked : Rows.TopWalkedSaid := walked_over
#print axioms top_walked
end Go.Proofs.YtlnamjhgbdacbaaGreat
