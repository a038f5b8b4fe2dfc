/- For every base and number, what Learn returns is as the document says, or the error is: the statement RoundLearns. No condition. -/
import Derived.Test.YtgoianldiomdoaaG6
namespace Go.Proofs.Ytgoianldiomdoaa
open Go.RowKit Go.Shelf

set_option maxRecDepth 100000 in
set_option maxHeartbeats 4000000 in
theorem learns_bad (b n : Int) (w : World) (h : withinB b 2 100 = false ∨ withinB n 0 10100 = false ∨ n % b ≠ 0) :
    Calls Try.prog 4 #[.int .i64 b, .int .i64 n] w fun e w' => e = .returned (.bool true) ∧ Below w.heap.size w w' := by
  have K1 := hid (fun W => in_any b 2 100 W)
  have K2 := hid (fun W => in_any n 0 10100 W)
  have KL := hid (learn_any b n w)
  have KA := hid (fun W => awake_any W)
  cases h1 : withinB b 2 100
  · rw [h1] at KL K1
    simp only [if_true] at KL
    clear h h1
    go_enter Try.func4, Try.ntmps4
    go_wp2_with fail
    refine KL.out.mono ?_
    rintro e w2 ⟨rfl, hb2⟩
    have HB := hid hb2
    go_wp2_with fail
    refine (K1.out _).mono ?_
    rintro e w3 ⟨rfl, rfl⟩
    go_wp2_with fail
    refine (KA.out _).mono ?_
    rintro e w4 ⟨rfl, hb4⟩
    go_wp2
    go_ret
    exact ⟨rfl, (HB.out.alloc HB.out.size _).trans (hb4.mono (by simp; have := HB.out.size; omega))⟩
  · have hb : 2 ≤ b ∧ b ≤ 100 := by simpa [withinB] using h1
    rw [h1] at h
    have hbad : withinB n 0 10100 = false ∨ n % b ≠ 0 := by
      rcases h with h | h
      · cases h
      · exact h
    rw [h1, if_neg (by decide), if_pos hbad] at KL
    rw [h1] at K1
    clear h h1
    cases h2 : withinB n 0 10100
    · rw [h2] at K2
      clear h2 hbad
      go_enter Try.func4, Try.ntmps4
      go_wp2_with fail
      refine KL.out.mono ?_
      rintro e w2 ⟨rfl, hb2⟩
      have HB := hid hb2
      go_wp2_with fail
      refine (K1.out _).mono ?_
      rintro e w3 ⟨rfl, rfl⟩
      go_wp2_with fail
      refine (K2.out _).mono ?_
      rintro e w3 ⟨rfl, rfl⟩
      go_wp2_with fail
      refine (KA.out _).mono ?_
      rintro e w4 ⟨rfl, hb4⟩
      go_wp2
      go_ret
      exact ⟨rfl, (HB.out.alloc HB.out.size _).trans (hb4.mono (by simp; have := HB.out.size; omega))⟩
    · have hn : 0 ≤ n ∧ n ≤ 10100 := by simpa [withinB] using h2
      rw [h2] at K2 hbad
      have hm : (n % b != 0) = true := by
        rcases hbad with h | h
        · cases h
        · simpa using h
      clear h2 hbad
      obtain ⟨hb1, hb2⟩ := hb
      obtain ⟨hn1, hn2⟩ := hn
      have hb0 : (b == 0) = false := by simp; omega
      go_enter Try.func4, Try.ntmps4
      go_wp2_with fail
      refine KL.out.mono ?_
      rintro e w2 ⟨rfl, hb2⟩
      have HB := hid hb2
      clear hb2
      go_wp2_with fail
      refine (K1.out _).mono ?_
      rintro e w3 ⟨rfl, rfl⟩
      go_wp2_with fail
      refine (K2.out _).mono ?_
      rintro e w3 ⟨rfl, rfl⟩
      go_wp2_with fail
      refine (KA.out _).mono ?_
      rintro e w4 ⟨rfl, hb4⟩
      go_wp2
      go_ret
      exact ⟨rfl, (HB.out.alloc HB.out.size _).trans (hb4.mono (by simp; have := HB.out.size; omega))⟩

theorem nbr_low {b n k : Int} (hb : 2 ≤ b) (hm : n.tmod b = 0) : nbrB b n k = decide (1 - b ≤ n - k ∧ n - k ≤ b - 1) := by
  unfold nbrB withinB; rw [hm]; simp
set_option maxRecDepth 100000 in
set_option maxHeartbeats 4000000 in
theorem learns_ok (b n : Int) (w : World) (h1 : withinB b 2 100 = true) (h2 : withinB n 0 10100 = true) (h3 : n % b = 0) :
    Calls Try.prog 4 #[.int .i64 b, .int .i64 n] w fun e w' => e = .returned (.bool true) ∧ Below w.heap.size w w' := by
  have K1 := hid (fun W => in_any b 2 100 W)
  have K2 := hid (fun W => in_any n 0 10100 W)
  have KL := hid (learn_any b n w)
  have KA := hid (fun W => awake_any W)
  obtain ⟨hb1, hb2⟩ : 2 ≤ b ∧ b ≤ 100 := by simpa [withinB] using h1
  obtain ⟨hn1, hn2⟩ : 0 ≤ n ∧ n ≤ 10100 := by simpa [withinB] using h2
  rw [h1, if_neg (by decide), h2, if_neg (by simp [h3])] at KL
  obtain ⟨lo, hlo⟩ : ∃ lo, lo = max 0 (n - b + 1) := ⟨_, rfl⟩
  obtain ⟨hi, hhi⟩ : ∃ hi, hi = n + b - 1 := ⟨_, rfl⟩
  rw [← hlo, ← hhi] at KL
  have hl1 : 0 ≤ lo := by omega
  have hl2 : n - b + 1 ≤ lo := by omega
  have hl3 : lo ≤ n := by omega
  have HLO := hid hlo
  have HHI := hid hhi
  clear hlo hhi
  rw [h1] at K1
  rw [h2] at K2
  have hb0 : (b == 0) = false := by simp; omega
  have hm : (n % b != 0) = false := by simp [h3]
  have hmt : n.tmod b = 0 := by rw [Int.tmod_eq_emod_of_nonneg hn1]; exact h3
  have KN := hid (fun (k : Int) (W : World) (hk : -1000000000 ≤ k ∧ k ≤ 1000000000) => nbr_any b n k W (by omega) (by omega) hk)
  have HM := hid (fun (k : Int) => nbr_low (k := k) (n := n) hb1 hmt)
  clear h1 h2 h3 hmt
  go_enter Try.func4, Try.ntmps4
  go_wp2_with fail
  refine KL.out.mono ?_
  rintro e w2 ⟨rfl, hb2⟩
  have HB := hid hb2
  clear hb2
  go_wp2_with fail
  refine (K1.out _).mono ?_
  rintro e w3 ⟨rfl, rfl⟩
  go_wp2_with fail
  refine (K2.out _).mono ?_
  rintro e w3 ⟨rfl, rfl⟩
  go_wp2
  go_loop [8] (fun l => ∃ k : Int, lo ≤ k ∧ k ≤ n ∧ l = .int .i64 k) (fun l => (intOf l).toNat)
  case atStart => exact ⟨n, hl3, Int.le_refl _, rfl⟩
  case round =>
    obtain ⟨k, hk1, hk2, rfl⟩ := hrel
    by_cases hc : 0 < k ∧ n - (k - 1) ≤ b - 1
    · obtain ⟨hc1, hc2⟩ := hc
      have HE := hid (show nbrB b n (k - 1) = true by rw [HM.out]; simp; omega)
      go_wp2_with fail
      refine (KN.out (k - 1) _ (by omega)).mono ?_
      rintro e w3 ⟨rfl, rfl⟩
      rw [HE.out]
      go_wp2
      go_round
      case rel => exact ⟨k - 1, by have := HLO.out; omega, by omega, by first | rfl | exact congrArg (Value.int .i64) (by omega)⟩
      case measure => first | (simp [intOf]; done) | (simp [intOf]; omega)
    · have hkl : k = lo := by have := HLO.out; omega
      have hcase : k ≤ 0 ∨ (0 < k ∧ ¬ n - (k - 1) ≤ b - 1) := by omega
      have HK := hid hkl
      clear hc hkl
      rcases hcase with hz | ⟨hc1, hc2⟩
      all_goals
        first
          | (have HE := hid (show nbrB b n (k - 1) = false by rw [HM.out]; have h1 := hc1; have h2 := hc2; simp; omega)
             go_wp2_with fail
             refine (KN.out (k - 1) _ (by omega)).mono ?_
             rintro e w3 ⟨rfl, rfl⟩
             rw [HE.out]
             go_wp2)
          | go_wp2
        go_loop [9] (fun l => ∃ k : Int, n ≤ k ∧ k ≤ hi ∧ l = .int .i64 k) (fun l => (hi - intOf l).toNat)
        case atStart => exact ⟨n, Int.le_refl _, by have := HHI.out; omega, rfl⟩
        case round =>
          obtain ⟨m, hm1, hm2, rfl⟩ := hrel
          have hmb : m ≤ 20000 := by have := HHI.out; omega
          by_cases hmh : m < hi
          · have HE := hid (show nbrB b n (m + 1) = true by rw [HM.out]; have := HHI.out; simp; omega)
            go_wp2_with fail
            refine (KN.out (m + 1) _ (by omega)).mono ?_
            rintro e w4 ⟨rfl, rfl⟩
            rw [HE.out]
            go_wp2
            go_round
            case rel => exact ⟨m + 1, by omega, by omega, by first | rfl | exact congrArg (Value.int .i64) (by omega)⟩
            case measure => first | (simp [intOf]; done) | (simp [intOf]; omega)
          · have HE := hid (show nbrB b n (m + 1) = false by rw [HM.out]; have := HHI.out; simp; omega)
            obtain rfl : m = hi := by omega
            have hkl := HK.out
            subst hkl
            go_wp2_with fail
            refine (KN.out (m + 1) _ (by omega)).mono ?_
            rintro e w4 ⟨rfl, rfl⟩
            rw [HE.out]
            have hb := Blk.new w2 49 #[.int .i64 k, .int .i64 m]
            obtain ⟨q1, q2⟩ : (∀ q, (xt (w2.alloc (.cells #[.int .i64 k, .int .i64 m] 49)) q).cell? ⟨w2.heap.size, 0, none⟩ = some (.int .i64 k)) ∧ (∀ q, (xt (w2.alloc (.cells #[.int .i64 k, .int .i64 m] 49)) q).cell? ⟨w2.heap.size, 1, none⟩ = some (.int .i64 m)) := ⟨fun q => (hb.keep (below_xt _ q)).c2.1, fun q => (hb.keep (below_xt _ q)).c2.2⟩
            clear hb
            go_wp2
            refine wp_region_quiet_xt (by kernel_rfl) (by kernel_rfl) ?_
            repeat (go_big_quiet_step ((first | (go_at_call 25; exact Calls.xt (between_any _ _ _)) | (go_at_call 17; exact Calls.xt (KA.out _)))))
            refine wpQuiet_nil ?_
            intro W5 hw5
            have HW := hid (of_xt hw5)
            clear hw5 q1 q2
            go_wp2
            go_ret
            exact ⟨rfl, (HB.out.alloc HB.out.size _).trans (HW.out.mono (by simp; have := HB.out.size; omega))⟩

theorem learns_any (b n : Int) (w : World) : Calls Try.prog 4 #[.int .i64 b, .int .i64 n] w fun e w' => e = .returned (.bool true) ∧ Below w.heap.size w w' := by
  by_cases h : withinB b 2 100 = false ∨ withinB n 0 10100 = false ∨ n % b ≠ 0
  · exact learns_bad b n w h
  · rw [not_or, not_or] at h
    exact learns_ok b n w (by simpa using h.1) (by simpa using h.2.1) (by simpa using h.2.2)

open Go.ChangeShapes Go.WideShapes Go.ChangeAt in
set_option maxRecDepth 100000 in
theorem learns_lifted (os : Os) (started : os.Started) (H : Type) (enc : TypeId × Value → H) :
    ReturnsInHanded {} Try.checked os 4 .any (Rows.roundLearnsSpec.pre6 enc Try.prog Try.f4 Rows.roundLearnsRow.domain false) (Rows.roundLearnsSpec.post enc Try.prog Try.f4 false true false false) := by
  refine returnsInHanded_of_change (C := Try.checked) own started (by kernel_rfl) Try.func4
    (ChangeSpec.witness6 (enc := enc) (C := Try.checked) false ⟨#[], #[.int .i64 0, .int .i64 0], []⟩ 8 (by kernel_rfl) (by kernel_rfl) (by kernel_rfl) (by kernel_rfl)) ?_
  intro W base args ds gs before hval0 hW hcnd _
  have hval : ∀ (j : Nat) t v, Try.f4.params[j]? = some t → args[j]? = some v → Value.okWide Try.prog W .any base t v := hval0
  have hW' := hW
  obtain ⟨p, q, hA0, hV, rfl, hfz, hnd⟩ := hW
  have hA : DataW.TrodAll enc Try.prog W 0 (fun _ => true) true Try.f4.params.toList args.toList ds p := hA0
  rw [Try.params4] at hA hval
  obtain ⟨v0, vs0, d0, ds0, p0, q0, hargs, rfl, rfl, h0, r0⟩ := trodAll_cons hA
  obtain ⟨v1, vs1, d1, ds1, p1, q1, rfl, rfl, rfl, h1, r1⟩ := trodAll_cons r0
  obtain ⟨rfl, rfl, rfl⟩ := trodAll_nil r1
  obtain rfl : args = #[v0, v1] := by cases args; simp_all
  obtain ⟨rfl, rfl⟩ := trodVars_none hV
  obtain ⟨a0, rfl, rfl, rfl, w0⟩ := open_int Try.underlying3 (hval 0 3 v0 rfl rfl) h0
  obtain ⟨a1, rfl, rfl, rfl, w1⟩ := open_int Try.underlying3 (hval 1 3 v1 rfl rfl) h1
  refine (learns_any a0 a1 W).mono fun e W' ⟨he, hb⟩ => ⟨_, he, ?_⟩
  exact law_post laid_out rfl rfl (by kernel_rfl) hW' rfl hb

theorem learns_over : Rows.roundLearnsRow.holds Try.pinned (OpenSpec.ofChange Rows.roundLearnsSpec) :=
  OpenClaim.holds_of_wide 4 Try.f4 rfl rfl rfl rfl rfl rfl rfl ⟨rfl, rfl, rfl, rfl, rfl⟩ rfl rfl rfl rfl rfl (by kernel_rfl) Try.func4 (by kernel_rfl)
    (of_decide_eq_true (by kernel_rfl)) (by unfold Func.isWrapper; first | (rw [if_pos (by decide +kernel)]; kernel_rfl) | (rw [if_neg (by decide +kernel)]; exact ⟨rfl, rfl⟩))
    (fun os started H enc _ => learns_lifted os started H enc)
/-- the statement -/
theorem round_learns : Rows.RoundLearnsSaid := learns_over
#print axioms round_learns
end Go.Proofs.Ytgoianldiomdoaa
