/- The document's examples, and errors: the closed statement BorderNames. No condition. -/
import Derived.Test.YtoeabajigfdkaaaG1
import Derived.Test.YtoeabajigfdkaaaG3
import Derived.Test.YtoeabajigfdkaaaG13
import Derived.Test.YtoeabajigfdkaaaG17
import Derived.Test.YtoeabajigfdkaaaG25
namespace Go.Proofs.Ytoeabajigfdkaaa
open Go.RowKit Go.Shelf

set_option maxRecDepth 100000 in
set_option maxHeartbeats 16000000 in
theorem names_any9 (w : World) : Calls Try.prog 15 #[] w fun e w' => e = .returned (.bool true) ∧ Below w.heap.size w w' := by
  have HB0 := hid (Below.refl w.heap.size w)
  go_enter Try.func15, Try.ntmps15
  have K1 := hid (town_y w)
  go_wp2_with fail
  refine K1.out.mono ?_
  rintro e w1 ⟨ya, rfl, hsya, htya, hb⟩
  have HB1 := hid (HB0.out.trans (hb.mono HB0.out.size))
  have HTya := hid htya
  have HSya := hid hsya
  clear htya hsya
  clear hb K1
  have Tya_0 := hid (HTya.out)
  have K2 := hid (streets_town Tya_0.out)
  go_wp2_with fail
  refine K2.out.mono ?_
  rintro e w2 ⟨aB, cB, rfl, hr, hb⟩
  have HB2 := hid (HB1.out.trans (hb.mono HB1.out.size))
  have Tya_2 := hid (Tya_0.out.keep hb)
  have HR0 := hid hr
  clear hr
  clear hb K2
  have R_0 := hid (HR0.out)
  have K3 := hid (town_y w2)
  go_wp2_with fail
  refine K3.out.mono ?_
  rintro e w3 ⟨yb, rfl, hsyb, htyb, hb⟩
  have HB3 := hid (HB2.out.trans (hb.mono HB2.out.size))
  have R_3 := hid (R_0.out.at_ hb)
  have HTyb := hid htyb
  have HSyb := hid hsyb
  clear htyb hsyb
  clear hb K3
  have Tyb_0 := hid (HTyb.out)
  have K4 := hid (apart_town Tyb_0.out)
  go_wp2_with fail
  refine K4.out.mono ?_
  rintro e w4 ⟨yA, rfl, hr, hb⟩
  have HB4 := hid (HB3.out.trans (hb.mono HB3.out.size))
  have Tyb_4 := hid (Tyb_0.out.keep hb)
  have R_4 := hid (R_3.out.at_ hb)
  have HA0 := hid hr
  clear hr
  clear hb K4
  have A_0 := hid (HA0.out)
  have K5 := hid (town_y w4)
  go_wp2_with fail
  refine K5.out.mono ?_
  rintro e w5 ⟨yc, rfl, hsyc, htyc, hb⟩
  have HB5 := hid (HB4.out.trans (hb.mono HB4.out.size))
  have A_5 := hid (A_0.out.at_ hb)
  have R_5 := hid (R_4.out.at_ hb)
  have HTyc := hid htyc
  have HSyc := hid hsyc
  clear htyc hsyc
  clear hb K5
  have Tyc_0 := hid (HTyc.out)
  have K6 := hid (between_any 40 120 w5)
  go_wp2_with fail
  refine K6.out.mono ?_
  rintro e w6 ⟨rfl, hb⟩
  have HB6 := hid (HB5.out.trans (hb.mono HB5.out.size))
  have Tyc_6 := hid (Tyc_0.out.keep hb)
  have A_6 := hid (A_5.out.at_ hb)
  have R_6 := hid (R_5.out.at_ hb)
  clear hb K6
  have K7 := hid (best_town1 Tyc_6.out)
  go_wp2_with fail
  refine K7.out.mono ?_
  rintro e w7 ⟨yB, rfl, hr, hb⟩
  have HB7 := hid (HB6.out.trans (hb.mono HB6.out.size))
  have Tyc_7 := hid (Tyc_6.out.keep hb)
  have A_7 := hid (A_6.out.at_ hb)
  have R_7 := hid (R_6.out.at_ hb)
  have HBe := hid hr
  clear hr
  clear hb K7
  have B_0 := hid (HBe.out)
  go_wp2
  refine (wpIn_wide (n := 0)).1 ?_
  refine wpIn_region_each 99 (fun i v W' => match i with | 0 => v = .int .i64 0 | 1 => v = .bool false | 2 => v = .bool false | 3 => v = .slice (some aB) 4 cB | 4 => v = .int .i64 4 | 5 => v = .bool false | 6 => v = .bool false | 7 => v = .bool false | 8 => v = .slice (some aB) 4 cB | 9 => v = .pointer (some (aB.add 0)) | 10 => v = .agg #[.int .i64 50, .int .i64 70] | 11 => v = .agg #[.int .i64 50, .int .i64 70] | 12 => v = .bool false | 13 => v = .bool false | 14 => v = .bool false | 15 => v = .slice (some aB) 4 cB | 16 => v = .pointer (some (aB.add 2)) | 17 => v = .agg #[.int .i64 30, .int .i64 50] | 18 => v = .agg #[.int .i64 30, .int .i64 50] | 19 => v = .bool false | 20 => v = .bool false | 21 => v = .bool false | 22 => v = .slice (some aB) 4 cB | 23 => v = .pointer (some (aB.add 4)) | 24 => v = .agg #[.int .i64 30, .int .i64 60] | 25 => v = .agg #[.int .i64 30, .int .i64 60] | 26 => v = .bool false | 27 => v = .bool false | 28 => v = .bool false | 29 => v = .slice (some aB) 4 cB | 30 => v = .pointer (some (aB.add 6)) | 31 => v = .agg #[.int .i64 0, .int .i64 30] | 32 => v = .agg #[.int .i64 0, .int .i64 30] | 33 => v = .bool false | 34 => v = .bool false | 35 => v = .bool false | 36 => v = .int .i64 0 | 37 => v = .bool false | 38 => v = .bool false | 39 => v = .bool false | 40 => v = .slice yA.1 1 yA.2 | 41 => ∃ gl, v = .slice (some ⟨gl, 0, none⟩) 1 1 ∧ Blk W' gl 3 (([0] : List Int).map (Value.int .i64)).toArray | 42 => v = .bool true | 43 => v = .bool false | 44 => v = .bool false | 45 => v = .bool false | 46 => v = .int .i64 0 | 47 => v = .bool false | 48 => v = .bool false | 49 => v = .bool false | 50 => v = .slice yB.1 4 yB.2 | 51 => ∃ gl, v = .slice (some ⟨gl, 0, none⟩) 4 4 ∧ Blk W' gl 3 (([0, 1, 1, 1] : List Int).map (Value.int .i64)).toArray | 52 => v = .bool true | 53 => v = .bool false | 54 => v = .bool false | 55 => v = .bool false | 56 => v = .int .i64 1 | 57 => v = .bool false | 58 => v = .bool false | 59 => v = .bool false | 60 => ∃ (y : Nat × Nat × Nat), v = .agg #[.slice (some ⟨y.1, 0, none⟩) 2 2, .int .i64 2, .slice (some ⟨y.2.1, 0, none⟩) 4 4, .slice (some ⟨y.2.2, 0, none⟩) 3 3] ∧ TownAt y.1 y.2.1 y.2.2 W' | 61 => ∃ gl, v = .slice (some ⟨gl, 0, none⟩) 4 4 ∧ Blk W' gl 3 (([60, 40, 50, 10] : List Int).map (Value.int .i64)).toArray | 62 => v = .bool true | 63 => v = .bool false | 64 => v = .bool false | 65 => v = .bool false | 66 => ∃ (y : Nat × Nat × Nat), v = .agg #[.slice (some ⟨y.1, 0, none⟩) 2 2, .int .i64 2, .slice (some ⟨y.2.1, 0, none⟩) 4 4, .slice (some ⟨y.2.2, 0, none⟩) 3 3] ∧ TownAt y.1 y.2.1 y.2.2 W' | 67 => ∃ gl, v = .slice (some ⟨gl, 0, none⟩) 4 4 ∧ Blk W' gl 3 (([60, 40, 50, 11] : List Int).map (Value.int .i64)).toArray | 68 => v = .bool false | 69 => v = .bool false | 70 => v = .bool false | 71 => ∃ (y : Nat × Nat × Nat), v = .agg #[.slice (some ⟨y.1, 0, none⟩) 2 2, .int .i64 2, .slice (some ⟨y.2.1, 0, none⟩) 4 4, .slice (some ⟨y.2.2, 0, none⟩) 3 3] ∧ TownAt y.1 y.2.1 y.2.2 W' | 72 => ∃ gl, v = .slice (some ⟨gl, 0, none⟩) 4 4 ∧ Blk W' gl 3 (([40, 60, 50, 10] : List Int).map (Value.int .i64)).toArray | 73 => v = .bool false | 74 => v = .bool false | 75 => v = .bool false | 76 => ∃ (y : Nat × Nat × Nat), v = .agg #[.slice (some ⟨y.1, 0, none⟩) 2 2, .int .i64 2, .slice (some ⟨y.2.1, 0, none⟩) 4 4, .slice (some ⟨y.2.2, 0, none⟩) 3 3] ∧ TownAt y.1 y.2.1 y.2.2 W' | 77 => ∃ gl, v = .slice (some ⟨gl, 0, none⟩) 4 4 ∧ Blk W' gl 3 (([0, 1, 1, 1] : List Int).map (Value.int .i64)).toArray | 78 => v = .agg #[.int .i64 40, .int .i64 120] | 79 => v = .bool true | 80 => v = .bool false | 81 => v = .bool false | 82 => v = .bool false | 83 => ∃ (y : Nat × Nat × Nat), v = .agg #[.slice (some ⟨y.1, 0, none⟩) 2 2, .int .i64 2, .slice (some ⟨y.2.1, 0, none⟩) 4 4, .slice (some ⟨y.2.2, 0, none⟩) 3 3] ∧ TownAt y.1 y.2.1 y.2.2 W' | 84 => ∃ gl, v = .slice (some ⟨gl, 0, none⟩) 4 4 ∧ Blk W' gl 3 (([0, 1, 1, 1] : List Int).map (Value.int .i64)).toArray | 85 => v = .agg #[.int .i64 40, .int .i64 120] | 86 => v = .bool false | 87 => v = .bool false | 88 => v = .bool false | 89 => ∃ (y : Nat × Nat × Nat), v = .agg #[.slice (some ⟨y.1, 0, none⟩) 2 2, .int .i64 2, .slice (some ⟨y.2.1, 0, none⟩) 4 4, .slice (some ⟨y.2.2, 0, none⟩) 3 3] ∧ TownAt y.1 y.2.1 y.2.2 W' | 90 => ∃ gl, v = .slice (some ⟨gl, 0, none⟩) 4 4 ∧ Blk W' gl 3 (([0, 1, 1, 1] : List Int).map (Value.int .i64)).toArray | 91 => v = .agg #[.int .i64 40, .int .i64 109] | 92 => v = .bool false | 93 => v = .bool false | 94 => v = .bool false | 95 => ∃ (y : Nat × Nat × Nat), v = .agg #[.slice (some ⟨y.1, 0, none⟩) 2 2, .int .i64 2, .slice (some ⟨y.2.1, 0, none⟩) 4 4, .slice (some ⟨y.2.2, 0, none⟩) 3 3] ∧ TownAt y.1 y.2.1 y.2.2 W' | 96 => ∃ gl, v = .slice (some ⟨gl, 0, none⟩) 4 4 ∧ Blk W' gl 3 (([0, 1, 1, 0] : List Int).map (Value.int .i64)).toArray | 97 => v = .agg #[.int .i64 0, .int .i64 200] | 98 => v = .bool false | _ => True) (fun A B => Below A.heap.size A B) (fun _ _ => True) (by kernel_rfl) (by kernel_rfl) ?_ (fun h k => h.trans (k.mono h.size)) ⟨rfl, rfl, rfl, Nat.le_refl _, fun _ _ => rfl⟩ trivial (by kernel_rfl) ?_ ?_
  · intro i v W1 W2 hb h
    match i, h with
    | 0, h => exact h
    | 1, h => exact h
    | 2, h => exact h
    | 3, h => exact h
    | 4, h => exact h
    | 5, h => exact h
    | 6, h => exact h
    | 7, h => exact h
    | 8, h => exact h
    | 9, h => exact h
    | 10, h => exact h
    | 11, h => exact h
    | 12, h => exact h
    | 13, h => exact h
    | 14, h => exact h
    | 15, h => exact h
    | 16, h => exact h
    | 17, h => exact h
    | 18, h => exact h
    | 19, h => exact h
    | 20, h => exact h
    | 21, h => exact h
    | 22, h => exact h
    | 23, h => exact h
    | 24, h => exact h
    | 25, h => exact h
    | 26, h => exact h
    | 27, h => exact h
    | 28, h => exact h
    | 29, h => exact h
    | 30, h => exact h
    | 31, h => exact h
    | 32, h => exact h
    | 33, h => exact h
    | 34, h => exact h
    | 35, h => exact h
    | 36, h => exact h
    | 37, h => exact h
    | 38, h => exact h
    | 39, h => exact h
    | 40, h => exact h
    | 41, h =>
      obtain ⟨gl, rfl, h1⟩ := h
      exact ⟨_, rfl, h1.keep hb⟩
    | 42, h => exact h
    | 43, h => exact h
    | 44, h => exact h
    | 45, h => exact h
    | 46, h => exact h
    | 47, h => exact h
    | 48, h => exact h
    | 49, h => exact h
    | 50, h => exact h
    | 51, h =>
      obtain ⟨gl, rfl, h1⟩ := h
      exact ⟨_, rfl, h1.keep hb⟩
    | 52, h => exact h
    | 53, h => exact h
    | 54, h => exact h
    | 55, h => exact h
    | 56, h => exact h
    | 57, h => exact h
    | 58, h => exact h
    | 59, h => exact h
    | 60, h =>
      obtain ⟨y, rfl, h1⟩ := h
      exact ⟨_, rfl, h1.keep hb⟩
    | 61, h =>
      obtain ⟨gl, rfl, h1⟩ := h
      exact ⟨_, rfl, h1.keep hb⟩
    | 62, h => exact h
    | 63, h => exact h
    | 64, h => exact h
    | 65, h => exact h
    | 66, h =>
      obtain ⟨y, rfl, h1⟩ := h
      exact ⟨_, rfl, h1.keep hb⟩
    | 67, h =>
      obtain ⟨gl, rfl, h1⟩ := h
      exact ⟨_, rfl, h1.keep hb⟩
    | 68, h => exact h
    | 69, h => exact h
    | 70, h => exact h
    | 71, h =>
      obtain ⟨y, rfl, h1⟩ := h
      exact ⟨_, rfl, h1.keep hb⟩
    | 72, h =>
      obtain ⟨gl, rfl, h1⟩ := h
      exact ⟨_, rfl, h1.keep hb⟩
    | 73, h => exact h
    | 74, h => exact h
    | 75, h => exact h
    | 76, h =>
      obtain ⟨y, rfl, h1⟩ := h
      exact ⟨_, rfl, h1.keep hb⟩
    | 77, h =>
      obtain ⟨gl, rfl, h1⟩ := h
      exact ⟨_, rfl, h1.keep hb⟩
    | 78, h => exact h
    | 79, h => exact h
    | 80, h => exact h
    | 81, h => exact h
    | 82, h => exact h
    | 83, h =>
      obtain ⟨y, rfl, h1⟩ := h
      exact ⟨_, rfl, h1.keep hb⟩
    | 84, h =>
      obtain ⟨gl, rfl, h1⟩ := h
      exact ⟨_, rfl, h1.keep hb⟩
    | 85, h => exact h
    | 86, h => exact h
    | 87, h => exact h
    | 88, h => exact h
    | 89, h =>
      obtain ⟨y, rfl, h1⟩ := h
      exact ⟨_, rfl, h1.keep hb⟩
    | 90, h =>
      obtain ⟨gl, rfl, h1⟩ := h
      exact ⟨_, rfl, h1.keep hb⟩
    | 91, h => exact h
    | 92, h => exact h
    | 93, h => exact h
    | 94, h => exact h
    | 95, h =>
      obtain ⟨y, rfl, h1⟩ := h
      exact ⟨_, rfl, h1.keep hb⟩
    | 96, h =>
      obtain ⟨gl, rfl, h1⟩ := h
      exact ⟨_, rfl, h1.keep hb⟩
    | 97, h => exact h
    | 98, h => exact h
    | i + 99, h => trivial
  · refine ⟨?_, ?_, ?_, ?_, ?_, ?_, ?_, ?_, ?_, ?_, ?_, ?_, ?_, ?_, ?_, ?_, ?_, ?_, ?_, ?_, ?_, ?_, ?_, ?_, ?_, ?_, ?_, ?_, ?_, ?_, ?_, ?_, ?_, ?_, ?_, ?_, ?_, ?_, ?_, ?_, ?_, ?_, ?_, ?_, ?_, ?_, ?_, ?_, ?_, ?_, ?_, ?_, ?_, ?_, ?_, ?_, ?_, ?_, ?_, ?_, ?_, ?_, ?_, ?_, ?_, ?_, ?_, ?_, ?_, ?_, ?_, ?_, ?_, ?_, ?_, ?_, ?_, ?_, ?_, ?_, ?_, ?_, ?_, ?_, ?_, ?_, ?_, ?_, ?_, ?_, ?_, ?_, ?_, ?_, ?_, ?_, ?_, ?_, ?_, trivial⟩
    · -- 0
      intro li a1 W2 hA K hK
      have e2 := hA.par 2 (by kernel_rfl)
      refine opStep none 0 rfl rfl (fun c hc => by cases hc) ?_
      go_simp
      exact hK _ _ rfl (Below.refl _ _) trivial
    · -- 1
      intro li a1 W2 hA K hK
      have e41 : a1.tmps.getD 41 undef = .int .i64 0 := hA.val 0 41 (by kernel_rfl) (by kernel_rfl)
      refine opStep none 0 rfl rfl (fun c hc => by cases hc) ?_
      go_simp
      exact hK _ _ (by first | rfl | simp) (Below.refl _ _) trivial
    · -- 2
      intro li a1 W2 hA K hK
      have e42 : a1.tmps.getD 42 undef = .bool false := hA.val 1 42 (by kernel_rfl) (by kernel_rfl)
      refine opStep none 0 rfl rfl (fun c hc => by cases hc) ?_
      go_simp
      exact hK _ _ rfl (Below.refl _ _) trivial
    · -- 3
      intro li a1 W2 hA K hK
      have eg43 : a1.tmps.getD 43 undef = .bool false := hA.val 2 43 (by kernel_rfl) (by kernel_rfl)
      have e1 := hA.par 1 (by kernel_rfl)
      refine opStep none 0 rfl (wanted_yes (j := 2) (d := 43) (b := false) rfl (by kernel_rfl) eg43) (fun c hc => by cases hc) ?_
      go_simp
      exact hK _ _ rfl (Below.refl _ _) trivial
    · -- 4
      intro li a1 W2 hA K hK
      have eg43 : a1.tmps.getD 43 undef = .bool false := hA.val 2 43 (by kernel_rfl) (by kernel_rfl)
      have e44 : a1.tmps.getD 44 undef = .slice (some aB) 4 cB := hA.val 3 44 (by kernel_rfl) (by kernel_rfl)
      refine opStep none 0 rfl (wanted_yes (j := 2) (d := 43) (b := false) rfl (by kernel_rfl) eg43) (fun c hc => by cases hc) ?_
      go_simp
      exact hK _ _ rfl (Below.refl _ _) trivial
    · -- 5
      intro li a1 W2 hA K hK
      have eg43 : a1.tmps.getD 43 undef = .bool false := hA.val 2 43 (by kernel_rfl) (by kernel_rfl)
      have e45 : a1.tmps.getD 45 undef = .int .i64 4 := hA.val 4 45 (by kernel_rfl) (by kernel_rfl)
      refine opStep none 0 rfl (wanted_yes (j := 2) (d := 43) (b := false) rfl (by kernel_rfl) eg43) (fun c hc => by cases hc) ?_
      go_simp
      exact hK _ _ (by first | rfl | simp) (Below.refl _ _) trivial
    · -- 6
      intro li a1 W2 hA K hK
      have e43 : a1.tmps.getD 43 undef = .bool false := hA.val 2 43 (by kernel_rfl) (by kernel_rfl)
      have e46 : a1.tmps.getD 46 undef = .bool false := hA.val 5 46 (by kernel_rfl) (by kernel_rfl)
      refine opStep none 0 rfl rfl (fun c hc => by cases hc) ?_
      go_simp
      exact hK _ _ rfl (Below.refl _ _) trivial
    · -- 7
      intro li a1 W2 hA K hK
      have e47 : a1.tmps.getD 47 undef = .bool false := hA.val 6 47 (by kernel_rfl) (by kernel_rfl)
      refine opStep none 0 rfl rfl (fun c hc => by cases hc) ?_
      go_simp
      exact hK _ _ rfl (Below.refl _ _) trivial
    · -- 8
      intro li a1 W2 hA K hK
      have eg48 : a1.tmps.getD 48 undef = .bool false := hA.val 7 48 (by kernel_rfl) (by kernel_rfl)
      have e1 := hA.par 1 (by kernel_rfl)
      refine opStep none 0 rfl (wanted_yes (j := 7) (d := 48) (b := false) rfl (by kernel_rfl) eg48) (fun c hc => by cases hc) ?_
      go_simp
      exact hK _ _ rfl (Below.refl _ _) trivial
    · -- 9
      intro li a1 W2 hA K hK
      have eg48 : a1.tmps.getD 48 undef = .bool false := hA.val 7 48 (by kernel_rfl) (by kernel_rfl)
      have e49 : a1.tmps.getD 49 undef = .slice (some aB) 4 cB := hA.val 8 49 (by kernel_rfl) (by kernel_rfl)
      refine opStep none 0 rfl (wanted_yes (j := 7) (d := 48) (b := false) rfl (by kernel_rfl) eg48) (fun c hc => by cases hc) ?_
      go_simp
      exact hK _ _ rfl (Below.refl _ _) trivial
    · -- 10
      intro li a1 W2 hA K hK
      have eg48 : a1.tmps.getD 48 undef = .bool false := hA.val 7 48 (by kernel_rfl) (by kernel_rfl)
      have e50 : a1.tmps.getD 50 undef = .pointer (some (aB.add 0)) := hA.val 9 50 (by kernel_rfl) (by kernel_rfl)
      obtain ⟨q1, q2⟩ := rng_at (k := 0) (R_7.out.at_ hA.st) rfl
      have q3 : W2.cell? aB = some (.int .i64 50) := by simpa [Addr.add] using q1
      have q4 : W2.cell? ⟨aB.block, aB.off + 1, none⟩ = some (.int .i64 70) := q2
      clear q1 q2
      refine opStep none 0 rfl (wanted_yes (j := 7) (d := 48) (b := false) rfl (by kernel_rfl) eg48) (fun c hc => by cases hc) ?_
      go_simp
      exact hK _ _ rfl (Below.refl _ _) trivial
    · -- 11
      intro li a1 W2 hA K hK
      have eg48 : a1.tmps.getD 48 undef = .bool false := hA.val 7 48 (by kernel_rfl) (by kernel_rfl)
      refine opStep none 0 rfl (wanted_yes (j := 7) (d := 48) (b := false) rfl (by kernel_rfl) eg48) (fun c hc => by cases hc) ?_
      go_simp
      refine (between_any 50 70 W2).mono ?_
      rintro e W3 ⟨rfl, hb3⟩
      exact hK _ _ rfl hb3 trivial
    · -- 12
      intro li a1 W2 hA K hK
      have eg48 : a1.tmps.getD 48 undef = .bool false := hA.val 7 48 (by kernel_rfl) (by kernel_rfl)
      have e51 : a1.tmps.getD 51 undef = .agg #[.int .i64 50, .int .i64 70] := hA.val 10 51 (by kernel_rfl) (by kernel_rfl)
      have e52 : a1.tmps.getD 52 undef = .agg #[.int .i64 50, .int .i64 70] := hA.val 11 52 (by kernel_rfl) (by kernel_rfl)
      refine opStep none 0 rfl (wanted_yes (j := 7) (d := 48) (b := false) rfl (by kernel_rfl) eg48) (fun c hc => by cases hc) ?_
      go_simp
      exact hK _ _ (by first | rfl | simp) (Below.refl _ _) trivial
    · -- 13
      intro li a1 W2 hA K hK
      have e48 : a1.tmps.getD 48 undef = .bool false := hA.val 7 48 (by kernel_rfl) (by kernel_rfl)
      have e53 : a1.tmps.getD 53 undef = .bool false := hA.val 12 53 (by kernel_rfl) (by kernel_rfl)
      refine opStep none 0 rfl rfl (fun c hc => by cases hc) ?_
      go_simp
      exact hK _ _ rfl (Below.refl _ _) trivial
    · -- 14
      intro li a1 W2 hA K hK
      have e54 : a1.tmps.getD 54 undef = .bool false := hA.val 13 54 (by kernel_rfl) (by kernel_rfl)
      refine opStep none 0 rfl rfl (fun c hc => by cases hc) ?_
      go_simp
      exact hK _ _ rfl (Below.refl _ _) trivial
    · -- 15
      intro li a1 W2 hA K hK
      have eg55 : a1.tmps.getD 55 undef = .bool false := hA.val 14 55 (by kernel_rfl) (by kernel_rfl)
      have e1 := hA.par 1 (by kernel_rfl)
      refine opStep none 0 rfl (wanted_yes (j := 14) (d := 55) (b := false) rfl (by kernel_rfl) eg55) (fun c hc => by cases hc) ?_
      go_simp
      exact hK _ _ rfl (Below.refl _ _) trivial
    · -- 16
      intro li a1 W2 hA K hK
      have eg55 : a1.tmps.getD 55 undef = .bool false := hA.val 14 55 (by kernel_rfl) (by kernel_rfl)
      have e56 : a1.tmps.getD 56 undef = .slice (some aB) 4 cB := hA.val 15 56 (by kernel_rfl) (by kernel_rfl)
      refine opStep none 0 rfl (wanted_yes (j := 14) (d := 55) (b := false) rfl (by kernel_rfl) eg55) (fun c hc => by cases hc) ?_
      go_simp
      exact hK _ _ rfl (Below.refl _ _) trivial
    · -- 17
      intro li a1 W2 hA K hK
      have eg55 : a1.tmps.getD 55 undef = .bool false := hA.val 14 55 (by kernel_rfl) (by kernel_rfl)
      have e57 : a1.tmps.getD 57 undef = .pointer (some (aB.add 2)) := hA.val 16 57 (by kernel_rfl) (by kernel_rfl)
      obtain ⟨q1, q2⟩ := rng_at (k := 1) (R_7.out.at_ hA.st) rfl
      have q3 : W2.cell? ⟨aB.block, aB.off + 2, none⟩ = some (.int .i64 30) := by simpa [Addr.add] using q1
      have q4 : W2.cell? ⟨aB.block, aB.off + 2 + 1, none⟩ = some (.int .i64 50) := q2
      clear q1 q2
      refine opStep none 0 rfl (wanted_yes (j := 14) (d := 55) (b := false) rfl (by kernel_rfl) eg55) (fun c hc => by cases hc) ?_
      go_simp
      exact hK _ _ rfl (Below.refl _ _) trivial
    · -- 18
      intro li a1 W2 hA K hK
      have eg55 : a1.tmps.getD 55 undef = .bool false := hA.val 14 55 (by kernel_rfl) (by kernel_rfl)
      refine opStep none 0 rfl (wanted_yes (j := 14) (d := 55) (b := false) rfl (by kernel_rfl) eg55) (fun c hc => by cases hc) ?_
      go_simp
      refine (between_any 30 50 W2).mono ?_
      rintro e W3 ⟨rfl, hb3⟩
      exact hK _ _ rfl hb3 trivial
    · -- 19
      intro li a1 W2 hA K hK
      have eg55 : a1.tmps.getD 55 undef = .bool false := hA.val 14 55 (by kernel_rfl) (by kernel_rfl)
      have e58 : a1.tmps.getD 58 undef = .agg #[.int .i64 30, .int .i64 50] := hA.val 17 58 (by kernel_rfl) (by kernel_rfl)
      have e59 : a1.tmps.getD 59 undef = .agg #[.int .i64 30, .int .i64 50] := hA.val 18 59 (by kernel_rfl) (by kernel_rfl)
      refine opStep none 0 rfl (wanted_yes (j := 14) (d := 55) (b := false) rfl (by kernel_rfl) eg55) (fun c hc => by cases hc) ?_
      go_simp
      exact hK _ _ (by first | rfl | simp) (Below.refl _ _) trivial
    · -- 20
      intro li a1 W2 hA K hK
      have e55 : a1.tmps.getD 55 undef = .bool false := hA.val 14 55 (by kernel_rfl) (by kernel_rfl)
      have e60 : a1.tmps.getD 60 undef = .bool false := hA.val 19 60 (by kernel_rfl) (by kernel_rfl)
      refine opStep none 0 rfl rfl (fun c hc => by cases hc) ?_
      go_simp
      exact hK _ _ rfl (Below.refl _ _) trivial
    · -- 21
      intro li a1 W2 hA K hK
      have e61 : a1.tmps.getD 61 undef = .bool false := hA.val 20 61 (by kernel_rfl) (by kernel_rfl)
      refine opStep none 0 rfl rfl (fun c hc => by cases hc) ?_
      go_simp
      exact hK _ _ rfl (Below.refl _ _) trivial
    · -- 22
      intro li a1 W2 hA K hK
      have eg62 : a1.tmps.getD 62 undef = .bool false := hA.val 21 62 (by kernel_rfl) (by kernel_rfl)
      have e1 := hA.par 1 (by kernel_rfl)
      refine opStep none 0 rfl (wanted_yes (j := 21) (d := 62) (b := false) rfl (by kernel_rfl) eg62) (fun c hc => by cases hc) ?_
      go_simp
      exact hK _ _ rfl (Below.refl _ _) trivial
    · -- 23
      intro li a1 W2 hA K hK
      have eg62 : a1.tmps.getD 62 undef = .bool false := hA.val 21 62 (by kernel_rfl) (by kernel_rfl)
      have e63 : a1.tmps.getD 63 undef = .slice (some aB) 4 cB := hA.val 22 63 (by kernel_rfl) (by kernel_rfl)
      refine opStep none 0 rfl (wanted_yes (j := 21) (d := 62) (b := false) rfl (by kernel_rfl) eg62) (fun c hc => by cases hc) ?_
      go_simp
      exact hK _ _ rfl (Below.refl _ _) trivial
    · -- 24
      intro li a1 W2 hA K hK
      have eg62 : a1.tmps.getD 62 undef = .bool false := hA.val 21 62 (by kernel_rfl) (by kernel_rfl)
      have e64 : a1.tmps.getD 64 undef = .pointer (some (aB.add 4)) := hA.val 23 64 (by kernel_rfl) (by kernel_rfl)
      obtain ⟨q1, q2⟩ := rng_at (k := 2) (R_7.out.at_ hA.st) rfl
      have q3 : W2.cell? ⟨aB.block, aB.off + 4, none⟩ = some (.int .i64 30) := by simpa [Addr.add] using q1
      have q4 : W2.cell? ⟨aB.block, aB.off + 4 + 1, none⟩ = some (.int .i64 60) := q2
      clear q1 q2
      refine opStep none 0 rfl (wanted_yes (j := 21) (d := 62) (b := false) rfl (by kernel_rfl) eg62) (fun c hc => by cases hc) ?_
      go_simp
      exact hK _ _ rfl (Below.refl _ _) trivial
    · -- 25
      intro li a1 W2 hA K hK
      have eg62 : a1.tmps.getD 62 undef = .bool false := hA.val 21 62 (by kernel_rfl) (by kernel_rfl)
      refine opStep none 0 rfl (wanted_yes (j := 21) (d := 62) (b := false) rfl (by kernel_rfl) eg62) (fun c hc => by cases hc) ?_
      go_simp
      refine (between_any 30 60 W2).mono ?_
      rintro e W3 ⟨rfl, hb3⟩
      exact hK _ _ rfl hb3 trivial
    · -- 26
      intro li a1 W2 hA K hK
      have eg62 : a1.tmps.getD 62 undef = .bool false := hA.val 21 62 (by kernel_rfl) (by kernel_rfl)
      have e65 : a1.tmps.getD 65 undef = .agg #[.int .i64 30, .int .i64 60] := hA.val 24 65 (by kernel_rfl) (by kernel_rfl)
      have e66 : a1.tmps.getD 66 undef = .agg #[.int .i64 30, .int .i64 60] := hA.val 25 66 (by kernel_rfl) (by kernel_rfl)
      refine opStep none 0 rfl (wanted_yes (j := 21) (d := 62) (b := false) rfl (by kernel_rfl) eg62) (fun c hc => by cases hc) ?_
      go_simp
      exact hK _ _ (by first | rfl | simp) (Below.refl _ _) trivial
    · -- 27
      intro li a1 W2 hA K hK
      have e62 : a1.tmps.getD 62 undef = .bool false := hA.val 21 62 (by kernel_rfl) (by kernel_rfl)
      have e67 : a1.tmps.getD 67 undef = .bool false := hA.val 26 67 (by kernel_rfl) (by kernel_rfl)
      refine opStep none 0 rfl rfl (fun c hc => by cases hc) ?_
      go_simp
      exact hK _ _ rfl (Below.refl _ _) trivial
    · -- 28
      intro li a1 W2 hA K hK
      have e68 : a1.tmps.getD 68 undef = .bool false := hA.val 27 68 (by kernel_rfl) (by kernel_rfl)
      refine opStep none 0 rfl rfl (fun c hc => by cases hc) ?_
      go_simp
      exact hK _ _ rfl (Below.refl _ _) trivial
    · -- 29
      intro li a1 W2 hA K hK
      have eg69 : a1.tmps.getD 69 undef = .bool false := hA.val 28 69 (by kernel_rfl) (by kernel_rfl)
      have e1 := hA.par 1 (by kernel_rfl)
      refine opStep none 0 rfl (wanted_yes (j := 28) (d := 69) (b := false) rfl (by kernel_rfl) eg69) (fun c hc => by cases hc) ?_
      go_simp
      exact hK _ _ rfl (Below.refl _ _) trivial
    · -- 30
      intro li a1 W2 hA K hK
      have eg69 : a1.tmps.getD 69 undef = .bool false := hA.val 28 69 (by kernel_rfl) (by kernel_rfl)
      have e70 : a1.tmps.getD 70 undef = .slice (some aB) 4 cB := hA.val 29 70 (by kernel_rfl) (by kernel_rfl)
      refine opStep none 0 rfl (wanted_yes (j := 28) (d := 69) (b := false) rfl (by kernel_rfl) eg69) (fun c hc => by cases hc) ?_
      go_simp
      exact hK _ _ rfl (Below.refl _ _) trivial
    · -- 31
      intro li a1 W2 hA K hK
      have eg69 : a1.tmps.getD 69 undef = .bool false := hA.val 28 69 (by kernel_rfl) (by kernel_rfl)
      have e71 : a1.tmps.getD 71 undef = .pointer (some (aB.add 6)) := hA.val 30 71 (by kernel_rfl) (by kernel_rfl)
      obtain ⟨q1, q2⟩ := rng_at (k := 3) (R_7.out.at_ hA.st) rfl
      have q3 : W2.cell? ⟨aB.block, aB.off + 6, none⟩ = some (.int .i64 0) := by simpa [Addr.add] using q1
      have q4 : W2.cell? ⟨aB.block, aB.off + 6 + 1, none⟩ = some (.int .i64 30) := q2
      clear q1 q2
      refine opStep none 0 rfl (wanted_yes (j := 28) (d := 69) (b := false) rfl (by kernel_rfl) eg69) (fun c hc => by cases hc) ?_
      go_simp
      exact hK _ _ rfl (Below.refl _ _) trivial
    · -- 32
      intro li a1 W2 hA K hK
      have eg69 : a1.tmps.getD 69 undef = .bool false := hA.val 28 69 (by kernel_rfl) (by kernel_rfl)
      refine opStep none 0 rfl (wanted_yes (j := 28) (d := 69) (b := false) rfl (by kernel_rfl) eg69) (fun c hc => by cases hc) ?_
      go_simp
      refine (between_any 0 30 W2).mono ?_
      rintro e W3 ⟨rfl, hb3⟩
      exact hK _ _ rfl hb3 trivial
    · -- 33
      intro li a1 W2 hA K hK
      have eg69 : a1.tmps.getD 69 undef = .bool false := hA.val 28 69 (by kernel_rfl) (by kernel_rfl)
      have e72 : a1.tmps.getD 72 undef = .agg #[.int .i64 0, .int .i64 30] := hA.val 31 72 (by kernel_rfl) (by kernel_rfl)
      have e73 : a1.tmps.getD 73 undef = .agg #[.int .i64 0, .int .i64 30] := hA.val 32 73 (by kernel_rfl) (by kernel_rfl)
      refine opStep none 0 rfl (wanted_yes (j := 28) (d := 69) (b := false) rfl (by kernel_rfl) eg69) (fun c hc => by cases hc) ?_
      go_simp
      exact hK _ _ (by first | rfl | simp) (Below.refl _ _) trivial
    · -- 34
      intro li a1 W2 hA K hK
      have e69 : a1.tmps.getD 69 undef = .bool false := hA.val 28 69 (by kernel_rfl) (by kernel_rfl)
      have e74 : a1.tmps.getD 74 undef = .bool false := hA.val 33 74 (by kernel_rfl) (by kernel_rfl)
      refine opStep none 0 rfl rfl (fun c hc => by cases hc) ?_
      go_simp
      exact hK _ _ rfl (Below.refl _ _) trivial
    · -- 35
      intro li a1 W2 hA K hK
      have e75 : a1.tmps.getD 75 undef = .bool false := hA.val 34 75 (by kernel_rfl) (by kernel_rfl)
      refine opStep none 0 rfl rfl (fun c hc => by cases hc) ?_
      go_simp
      exact hK _ _ rfl (Below.refl _ _) trivial
    · -- 36
      intro li a1 W2 hA K hK
      have eg76 : a1.tmps.getD 76 undef = .bool false := hA.val 35 76 (by kernel_rfl) (by kernel_rfl)
      have e4 := hA.par 4 (by kernel_rfl)
      refine opStep none 0 rfl (wanted_yes (j := 35) (d := 76) (b := false) rfl (by kernel_rfl) eg76) (fun c hc => by cases hc) ?_
      go_simp
      exact hK _ _ rfl (Below.refl _ _) trivial
    · -- 37
      intro li a1 W2 hA K hK
      have eg76 : a1.tmps.getD 76 undef = .bool false := hA.val 35 76 (by kernel_rfl) (by kernel_rfl)
      have e77 : a1.tmps.getD 77 undef = .int .i64 0 := hA.val 36 77 (by kernel_rfl) (by kernel_rfl)
      refine opStep none 0 rfl (wanted_yes (j := 35) (d := 76) (b := false) rfl (by kernel_rfl) eg76) (fun c hc => by cases hc) ?_
      go_simp
      exact hK _ _ (by first | rfl | simp) (Below.refl _ _) trivial
    · -- 38
      intro li a1 W2 hA K hK
      have e76 : a1.tmps.getD 76 undef = .bool false := hA.val 35 76 (by kernel_rfl) (by kernel_rfl)
      have e78 : a1.tmps.getD 78 undef = .bool false := hA.val 37 78 (by kernel_rfl) (by kernel_rfl)
      refine opStep none 0 rfl rfl (fun c hc => by cases hc) ?_
      go_simp
      exact hK _ _ rfl (Below.refl _ _) trivial
    · -- 39
      intro li a1 W2 hA K hK
      have e79 : a1.tmps.getD 79 undef = .bool false := hA.val 38 79 (by kernel_rfl) (by kernel_rfl)
      refine opStep none 0 rfl rfl (fun c hc => by cases hc) ?_
      go_simp
      exact hK _ _ rfl (Below.refl _ _) trivial
    · -- 40
      intro li a1 W2 hA K hK
      have eg80 : a1.tmps.getD 80 undef = .bool false := hA.val 39 80 (by kernel_rfl) (by kernel_rfl)
      have e3 := hA.par 3 (by kernel_rfl)
      refine opStep none 0 rfl (wanted_yes (j := 39) (d := 80) (b := false) rfl (by kernel_rfl) eg80) (fun c hc => by cases hc) ?_
      go_simp
      exact hK _ _ rfl (Below.refl _ _) trivial
    · -- 41
      intro li a1 W2 hA K hK
      have eg80 : a1.tmps.getD 80 undef = .bool false := hA.val 39 80 (by kernel_rfl) (by kernel_rfl)
      refine opStep none 0 rfl (wanted_yes (j := 39) (d := 80) (b := false) rfl (by kernel_rfl) eg80) (fun c hc => by cases hc) ?_
      go_simp
      exact hK _ _ ⟨_, rfl, Blk.new _ _ _⟩ ((Below.refl _ _).alloc (Nat.le_refl _) _) trivial
    · -- 42
      intro li a1 W2 hA K hK
      have eg80 : a1.tmps.getD 80 undef = .bool false := hA.val 39 80 (by kernel_rfl) (by kernel_rfl)
      have e81 : a1.tmps.getD 81 undef = .slice yA.1 1 yA.2 := hA.val 40 81 (by kernel_rfl) (by kernel_rfl)
      obtain ⟨gl82, e82, h82⟩ := hA.val 41 82 (by kernel_rfl) (by kernel_rfl)
      refine opStep none 0 rfl (wanted_yes (j := 39) (d := 80) (b := false) rfl (by kernel_rfl) eg80) (fun c hc => by cases hc) ?_
      go_simp
      refine (ints_town (A_7.out.at_ hA.st) h82 rfl (by decide)).mono ?_
      rintro e W3 ⟨rfl, hb3⟩
      exact hK _ _ rfl hb3 trivial
    · -- 43
      intro li a1 W2 hA K hK
      have eg80 : a1.tmps.getD 80 undef = .bool false := hA.val 39 80 (by kernel_rfl) (by kernel_rfl)
      have e83 : a1.tmps.getD 83 undef = .bool true := hA.val 42 83 (by kernel_rfl) (by kernel_rfl)
      refine opStep none 0 rfl (wanted_yes (j := 39) (d := 80) (b := false) rfl (by kernel_rfl) eg80) (fun c hc => by cases hc) ?_
      go_simp
      exact hK _ _ rfl (Below.refl _ _) trivial
    · -- 44
      intro li a1 W2 hA K hK
      have e80 : a1.tmps.getD 80 undef = .bool false := hA.val 39 80 (by kernel_rfl) (by kernel_rfl)
      have e84 : a1.tmps.getD 84 undef = .bool false := hA.val 43 84 (by kernel_rfl) (by kernel_rfl)
      refine opStep none 0 rfl rfl (fun c hc => by cases hc) ?_
      go_simp
      exact hK _ _ rfl (Below.refl _ _) trivial
    · -- 45
      intro li a1 W2 hA K hK
      have e85 : a1.tmps.getD 85 undef = .bool false := hA.val 44 85 (by kernel_rfl) (by kernel_rfl)
      refine opStep none 0 rfl rfl (fun c hc => by cases hc) ?_
      go_simp
      exact hK _ _ rfl (Below.refl _ _) trivial
    · -- 46
      intro li a1 W2 hA K hK
      have eg86 : a1.tmps.getD 86 undef = .bool false := hA.val 45 86 (by kernel_rfl) (by kernel_rfl)
      have e7 := hA.par 7 (by kernel_rfl)
      refine opStep none 0 rfl (wanted_yes (j := 45) (d := 86) (b := false) rfl (by kernel_rfl) eg86) (fun c hc => by cases hc) ?_
      go_simp
      exact hK _ _ rfl (Below.refl _ _) trivial
    · -- 47
      intro li a1 W2 hA K hK
      have eg86 : a1.tmps.getD 86 undef = .bool false := hA.val 45 86 (by kernel_rfl) (by kernel_rfl)
      have e87 : a1.tmps.getD 87 undef = .int .i64 0 := hA.val 46 87 (by kernel_rfl) (by kernel_rfl)
      refine opStep none 0 rfl (wanted_yes (j := 45) (d := 86) (b := false) rfl (by kernel_rfl) eg86) (fun c hc => by cases hc) ?_
      go_simp
      exact hK _ _ (by first | rfl | simp) (Below.refl _ _) trivial
    · -- 48
      intro li a1 W2 hA K hK
      have e86 : a1.tmps.getD 86 undef = .bool false := hA.val 45 86 (by kernel_rfl) (by kernel_rfl)
      have e88 : a1.tmps.getD 88 undef = .bool false := hA.val 47 88 (by kernel_rfl) (by kernel_rfl)
      refine opStep none 0 rfl rfl (fun c hc => by cases hc) ?_
      go_simp
      exact hK _ _ rfl (Below.refl _ _) trivial
    · -- 49
      intro li a1 W2 hA K hK
      have e89 : a1.tmps.getD 89 undef = .bool false := hA.val 48 89 (by kernel_rfl) (by kernel_rfl)
      refine opStep none 0 rfl rfl (fun c hc => by cases hc) ?_
      go_simp
      exact hK _ _ rfl (Below.refl _ _) trivial
    · -- 50
      intro li a1 W2 hA K hK
      have eg90 : a1.tmps.getD 90 undef = .bool false := hA.val 49 90 (by kernel_rfl) (by kernel_rfl)
      have e5 := hA.par 5 (by kernel_rfl)
      refine opStep none 0 rfl (wanted_yes (j := 49) (d := 90) (b := false) rfl (by kernel_rfl) eg90) (fun c hc => by cases hc) ?_
      go_simp
      exact hK _ _ rfl (Below.refl _ _) trivial
    · -- 51
      intro li a1 W2 hA K hK
      have eg90 : a1.tmps.getD 90 undef = .bool false := hA.val 49 90 (by kernel_rfl) (by kernel_rfl)
      refine opStep none 0 rfl (wanted_yes (j := 49) (d := 90) (b := false) rfl (by kernel_rfl) eg90) (fun c hc => by cases hc) ?_
      go_simp
      exact hK _ _ ⟨_, rfl, Blk.new _ _ _⟩ ((Below.refl _ _).alloc (Nat.le_refl _) _) trivial
    · -- 52
      intro li a1 W2 hA K hK
      have eg90 : a1.tmps.getD 90 undef = .bool false := hA.val 49 90 (by kernel_rfl) (by kernel_rfl)
      have e91 : a1.tmps.getD 91 undef = .slice yB.1 4 yB.2 := hA.val 50 91 (by kernel_rfl) (by kernel_rfl)
      obtain ⟨gl92, e92, h92⟩ := hA.val 51 92 (by kernel_rfl) (by kernel_rfl)
      refine opStep none 0 rfl (wanted_yes (j := 49) (d := 90) (b := false) rfl (by kernel_rfl) eg90) (fun c hc => by cases hc) ?_
      go_simp
      refine (ints_town (B_0.out.at_ hA.st) h92 rfl (by decide)).mono ?_
      rintro e W3 ⟨rfl, hb3⟩
      exact hK _ _ rfl hb3 trivial
    · -- 53
      intro li a1 W2 hA K hK
      have eg90 : a1.tmps.getD 90 undef = .bool false := hA.val 49 90 (by kernel_rfl) (by kernel_rfl)
      have e93 : a1.tmps.getD 93 undef = .bool true := hA.val 52 93 (by kernel_rfl) (by kernel_rfl)
      refine opStep none 0 rfl (wanted_yes (j := 49) (d := 90) (b := false) rfl (by kernel_rfl) eg90) (fun c hc => by cases hc) ?_
      go_simp
      exact hK _ _ rfl (Below.refl _ _) trivial
    · -- 54
      intro li a1 W2 hA K hK
      have e90 : a1.tmps.getD 90 undef = .bool false := hA.val 49 90 (by kernel_rfl) (by kernel_rfl)
      have e94 : a1.tmps.getD 94 undef = .bool false := hA.val 53 94 (by kernel_rfl) (by kernel_rfl)
      refine opStep none 0 rfl rfl (fun c hc => by cases hc) ?_
      go_simp
      exact hK _ _ rfl (Below.refl _ _) trivial
    · -- 55
      intro li a1 W2 hA K hK
      have e95 : a1.tmps.getD 95 undef = .bool false := hA.val 54 95 (by kernel_rfl) (by kernel_rfl)
      refine opStep none 0 rfl rfl (fun c hc => by cases hc) ?_
      go_simp
      exact hK _ _ rfl (Below.refl _ _) trivial
    · -- 56
      intro li a1 W2 hA K hK
      have eg96 : a1.tmps.getD 96 undef = .bool false := hA.val 55 96 (by kernel_rfl) (by kernel_rfl)
      have e6 := hA.par 6 (by kernel_rfl)
      refine opStep none 0 rfl (wanted_yes (j := 55) (d := 96) (b := false) rfl (by kernel_rfl) eg96) (fun c hc => by cases hc) ?_
      go_simp
      exact hK _ _ rfl (Below.refl _ _) trivial
    · -- 57
      intro li a1 W2 hA K hK
      have eg96 : a1.tmps.getD 96 undef = .bool false := hA.val 55 96 (by kernel_rfl) (by kernel_rfl)
      have e97 : a1.tmps.getD 97 undef = .int .i64 1 := hA.val 56 97 (by kernel_rfl) (by kernel_rfl)
      refine opStep none 0 rfl (wanted_yes (j := 55) (d := 96) (b := false) rfl (by kernel_rfl) eg96) (fun c hc => by cases hc) ?_
      go_simp
      exact hK _ _ (by first | rfl | simp) (Below.refl _ _) trivial
    · -- 58
      intro li a1 W2 hA K hK
      have e96 : a1.tmps.getD 96 undef = .bool false := hA.val 55 96 (by kernel_rfl) (by kernel_rfl)
      have e98 : a1.tmps.getD 98 undef = .bool false := hA.val 57 98 (by kernel_rfl) (by kernel_rfl)
      refine opStep none 0 rfl rfl (fun c hc => by cases hc) ?_
      go_simp
      exact hK _ _ rfl (Below.refl _ _) trivial
    · -- 59
      intro li a1 W2 hA K hK
      have e99 : a1.tmps.getD 99 undef = .bool false := hA.val 58 99 (by kernel_rfl) (by kernel_rfl)
      refine opStep none 0 rfl rfl (fun c hc => by cases hc) ?_
      go_simp
      exact hK _ _ rfl (Below.refl _ _) trivial
    · -- 60
      intro li a1 W2 hA K hK
      have eg100 : a1.tmps.getD 100 undef = .bool false := hA.val 59 100 (by kernel_rfl) (by kernel_rfl)
      refine opStep none 0 rfl (wanted_yes (j := 59) (d := 100) (b := false) rfl (by kernel_rfl) eg100) (fun c hc => by cases hc) ?_
      go_simp
      refine (town_y W2).mono ?_
      rintro e W3 ⟨y, rfl, _, hy, hb3⟩
      exact hK _ _ ⟨y, rfl, hy⟩ hb3 trivial
    · -- 61
      intro li a1 W2 hA K hK
      have eg100 : a1.tmps.getD 100 undef = .bool false := hA.val 59 100 (by kernel_rfl) (by kernel_rfl)
      refine opStep none 0 rfl (wanted_yes (j := 59) (d := 100) (b := false) rfl (by kernel_rfl) eg100) (fun c hc => by cases hc) ?_
      go_simp
      exact hK _ _ ⟨_, rfl, Blk.new _ _ _⟩ ((Below.refl _ _).alloc (Nat.le_refl _) _) trivial
    · -- 62
      intro li a1 W2 hA K hK
      have eg100 : a1.tmps.getD 100 undef = .bool false := hA.val 59 100 (by kernel_rfl) (by kernel_rfl)
      obtain ⟨y101, e101, h101⟩ := hA.val 60 101 (by kernel_rfl) (by kernel_rfl)
      obtain ⟨gl102, e102, h102⟩ := hA.val 61 102 (by kernel_rfl) (by kernel_rfl)
      refine opStep none 0 rfl (wanted_yes (j := 59) (d := 100) (b := false) rfl (by kernel_rfl) eg100) (fun c hc => by cases hc) ?_
      go_simp
      refine (truth_town h101 h102 rfl nam_tr1).mono ?_
      rintro e W3 ⟨rfl, hb3⟩
      exact hK _ _ rfl hb3 trivial
    · -- 63
      intro li a1 W2 hA K hK
      have eg100 : a1.tmps.getD 100 undef = .bool false := hA.val 59 100 (by kernel_rfl) (by kernel_rfl)
      have e103 : a1.tmps.getD 103 undef = .bool true := hA.val 62 103 (by kernel_rfl) (by kernel_rfl)
      refine opStep none 0 rfl (wanted_yes (j := 59) (d := 100) (b := false) rfl (by kernel_rfl) eg100) (fun c hc => by cases hc) ?_
      go_simp
      exact hK _ _ rfl (Below.refl _ _) trivial
    · -- 64
      intro li a1 W2 hA K hK
      have e100 : a1.tmps.getD 100 undef = .bool false := hA.val 59 100 (by kernel_rfl) (by kernel_rfl)
      have e104 : a1.tmps.getD 104 undef = .bool false := hA.val 63 104 (by kernel_rfl) (by kernel_rfl)
      refine opStep none 0 rfl rfl (fun c hc => by cases hc) ?_
      go_simp
      exact hK _ _ rfl (Below.refl _ _) trivial
    · -- 65
      intro li a1 W2 hA K hK
      have e105 : a1.tmps.getD 105 undef = .bool false := hA.val 64 105 (by kernel_rfl) (by kernel_rfl)
      refine opStep none 0 rfl rfl (fun c hc => by cases hc) ?_
      go_simp
      exact hK _ _ rfl (Below.refl _ _) trivial
    · -- 66
      intro li a1 W2 hA K hK
      have eg106 : a1.tmps.getD 106 undef = .bool false := hA.val 65 106 (by kernel_rfl) (by kernel_rfl)
      refine opStep none 0 rfl (wanted_yes (j := 65) (d := 106) (b := false) rfl (by kernel_rfl) eg106) (fun c hc => by cases hc) ?_
      go_simp
      refine (town_y W2).mono ?_
      rintro e W3 ⟨y, rfl, _, hy, hb3⟩
      exact hK _ _ ⟨y, rfl, hy⟩ hb3 trivial
    · -- 67
      intro li a1 W2 hA K hK
      have eg106 : a1.tmps.getD 106 undef = .bool false := hA.val 65 106 (by kernel_rfl) (by kernel_rfl)
      refine opStep none 0 rfl (wanted_yes (j := 65) (d := 106) (b := false) rfl (by kernel_rfl) eg106) (fun c hc => by cases hc) ?_
      go_simp
      exact hK _ _ ⟨_, rfl, Blk.new _ _ _⟩ ((Below.refl _ _).alloc (Nat.le_refl _) _) trivial
    · -- 68
      intro li a1 W2 hA K hK
      have eg106 : a1.tmps.getD 106 undef = .bool false := hA.val 65 106 (by kernel_rfl) (by kernel_rfl)
      obtain ⟨y107, e107, h107⟩ := hA.val 66 107 (by kernel_rfl) (by kernel_rfl)
      obtain ⟨gl108, e108, h108⟩ := hA.val 67 108 (by kernel_rfl) (by kernel_rfl)
      refine opStep none 0 rfl (wanted_yes (j := 65) (d := 106) (b := false) rfl (by kernel_rfl) eg106) (fun c hc => by cases hc) ?_
      go_simp
      refine (truth_town h107 h108 rfl nam_tr2).mono ?_
      rintro e W3 ⟨rfl, hb3⟩
      exact hK _ _ rfl hb3 trivial
    · -- 69
      intro li a1 W2 hA K hK
      have e106 : a1.tmps.getD 106 undef = .bool false := hA.val 65 106 (by kernel_rfl) (by kernel_rfl)
      have e109 : a1.tmps.getD 109 undef = .bool false := hA.val 68 109 (by kernel_rfl) (by kernel_rfl)
      refine opStep none 0 rfl rfl (fun c hc => by cases hc) ?_
      go_simp
      exact hK _ _ rfl (Below.refl _ _) trivial
    · -- 70
      intro li a1 W2 hA K hK
      have e110 : a1.tmps.getD 110 undef = .bool false := hA.val 69 110 (by kernel_rfl) (by kernel_rfl)
      refine opStep none 0 rfl rfl (fun c hc => by cases hc) ?_
      go_simp
      exact hK _ _ rfl (Below.refl _ _) trivial
    · -- 71
      intro li a1 W2 hA K hK
      have eg111 : a1.tmps.getD 111 undef = .bool false := hA.val 70 111 (by kernel_rfl) (by kernel_rfl)
      refine opStep none 0 rfl (wanted_yes (j := 70) (d := 111) (b := false) rfl (by kernel_rfl) eg111) (fun c hc => by cases hc) ?_
      go_simp
      refine (town_y W2).mono ?_
      rintro e W3 ⟨y, rfl, _, hy, hb3⟩
      exact hK _ _ ⟨y, rfl, hy⟩ hb3 trivial
    · -- 72
      intro li a1 W2 hA K hK
      have eg111 : a1.tmps.getD 111 undef = .bool false := hA.val 70 111 (by kernel_rfl) (by kernel_rfl)
      refine opStep none 0 rfl (wanted_yes (j := 70) (d := 111) (b := false) rfl (by kernel_rfl) eg111) (fun c hc => by cases hc) ?_
      go_simp
      exact hK _ _ ⟨_, rfl, Blk.new _ _ _⟩ ((Below.refl _ _).alloc (Nat.le_refl _) _) trivial
    · -- 73
      intro li a1 W2 hA K hK
      have eg111 : a1.tmps.getD 111 undef = .bool false := hA.val 70 111 (by kernel_rfl) (by kernel_rfl)
      obtain ⟨y112, e112, h112⟩ := hA.val 71 112 (by kernel_rfl) (by kernel_rfl)
      obtain ⟨gl113, e113, h113⟩ := hA.val 72 113 (by kernel_rfl) (by kernel_rfl)
      refine opStep none 0 rfl (wanted_yes (j := 70) (d := 111) (b := false) rfl (by kernel_rfl) eg111) (fun c hc => by cases hc) ?_
      go_simp
      refine (truth_town h112 h113 rfl nam_tr3).mono ?_
      rintro e W3 ⟨rfl, hb3⟩
      exact hK _ _ rfl hb3 trivial
    · -- 74
      intro li a1 W2 hA K hK
      have e111 : a1.tmps.getD 111 undef = .bool false := hA.val 70 111 (by kernel_rfl) (by kernel_rfl)
      have e114 : a1.tmps.getD 114 undef = .bool false := hA.val 73 114 (by kernel_rfl) (by kernel_rfl)
      refine opStep none 0 rfl rfl (fun c hc => by cases hc) ?_
      go_simp
      exact hK _ _ rfl (Below.refl _ _) trivial
    · -- 75
      intro li a1 W2 hA K hK
      have e115 : a1.tmps.getD 115 undef = .bool false := hA.val 74 115 (by kernel_rfl) (by kernel_rfl)
      refine opStep none 0 rfl rfl (fun c hc => by cases hc) ?_
      go_simp
      exact hK _ _ rfl (Below.refl _ _) trivial
    · -- 76
      intro li a1 W2 hA K hK
      have eg116 : a1.tmps.getD 116 undef = .bool false := hA.val 75 116 (by kernel_rfl) (by kernel_rfl)
      refine opStep none 0 rfl (wanted_yes (j := 75) (d := 116) (b := false) rfl (by kernel_rfl) eg116) (fun c hc => by cases hc) ?_
      go_simp
      refine (town_y W2).mono ?_
      rintro e W3 ⟨y, rfl, _, hy, hb3⟩
      exact hK _ _ ⟨y, rfl, hy⟩ hb3 trivial
    · -- 77
      intro li a1 W2 hA K hK
      have eg116 : a1.tmps.getD 116 undef = .bool false := hA.val 75 116 (by kernel_rfl) (by kernel_rfl)
      refine opStep none 0 rfl (wanted_yes (j := 75) (d := 116) (b := false) rfl (by kernel_rfl) eg116) (fun c hc => by cases hc) ?_
      go_simp
      exact hK _ _ ⟨_, rfl, Blk.new _ _ _⟩ ((Below.refl _ _).alloc (Nat.le_refl _) _) trivial
    · -- 78
      intro li a1 W2 hA K hK
      have eg116 : a1.tmps.getD 116 undef = .bool false := hA.val 75 116 (by kernel_rfl) (by kernel_rfl)
      refine opStep none 0 rfl (wanted_yes (j := 75) (d := 116) (b := false) rfl (by kernel_rfl) eg116) (fun c hc => by cases hc) ?_
      go_simp
      refine (between_any 40 120 W2).mono ?_
      rintro e W3 ⟨rfl, hb3⟩
      exact hK _ _ rfl hb3 trivial
    · -- 79
      intro li a1 W2 hA K hK
      have eg116 : a1.tmps.getD 116 undef = .bool false := hA.val 75 116 (by kernel_rfl) (by kernel_rfl)
      obtain ⟨y117, e117, h117⟩ := hA.val 76 117 (by kernel_rfl) (by kernel_rfl)
      obtain ⟨gl118, e118, h118⟩ := hA.val 77 118 (by kernel_rfl) (by kernel_rfl)
      have e119 : a1.tmps.getD 119 undef = .agg #[.int .i64 40, .int .i64 120] := hA.val 78 119 (by kernel_rfl) (by kernel_rfl)
      refine opStep none 0 rfl (wanted_yes (j := 75) (d := 116) (b := false) rfl (by kernel_rfl) eg116) (fun c hc => by cases hc) ?_
      go_simp
      refine (borders_town h117 h118 rfl nam_ask1 nam_is1).mono ?_
      rintro e W3 ⟨rfl, hb3⟩
      exact hK _ _ rfl hb3 trivial
    · -- 80
      intro li a1 W2 hA K hK
      have eg116 : a1.tmps.getD 116 undef = .bool false := hA.val 75 116 (by kernel_rfl) (by kernel_rfl)
      have e120 : a1.tmps.getD 120 undef = .bool true := hA.val 79 120 (by kernel_rfl) (by kernel_rfl)
      refine opStep none 0 rfl (wanted_yes (j := 75) (d := 116) (b := false) rfl (by kernel_rfl) eg116) (fun c hc => by cases hc) ?_
      go_simp
      exact hK _ _ rfl (Below.refl _ _) trivial
    · -- 81
      intro li a1 W2 hA K hK
      have e116 : a1.tmps.getD 116 undef = .bool false := hA.val 75 116 (by kernel_rfl) (by kernel_rfl)
      have e121 : a1.tmps.getD 121 undef = .bool false := hA.val 80 121 (by kernel_rfl) (by kernel_rfl)
      refine opStep none 0 rfl rfl (fun c hc => by cases hc) ?_
      go_simp
      exact hK _ _ rfl (Below.refl _ _) trivial
    · -- 82
      intro li a1 W2 hA K hK
      have e122 : a1.tmps.getD 122 undef = .bool false := hA.val 81 122 (by kernel_rfl) (by kernel_rfl)
      refine opStep none 0 rfl rfl (fun c hc => by cases hc) ?_
      go_simp
      exact hK _ _ rfl (Below.refl _ _) trivial
    · -- 83
      intro li a1 W2 hA K hK
      have eg123 : a1.tmps.getD 123 undef = .bool false := hA.val 82 123 (by kernel_rfl) (by kernel_rfl)
      refine opStep none 0 rfl (wanted_yes (j := 82) (d := 123) (b := false) rfl (by kernel_rfl) eg123) (fun c hc => by cases hc) ?_
      go_simp
      refine (town_y W2).mono ?_
      rintro e W3 ⟨y, rfl, _, hy, hb3⟩
      exact hK _ _ ⟨y, rfl, hy⟩ hb3 trivial
    · -- 84
      intro li a1 W2 hA K hK
      have eg123 : a1.tmps.getD 123 undef = .bool false := hA.val 82 123 (by kernel_rfl) (by kernel_rfl)
      refine opStep none 0 rfl (wanted_yes (j := 82) (d := 123) (b := false) rfl (by kernel_rfl) eg123) (fun c hc => by cases hc) ?_
      go_simp
      exact hK _ _ ⟨_, rfl, Blk.new _ _ _⟩ ((Below.refl _ _).alloc (Nat.le_refl _) _) trivial
    · -- 85
      intro li a1 W2 hA K hK
      have eg123 : a1.tmps.getD 123 undef = .bool false := hA.val 82 123 (by kernel_rfl) (by kernel_rfl)
      refine opStep none 0 rfl (wanted_yes (j := 82) (d := 123) (b := false) rfl (by kernel_rfl) eg123) (fun c hc => by cases hc) ?_
      go_simp
      refine (between_any 40 120 W2).mono ?_
      rintro e W3 ⟨rfl, hb3⟩
      exact hK _ _ rfl hb3 trivial
    · -- 86
      intro li a1 W2 hA K hK
      have eg123 : a1.tmps.getD 123 undef = .bool false := hA.val 82 123 (by kernel_rfl) (by kernel_rfl)
      obtain ⟨y124, e124, h124⟩ := hA.val 83 124 (by kernel_rfl) (by kernel_rfl)
      obtain ⟨gl125, e125, h125⟩ := hA.val 84 125 (by kernel_rfl) (by kernel_rfl)
      have e126 : a1.tmps.getD 126 undef = .agg #[.int .i64 40, .int .i64 120] := hA.val 85 126 (by kernel_rfl) (by kernel_rfl)
      refine opStep none 0 rfl (wanted_yes (j := 82) (d := 123) (b := false) rfl (by kernel_rfl) eg123) (fun c hc => by cases hc) ?_
      go_simp
      refine (borders_town h124 h125 rfl nam_ask1 nam_is2).mono ?_
      rintro e W3 ⟨rfl, hb3⟩
      exact hK _ _ rfl hb3 trivial
    · -- 87
      intro li a1 W2 hA K hK
      have e123 : a1.tmps.getD 123 undef = .bool false := hA.val 82 123 (by kernel_rfl) (by kernel_rfl)
      have e127 : a1.tmps.getD 127 undef = .bool false := hA.val 86 127 (by kernel_rfl) (by kernel_rfl)
      refine opStep none 0 rfl rfl (fun c hc => by cases hc) ?_
      go_simp
      exact hK _ _ rfl (Below.refl _ _) trivial
    · -- 88
      intro li a1 W2 hA K hK
      have e128 : a1.tmps.getD 128 undef = .bool false := hA.val 87 128 (by kernel_rfl) (by kernel_rfl)
      refine opStep none 0 rfl rfl (fun c hc => by cases hc) ?_
      go_simp
      exact hK _ _ rfl (Below.refl _ _) trivial
    · -- 89
      intro li a1 W2 hA K hK
      have eg129 : a1.tmps.getD 129 undef = .bool false := hA.val 88 129 (by kernel_rfl) (by kernel_rfl)
      refine opStep none 0 rfl (wanted_yes (j := 88) (d := 129) (b := false) rfl (by kernel_rfl) eg129) (fun c hc => by cases hc) ?_
      go_simp
      refine (town_y W2).mono ?_
      rintro e W3 ⟨y, rfl, _, hy, hb3⟩
      exact hK _ _ ⟨y, rfl, hy⟩ hb3 trivial
    · -- 90
      intro li a1 W2 hA K hK
      have eg129 : a1.tmps.getD 129 undef = .bool false := hA.val 88 129 (by kernel_rfl) (by kernel_rfl)
      refine opStep none 0 rfl (wanted_yes (j := 88) (d := 129) (b := false) rfl (by kernel_rfl) eg129) (fun c hc => by cases hc) ?_
      go_simp
      exact hK _ _ ⟨_, rfl, Blk.new _ _ _⟩ ((Below.refl _ _).alloc (Nat.le_refl _) _) trivial
    · -- 91
      intro li a1 W2 hA K hK
      have eg129 : a1.tmps.getD 129 undef = .bool false := hA.val 88 129 (by kernel_rfl) (by kernel_rfl)
      refine opStep none 0 rfl (wanted_yes (j := 88) (d := 129) (b := false) rfl (by kernel_rfl) eg129) (fun c hc => by cases hc) ?_
      go_simp
      refine (between_any 40 109 W2).mono ?_
      rintro e W3 ⟨rfl, hb3⟩
      exact hK _ _ rfl hb3 trivial
    · -- 92
      intro li a1 W2 hA K hK
      have eg129 : a1.tmps.getD 129 undef = .bool false := hA.val 88 129 (by kernel_rfl) (by kernel_rfl)
      obtain ⟨y130, e130, h130⟩ := hA.val 89 130 (by kernel_rfl) (by kernel_rfl)
      obtain ⟨gl131, e131, h131⟩ := hA.val 90 131 (by kernel_rfl) (by kernel_rfl)
      have e132 : a1.tmps.getD 132 undef = .agg #[.int .i64 40, .int .i64 109] := hA.val 91 132 (by kernel_rfl) (by kernel_rfl)
      refine opStep none 0 rfl (wanted_yes (j := 88) (d := 129) (b := false) rfl (by kernel_rfl) eg129) (fun c hc => by cases hc) ?_
      go_simp
      refine (borders_town h130 h131 rfl nam_ask5 nam_is3).mono ?_
      rintro e W3 ⟨rfl, hb3⟩
      exact hK _ _ rfl hb3 trivial
    · -- 93
      intro li a1 W2 hA K hK
      have e129 : a1.tmps.getD 129 undef = .bool false := hA.val 88 129 (by kernel_rfl) (by kernel_rfl)
      have e133 : a1.tmps.getD 133 undef = .bool false := hA.val 92 133 (by kernel_rfl) (by kernel_rfl)
      refine opStep none 0 rfl rfl (fun c hc => by cases hc) ?_
      go_simp
      exact hK _ _ rfl (Below.refl _ _) trivial
    · -- 94
      intro li a1 W2 hA K hK
      have e134 : a1.tmps.getD 134 undef = .bool false := hA.val 93 134 (by kernel_rfl) (by kernel_rfl)
      refine opStep none 0 rfl rfl (fun c hc => by cases hc) ?_
      go_simp
      exact hK _ _ rfl (Below.refl _ _) trivial
    · -- 95
      intro li a1 W2 hA K hK
      have eg135 : a1.tmps.getD 135 undef = .bool false := hA.val 94 135 (by kernel_rfl) (by kernel_rfl)
      refine opStep none 0 rfl (wanted_yes (j := 94) (d := 135) (b := false) rfl (by kernel_rfl) eg135) (fun c hc => by cases hc) ?_
      go_simp
      refine (town_y W2).mono ?_
      rintro e W3 ⟨y, rfl, _, hy, hb3⟩
      exact hK _ _ ⟨y, rfl, hy⟩ hb3 trivial
    · -- 96
      intro li a1 W2 hA K hK
      have eg135 : a1.tmps.getD 135 undef = .bool false := hA.val 94 135 (by kernel_rfl) (by kernel_rfl)
      refine opStep none 0 rfl (wanted_yes (j := 94) (d := 135) (b := false) rfl (by kernel_rfl) eg135) (fun c hc => by cases hc) ?_
      go_simp
      exact hK _ _ ⟨_, rfl, Blk.new _ _ _⟩ ((Below.refl _ _).alloc (Nat.le_refl _) _) trivial
    · -- 97
      intro li a1 W2 hA K hK
      have eg135 : a1.tmps.getD 135 undef = .bool false := hA.val 94 135 (by kernel_rfl) (by kernel_rfl)
      refine opStep none 0 rfl (wanted_yes (j := 94) (d := 135) (b := false) rfl (by kernel_rfl) eg135) (fun c hc => by cases hc) ?_
      go_simp
      refine (between_any 0 200 W2).mono ?_
      rintro e W3 ⟨rfl, hb3⟩
      exact hK _ _ rfl hb3 trivial
    · -- 98
      intro li a1 W2 hA K hK
      have eg135 : a1.tmps.getD 135 undef = .bool false := hA.val 94 135 (by kernel_rfl) (by kernel_rfl)
      obtain ⟨y136, e136, h136⟩ := hA.val 95 136 (by kernel_rfl) (by kernel_rfl)
      obtain ⟨gl137, e137, h137⟩ := hA.val 96 137 (by kernel_rfl) (by kernel_rfl)
      have e138 : a1.tmps.getD 138 undef = .agg #[.int .i64 0, .int .i64 200] := hA.val 97 138 (by kernel_rfl) (by kernel_rfl)
      refine opStep none 0 rfl (wanted_yes (j := 94) (d := 135) (b := false) rfl (by kernel_rfl) eg135) (fun c hc => by cases hc) ?_
      go_simp
      refine (borders_town h136 h137 rfl nam_ask6 nam_is4).mono ?_
      rintro e W3 ⟨rfl, hb3⟩
      exact hK _ _ rfl hb3 trivial
  intro li a1 W2 hD
  have e135 : a1.tmps.getD 135 undef = .bool false := hD.val 94 135 (by kernel_rfl) (by kernel_rfl)
  have e139 : a1.tmps.getD 139 undef = .bool false := hD.val 98 139 (by kernel_rfl) (by kernel_rfl)
  have hkp2 := hD.keeps (ds := [41, 42, 43, 44, 45, 46, 47, 48, 49, 50, 51, 52, 53, 54, 55, 56, 57, 58, 59, 60, 61, 62, 63, 64, 65, 66, 67, 68, 69, 70, 71, 72, 73, 74, 75, 76, 77, 78, 79, 80, 81, 82, 83, 84, 85, 86, 87, 88, 89, 90, 91, 92, 93, 94, 95, 96, 97, 98, 99, 100, 101, 102, 103, 104, 105, 106, 107, 108, 109, 110, 111, 112, 113, 114, 115, 116, 117, 118, 119, 120, 121, 122, 123, 124, 125, 126, 127, 128, 129, 130, 131, 132, 133, 134, 135, 136, 137, 138, 139, 140]) (by kernel_rfl)
  have hds := hD.size
  have hsz9 : a1.tmps.size = 276 := hD.size
  have hdd := hD.defers
  have hst := hD.st
  refine tail_val (i := 99) (v := .bool false) (W' := W2) none 0 rfl rfl rfl (fun c hc => by cases hc) (by go_simp) (by rw [hsz9]; decide) ?_
  intro a3 s3 d3 f3 o3
  have hkp3 := keeps_then hkp2 o3 (by decide)
  have e := act_mix [41, 42, 43, 44, 45, 46, 47, 48, 49, 50, 51, 52, 53, 54, 55, 56, 57, 58, 59, 60, 61, 62, 63, 64, 65, 66, 67, 68, 69, 70, 71, 72, 73, 74, 75, 76, 77, 78, 79, 80, 81, 82, 83, 84, 85, 86, 87, 88, 89, 90, 91, 92, 93, 94, 95, 96, 97, 98, 99, 100, 101, 102, 103, 104, 105, 106, 107, 108, 109, 110, 111, 112, 113, 114, 115, 116, 117, 118, 119, 120, 121, 122, 123, 124, 125, 126, 127, 128, 129, 130, 131, 132, 133, 134, 135, 136, 137, 138, 139, 140] (s3.trans (hds)) (d3.trans (hdd)) (fun i _ hc => hkp3 i hc)
  have hgg0 : (fun i => a3.tmps.getD i undef) 140 = .bool false := f3
  generalize (fun i => a3.tmps.getD i undef) = g' at e hgg0
  refine wpListIn_nil ?_
  rw [e]
  clear e hD hkp2 hkp3 hds hdd hsz9 s3 d3 f3 o3 e135 e139
  simp only [mix, List.contains_cons, List.contains_nil, Nat.reduceAdd, Nat.reduceBEq, Bool.or_false, Bool.or_true, cond_true, cond_false, hgg0]
  clear hgg0
  have hb := hst
  clear hst
  have HB8 := hid (HB7.out.trans (hb.mono HB7.out.size))
  clear hb
  generalize W2 = w8 at *
  have K9 := hid (town_y w8)
  go_wp2_with fail
  refine K9.out.mono ?_
  rintro e w9 ⟨yd, rfl, hsyd, htyd, hb⟩
  have HB9 := hid (HB8.out.trans (hb.mono HB8.out.size))
  have HTyd := hid htyd
  have HSyd := hid hsyd
  clear htyd hsyd
  clear hb K9
  have Tyd_0 := hid (HTyd.out)
  have K10 := hid (between_any 100 100 w9)
  go_wp2_with fail
  refine K10.out.mono ?_
  rintro e w10 ⟨rfl, hb⟩
  have HB10 := hid (HB9.out.trans (hb.mono HB9.out.size))
  have Tyd_10 := hid (Tyd_0.out.keep hb)
  clear hb K10
  have K11 := hid (best_town2 Tyd_10.out)
  go_wp2_with fail
  refine K11.out.mono ?_
  rintro e w11 ⟨rfl, hb⟩
  have HB11 := hid (HB10.out.trans (hb.mono HB10.out.size))
  have Tyd_11 := hid (Tyd_10.out.keep hb)
  clear hb K11
  have K12 := hid (town_y w11)
  go_wp2_with fail
  refine K12.out.mono ?_
  rintro e w12 ⟨ye, rfl, hsye, htye, hb⟩
  have HB12 := hid (HB11.out.trans (hb.mono HB11.out.size))
  have HTye := hid htye
  have HSye := hid hsye
  clear htye hsye
  clear hb K12
  have Tye_0 := hid (HTye.out)
  have K13 := hid (between_any 5 4 w12)
  go_wp2_with fail
  refine K13.out.mono ?_
  rintro e w13 ⟨rfl, hb⟩
  have HB13 := hid (HB12.out.trans (hb.mono HB12.out.size))
  have Tye_13 := hid (Tye_0.out.keep hb)
  clear hb K13
  have K14 := hid (best_town3 Tye_13.out nam_ask3)
  go_wp2_with fail
  refine K14.out.mono ?_
  rintro e w14 ⟨rfl, hb⟩
  have HB14 := hid (HB13.out.trans (hb.mono HB13.out.size))
  have Tye_14 := hid (Tye_13.out.keep hb)
  clear hb K14
  have K15 := hid (town_y w14)
  go_wp2_with fail
  refine K15.out.mono ?_
  rintro e w15 ⟨yf, rfl, hsyf, htyf, hb⟩
  have HB15 := hid (HB14.out.trans (hb.mono HB14.out.size))
  have HTyf := hid htyf
  have HSyf := hid hsyf
  clear htyf hsyf
  clear hb K15
  have Tyf_0 := hid (HTyf.out)
  have K16 := hid (between_any 0 40001 w15)
  go_wp2_with fail
  refine K16.out.mono ?_
  rintro e w16 ⟨rfl, hb⟩
  have HB16 := hid (HB15.out.trans (hb.mono HB15.out.size))
  have Tyf_16 := hid (Tyf_0.out.keep hb)
  clear hb K16
  have K17 := hid (best_town3 Tyf_16.out nam_ask4)
  go_wp2_with fail
  refine K17.out.mono ?_
  rintro e w17 ⟨rfl, hb⟩
  have HB17 := hid (HB16.out.trans (hb.mono HB16.out.size))
  have Tyf_17 := hid (Tyf_16.out.keep hb)
  clear hb K17
  have hbz := HB17.out.size
  have K18 := hid (town_any w17)
  go_wp2_with fail
  refine K18.out.mono ?_
  rintro e w18 ⟨o1, s1, j1, rfl, ha, hb9, hc9, ht, hb⟩
  have HB18 := hid (HB17.out.trans (hb.mono HB17.out.size))
  have HT1 := hid ht
  have HO1 := hid (And.intro ha (And.intro hb9 (And.intro hc9 (And.intro ht.1.lt (And.intro ht.2.1.lt ht.2.2.lt)))))
  have HN1 := hid (town_ne ht)
  clear ha hb9 hc9 ht
  clear hb K18
  have T1_0 := hid (HT1.out)
  have K19 := hid (town_any w18)
  go_wp2_with fail
  refine K19.out.mono ?_
  rintro e w19 ⟨o2, s2, j2, rfl, ha, hb9, hc9, ht, hb⟩
  have HB19 := hid (HB18.out.trans (hb.mono HB18.out.size))
  have T1_19 := hid (T1_0.out.keep hb)
  have HT2 := hid ht
  have HO2 := hid (And.intro ha (And.intro hb9 (And.intro hc9 (And.intro ht.1.lt (And.intro ht.2.1.lt ht.2.2.lt)))))
  have HN2 := hid (town_ne ht)
  clear ha hb9 hc9 ht
  clear hb K19
  have T2_0 := hid (HT2.out)
  have K20 := hid (town_any w19)
  go_wp2_with fail
  refine K20.out.mono ?_
  rintro e w20 ⟨o3, s3, j3, rfl, ha, hb9, hc9, ht, hb⟩
  have HB20 := hid (HB19.out.trans (hb.mono HB19.out.size))
  have T2_20 := hid (T2_0.out.keep hb)
  have T1_20 := hid (T1_19.out.keep hb)
  have HT3 := hid ht
  have HO3 := hid (And.intro ha (And.intro hb9 (And.intro hc9 (And.intro ht.1.lt (And.intro ht.2.1.lt ht.2.2.lt)))))
  have HN3 := hid (town_ne ht)
  clear ha hb9 hc9 ht
  clear hb K20
  have T3_0 := hid (HT3.out)
  have K21 := hid (town_any w20)
  go_wp2_with fail
  refine K21.out.mono ?_
  rintro e w21 ⟨o4, s4, j4, rfl, ha, hb9, hc9, ht, hb⟩
  have HB21 := hid (HB20.out.trans (hb.mono HB20.out.size))
  have T3_21 := hid (T3_0.out.keep hb)
  have T2_21 := hid (T2_20.out.keep hb)
  have T1_21 := hid (T1_20.out.keep hb)
  have HT4 := hid ht
  have HO4 := hid (And.intro ha (And.intro hb9 (And.intro hc9 (And.intro ht.1.lt (And.intro ht.2.1.lt ht.2.2.lt)))))
  have HN4 := hid (town_ne ht)
  clear ha hb9 hc9 ht
  clear hb K21
  have T4_0 := hid (HT4.out)
  have K22 := hid (town_any w21)
  go_wp2_with fail
  refine K22.out.mono ?_
  rintro e w22 ⟨o5, s5, j5, rfl, ha, hb9, hc9, ht, hb⟩
  have HB22 := hid (HB21.out.trans (hb.mono HB21.out.size))
  have T4_22 := hid (T4_0.out.keep hb)
  have T3_22 := hid (T3_21.out.keep hb)
  have T2_22 := hid (T2_21.out.keep hb)
  have T1_22 := hid (T1_21.out.keep hb)
  have HT5 := hid ht
  have HO5 := hid (And.intro ha (And.intro hb9 (And.intro hc9 (And.intro ht.1.lt (And.intro ht.2.1.lt ht.2.2.lt)))))
  have HN5 := hid (town_ne ht)
  clear ha hb9 hc9 ht
  clear hb K22
  have T5_0 := hid (HT5.out)
  have K23 := hid (town_any w22)
  go_wp2_with fail
  refine K23.out.mono ?_
  rintro e w23 ⟨o6, s6, j6, rfl, ha, hb9, hc9, ht, hb⟩
  have HB23 := hid (HB22.out.trans (hb.mono HB22.out.size))
  have T5_23 := hid (T5_0.out.keep hb)
  have T4_23 := hid (T4_22.out.keep hb)
  have T3_23 := hid (T3_22.out.keep hb)
  have T2_23 := hid (T2_22.out.keep hb)
  have T1_23 := hid (T1_22.out.keep hb)
  have HT6 := hid ht
  have HO6 := hid (And.intro ha (And.intro hb9 (And.intro hc9 (And.intro ht.1.lt (And.intro ht.2.1.lt ht.2.2.lt)))))
  have HN6 := hid (town_ne ht)
  clear ha hb9 hc9 ht
  clear hb K23
  have T6_0 := hid (HT6.out)
  go_upto_region 10 with (fail)
  have z0 := HB23.out
  have z1 := z0.alloc z0.size (.cells #[.slice (some ⟨o1, 0, none⟩) 2 2, .int .i64 2, .slice (some ⟨s1, 0, none⟩) 4 4, .slice (some ⟨j1, 0, none⟩) 3 3] 34)
  have hb1 := Blk.new w23 34 #[.slice (some ⟨o1, 0, none⟩) 2 2, .int .i64 2, .slice (some ⟨s1, 0, none⟩) 4 4, .slice (some ⟨j1, 0, none⟩) 3 3]
  have z2 := z1.alloc z1.size (.cells #[.slice (some ⟨o2, 0, none⟩) 2 2, .int .i64 2, .slice (some ⟨s2, 0, none⟩) 4 4, .slice (some ⟨j2, 0, none⟩) 3 3] 34)
  have hb2 := Blk.new (w23.alloc (.cells #[.slice (some ⟨o1, 0, none⟩) 2 2, .int .i64 2, .slice (some ⟨s1, 0, none⟩) 4 4, .slice (some ⟨j1, 0, none⟩) 3 3] 34)) 34 #[.slice (some ⟨o2, 0, none⟩) 2 2, .int .i64 2, .slice (some ⟨s2, 0, none⟩) 4 4, .slice (some ⟨j2, 0, none⟩) 3 3]
  simp only [World.size_alloc] at hb2
  have z3 := z2.alloc z2.size (.cells #[.slice (some ⟨o3, 0, none⟩) 2 2, .int .i64 2, .slice (some ⟨s3, 0, none⟩) 4 4, .slice (some ⟨j3, 0, none⟩) 3 3] 34)
  have hb3 := Blk.new ((w23.alloc (.cells #[.slice (some ⟨o1, 0, none⟩) 2 2, .int .i64 2, .slice (some ⟨s1, 0, none⟩) 4 4, .slice (some ⟨j1, 0, none⟩) 3 3] 34)).alloc (.cells #[.slice (some ⟨o2, 0, none⟩) 2 2, .int .i64 2, .slice (some ⟨s2, 0, none⟩) 4 4, .slice (some ⟨j2, 0, none⟩) 3 3] 34)) 34 #[.slice (some ⟨o3, 0, none⟩) 2 2, .int .i64 2, .slice (some ⟨s3, 0, none⟩) 4 4, .slice (some ⟨j3, 0, none⟩) 3 3]
  simp only [World.size_alloc] at hb3
  have z4 := z3.alloc z3.size (.cells #[.slice (some ⟨o4, 0, none⟩) 2 2, .int .i64 2, .slice (some ⟨s4, 0, none⟩) 4 4, .slice (some ⟨j4, 0, none⟩) 3 3] 34)
  have hb4 := Blk.new (((w23.alloc (.cells #[.slice (some ⟨o1, 0, none⟩) 2 2, .int .i64 2, .slice (some ⟨s1, 0, none⟩) 4 4, .slice (some ⟨j1, 0, none⟩) 3 3] 34)).alloc (.cells #[.slice (some ⟨o2, 0, none⟩) 2 2, .int .i64 2, .slice (some ⟨s2, 0, none⟩) 4 4, .slice (some ⟨j2, 0, none⟩) 3 3] 34)).alloc (.cells #[.slice (some ⟨o3, 0, none⟩) 2 2, .int .i64 2, .slice (some ⟨s3, 0, none⟩) 4 4, .slice (some ⟨j3, 0, none⟩) 3 3] 34)) 34 #[.slice (some ⟨o4, 0, none⟩) 2 2, .int .i64 2, .slice (some ⟨s4, 0, none⟩) 4 4, .slice (some ⟨j4, 0, none⟩) 3 3]
  simp only [World.size_alloc] at hb4
  have z5 := z4.alloc z4.size (.cells #[.slice (some ⟨o5, 0, none⟩) 2 2, .int .i64 2, .slice (some ⟨s5, 0, none⟩) 4 4, .slice (some ⟨j5, 0, none⟩) 3 3] 34)
  have hb5 := Blk.new ((((w23.alloc (.cells #[.slice (some ⟨o1, 0, none⟩) 2 2, .int .i64 2, .slice (some ⟨s1, 0, none⟩) 4 4, .slice (some ⟨j1, 0, none⟩) 3 3] 34)).alloc (.cells #[.slice (some ⟨o2, 0, none⟩) 2 2, .int .i64 2, .slice (some ⟨s2, 0, none⟩) 4 4, .slice (some ⟨j2, 0, none⟩) 3 3] 34)).alloc (.cells #[.slice (some ⟨o3, 0, none⟩) 2 2, .int .i64 2, .slice (some ⟨s3, 0, none⟩) 4 4, .slice (some ⟨j3, 0, none⟩) 3 3] 34)).alloc (.cells #[.slice (some ⟨o4, 0, none⟩) 2 2, .int .i64 2, .slice (some ⟨s4, 0, none⟩) 4 4, .slice (some ⟨j4, 0, none⟩) 3 3] 34)) 34 #[.slice (some ⟨o5, 0, none⟩) 2 2, .int .i64 2, .slice (some ⟨s5, 0, none⟩) 4 4, .slice (some ⟨j5, 0, none⟩) 3 3]
  simp only [World.size_alloc] at hb5
  have z6 := z5.alloc z5.size (.cells #[.slice (some ⟨o6, 0, none⟩) 2 2, .int .i64 2, .slice (some ⟨s6, 0, none⟩) 4 4, .slice (some ⟨j6, 0, none⟩) 3 3] 34)
  have hb6 := Blk.new (((((w23.alloc (.cells #[.slice (some ⟨o1, 0, none⟩) 2 2, .int .i64 2, .slice (some ⟨s1, 0, none⟩) 4 4, .slice (some ⟨j1, 0, none⟩) 3 3] 34)).alloc (.cells #[.slice (some ⟨o2, 0, none⟩) 2 2, .int .i64 2, .slice (some ⟨s2, 0, none⟩) 4 4, .slice (some ⟨j2, 0, none⟩) 3 3] 34)).alloc (.cells #[.slice (some ⟨o3, 0, none⟩) 2 2, .int .i64 2, .slice (some ⟨s3, 0, none⟩) 4 4, .slice (some ⟨j3, 0, none⟩) 3 3] 34)).alloc (.cells #[.slice (some ⟨o4, 0, none⟩) 2 2, .int .i64 2, .slice (some ⟨s4, 0, none⟩) 4 4, .slice (some ⟨j4, 0, none⟩) 3 3] 34)).alloc (.cells #[.slice (some ⟨o5, 0, none⟩) 2 2, .int .i64 2, .slice (some ⟨s5, 0, none⟩) 4 4, .slice (some ⟨j5, 0, none⟩) 3 3] 34)) 34 #[.slice (some ⟨o6, 0, none⟩) 2 2, .int .i64 2, .slice (some ⟨s6, 0, none⟩) 4 4, .slice (some ⟨j6, 0, none⟩) 3 3]
  simp only [World.size_alloc] at hb6
  have hord := And.intro HO1.out (And.intro HO2.out (And.intro HO3.out (And.intro HO4.out (And.intro HO5.out HO6.out))))
  refine gen (p := Code.wp _ _ _ _) (fun W => Below w.heap.size w W ∧ Blk W o1 3 townO ∧ Blk W s1 89 townS ∧ Blk W j1 90 townJ ∧ Blk W (w23.heap.size) 34 #[.slice (some ⟨o1, 0, none⟩) 2 2, .int .i64 2, .slice (some ⟨s1, 0, none⟩) 4 4, .slice (some ⟨j1, 0, none⟩) 3 3] ∧ Blk W o2 3 townO ∧ Blk W s2 89 townS ∧ Blk W j2 90 townJ ∧ Blk W (w23.heap.size + 1) 34 #[.slice (some ⟨o2, 0, none⟩) 2 2, .int .i64 2, .slice (some ⟨s2, 0, none⟩) 4 4, .slice (some ⟨j2, 0, none⟩) 3 3] ∧ Blk W o3 3 townO ∧ Blk W s3 89 townS ∧ Blk W j3 90 townJ ∧ Blk W (w23.heap.size + 1 + 1) 34 #[.slice (some ⟨o3, 0, none⟩) 2 2, .int .i64 2, .slice (some ⟨s3, 0, none⟩) 4 4, .slice (some ⟨j3, 0, none⟩) 3 3] ∧ Blk W o4 3 townO ∧ Blk W s4 89 townS ∧ Blk W j4 90 townJ ∧ Blk W (w23.heap.size + 1 + 1 + 1) 34 #[.slice (some ⟨o4, 0, none⟩) 2 2, .int .i64 2, .slice (some ⟨s4, 0, none⟩) 4 4, .slice (some ⟨j4, 0, none⟩) 3 3] ∧ Blk W o5 3 townO ∧ Blk W s5 89 townS ∧ Blk W j5 90 townJ ∧ Blk W (w23.heap.size + 1 + 1 + 1 + 1) 34 #[.slice (some ⟨o5, 0, none⟩) 2 2, .int .i64 2, .slice (some ⟨s5, 0, none⟩) 4 4, .slice (some ⟨j5, 0, none⟩) 3 3] ∧ Blk W o6 3 townO ∧ Blk W s6 89 townS ∧ Blk W j6 90 townJ ∧ Blk W (w23.heap.size + 1 + 1 + 1 + 1 + 1) 34 #[.slice (some ⟨o6, 0, none⟩) 2 2, .int .i64 2, .slice (some ⟨s6, 0, none⟩) 4 4, .slice (some ⟨j6, 0, none⟩) 3 3]) ⟨z6, ((((((T1_23.out.1.alloc _).alloc _).alloc _).alloc _).alloc _).alloc _), ((((((T1_23.out.2.1.alloc _).alloc _).alloc _).alloc _).alloc _).alloc _), ((((((T1_23.out.2.2.alloc _).alloc _).alloc _).alloc _).alloc _).alloc _), (((((hb1.alloc _).alloc _).alloc _).alloc _).alloc _), ((((((T2_23.out.1.alloc _).alloc _).alloc _).alloc _).alloc _).alloc _), ((((((T2_23.out.2.1.alloc _).alloc _).alloc _).alloc _).alloc _).alloc _), ((((((T2_23.out.2.2.alloc _).alloc _).alloc _).alloc _).alloc _).alloc _), ((((hb2.alloc _).alloc _).alloc _).alloc _), ((((((T3_23.out.1.alloc _).alloc _).alloc _).alloc _).alloc _).alloc _), ((((((T3_23.out.2.1.alloc _).alloc _).alloc _).alloc _).alloc _).alloc _), ((((((T3_23.out.2.2.alloc _).alloc _).alloc _).alloc _).alloc _).alloc _), (((hb3.alloc _).alloc _).alloc _), ((((((T4_23.out.1.alloc _).alloc _).alloc _).alloc _).alloc _).alloc _), ((((((T4_23.out.2.1.alloc _).alloc _).alloc _).alloc _).alloc _).alloc _), ((((((T4_23.out.2.2.alloc _).alloc _).alloc _).alloc _).alloc _).alloc _), ((hb4.alloc _).alloc _), ((((((T5_23.out.1.alloc _).alloc _).alloc _).alloc _).alloc _).alloc _), ((((((T5_23.out.2.1.alloc _).alloc _).alloc _).alloc _).alloc _).alloc _), ((((((T5_23.out.2.2.alloc _).alloc _).alloc _).alloc _).alloc _).alloc _), (hb5.alloc _), ((((((T6_0.out.1.alloc _).alloc _).alloc _).alloc _).alloc _).alloc _), ((((((T6_0.out.2.1.alloc _).alloc _).alloc _).alloc _).alloc _).alloc _), ((((((T6_0.out.2.2.alloc _).alloc _).alloc _).alloc _).alloc _).alloc _), hb6⟩ ?_
  rintro w24 hw24
  have F24 := hid hw24
  clear hw24
  clear z0 z1 z2 z3 z4 z5 z6 hb1 hb2 hb3 hb4 hb5 hb6 T1_23 T2_23 T3_23 T4_23 T5_23 T6_0
  have hbw : w.heap.size ≤ w23.heap.size := HB23.out.size
  generalize w23.heap.size = b at *
  have hord2 : b = b := rfl
  obtain ⟨x0, x1, x2, x3⟩ := F24.out.2.2.2.2.1.c4
  have yc := F24.out.2.1.cell 0
  have yf := F24.out.2.1.frozen 0
  have yl := F24.out.2.1.lt
  rw [show townO[0]? = some (.int .i64 100) from rfl] at yc
  go_upto_region 11 with (fail)
  refine gen (p := Code.wp _ _ _ _) (fun W => Below w.heap.size w W ∧ Blk W o1 3 shortO ∧ Blk W s1 89 townS ∧ Blk W j1 90 townJ ∧ Blk W (b) 34 #[.slice (some ⟨o1, 0, none⟩) 2 2, .int .i64 2, .slice (some ⟨s1, 0, none⟩) 4 4, .slice (some ⟨j1, 0, none⟩) 3 3] ∧ Blk W o2 3 townO ∧ Blk W s2 89 townS ∧ Blk W j2 90 townJ ∧ Blk W (b + 1) 34 #[.slice (some ⟨o2, 0, none⟩) 2 2, .int .i64 2, .slice (some ⟨s2, 0, none⟩) 4 4, .slice (some ⟨j2, 0, none⟩) 3 3] ∧ Blk W o3 3 townO ∧ Blk W s3 89 townS ∧ Blk W j3 90 townJ ∧ Blk W (b + 1 + 1) 34 #[.slice (some ⟨o3, 0, none⟩) 2 2, .int .i64 2, .slice (some ⟨s3, 0, none⟩) 4 4, .slice (some ⟨j3, 0, none⟩) 3 3] ∧ Blk W o4 3 townO ∧ Blk W s4 89 townS ∧ Blk W j4 90 townJ ∧ Blk W (b + 1 + 1 + 1) 34 #[.slice (some ⟨o4, 0, none⟩) 2 2, .int .i64 2, .slice (some ⟨s4, 0, none⟩) 4 4, .slice (some ⟨j4, 0, none⟩) 3 3] ∧ Blk W o5 3 townO ∧ Blk W s5 89 townS ∧ Blk W j5 90 townJ ∧ Blk W (b + 1 + 1 + 1 + 1) 34 #[.slice (some ⟨o5, 0, none⟩) 2 2, .int .i64 2, .slice (some ⟨s5, 0, none⟩) 4 4, .slice (some ⟨j5, 0, none⟩) 3 3] ∧ Blk W o6 3 townO ∧ Blk W s6 89 townS ∧ Blk W j6 90 townJ ∧ Blk W (b + 1 + 1 + 1 + 1 + 1) 34 #[.slice (some ⟨o6, 0, none⟩) 2 2, .int .i64 2, .slice (some ⟨s6, 0, none⟩) 4 4, .slice (some ⟨j6, 0, none⟩) 3 3]) ⟨F24.out.1.setCell (p := ⟨o1, 0, none⟩) (by show w.heap.size ≤ o1; omega) _, (F24.out.2.1.set_ 0 _), blk_off F24.out.2.2.1 (HN1.out.1).symm, blk_off F24.out.2.2.2.1 (HN1.out.2.1).symm, blk_off F24.out.2.2.2.2.1 (by omega), blk_off F24.out.2.2.2.2.2.1 (by omega), blk_off F24.out.2.2.2.2.2.2.1 (by omega), blk_off F24.out.2.2.2.2.2.2.2.1 (by omega), blk_off F24.out.2.2.2.2.2.2.2.2.1 (by omega), blk_off F24.out.2.2.2.2.2.2.2.2.2.1 (by omega), blk_off F24.out.2.2.2.2.2.2.2.2.2.2.1 (by omega), blk_off F24.out.2.2.2.2.2.2.2.2.2.2.2.1 (by omega), blk_off F24.out.2.2.2.2.2.2.2.2.2.2.2.2.1 (by omega), blk_off F24.out.2.2.2.2.2.2.2.2.2.2.2.2.2.1 (by omega), blk_off F24.out.2.2.2.2.2.2.2.2.2.2.2.2.2.2.1 (by omega), blk_off F24.out.2.2.2.2.2.2.2.2.2.2.2.2.2.2.2.1 (by omega), blk_off F24.out.2.2.2.2.2.2.2.2.2.2.2.2.2.2.2.2.1 (by omega), blk_off F24.out.2.2.2.2.2.2.2.2.2.2.2.2.2.2.2.2.2.1 (by omega), blk_off F24.out.2.2.2.2.2.2.2.2.2.2.2.2.2.2.2.2.2.2.1 (by omega), blk_off F24.out.2.2.2.2.2.2.2.2.2.2.2.2.2.2.2.2.2.2.2.1 (by omega), blk_off F24.out.2.2.2.2.2.2.2.2.2.2.2.2.2.2.2.2.2.2.2.2.1 (by omega), blk_off F24.out.2.2.2.2.2.2.2.2.2.2.2.2.2.2.2.2.2.2.2.2.2.1 (by omega), blk_off F24.out.2.2.2.2.2.2.2.2.2.2.2.2.2.2.2.2.2.2.2.2.2.2.1 (by omega), blk_off F24.out.2.2.2.2.2.2.2.2.2.2.2.2.2.2.2.2.2.2.2.2.2.2.2.1 (by omega), blk_off F24.out.2.2.2.2.2.2.2.2.2.2.2.2.2.2.2.2.2.2.2.2.2.2.2.2 (by omega)⟩ ?_
  rintro w25 hw25
  have F25 := hid hw25
  clear hw25 x0 x1 x2 x3 yc yf yl F24
  obtain ⟨x0, x1, x2, x3⟩ := F25.out.2.2.2.2.2.2.2.2.1.c4
  have yc := F25.out.2.2.2.2.2.2.1.cell 1
  have yf := F25.out.2.2.2.2.2.2.1.frozen 1
  have yl := F25.out.2.2.2.2.2.2.1.lt
  rw [show townS[1]? = some (.int .i64 0) from rfl] at yc
  go_upto_region 12 with (fail)
  refine gen (p := Code.wp _ _ _ _) (fun W => Below w.heap.size w W ∧ Blk W o1 3 shortO ∧ Blk W s1 89 townS ∧ Blk W j1 90 townJ ∧ Blk W (b) 34 #[.slice (some ⟨o1, 0, none⟩) 2 2, .int .i64 2, .slice (some ⟨s1, 0, none⟩) 4 4, .slice (some ⟨j1, 0, none⟩) 3 3] ∧ Blk W o2 3 townO ∧ Blk W s2 89 farS ∧ Blk W j2 90 townJ ∧ Blk W (b + 1) 34 #[.slice (some ⟨o2, 0, none⟩) 2 2, .int .i64 2, .slice (some ⟨s2, 0, none⟩) 4 4, .slice (some ⟨j2, 0, none⟩) 3 3] ∧ Blk W o3 3 townO ∧ Blk W s3 89 townS ∧ Blk W j3 90 townJ ∧ Blk W (b + 1 + 1) 34 #[.slice (some ⟨o3, 0, none⟩) 2 2, .int .i64 2, .slice (some ⟨s3, 0, none⟩) 4 4, .slice (some ⟨j3, 0, none⟩) 3 3] ∧ Blk W o4 3 townO ∧ Blk W s4 89 townS ∧ Blk W j4 90 townJ ∧ Blk W (b + 1 + 1 + 1) 34 #[.slice (some ⟨o4, 0, none⟩) 2 2, .int .i64 2, .slice (some ⟨s4, 0, none⟩) 4 4, .slice (some ⟨j4, 0, none⟩) 3 3] ∧ Blk W o5 3 townO ∧ Blk W s5 89 townS ∧ Blk W j5 90 townJ ∧ Blk W (b + 1 + 1 + 1 + 1) 34 #[.slice (some ⟨o5, 0, none⟩) 2 2, .int .i64 2, .slice (some ⟨s5, 0, none⟩) 4 4, .slice (some ⟨j5, 0, none⟩) 3 3] ∧ Blk W o6 3 townO ∧ Blk W s6 89 townS ∧ Blk W j6 90 townJ ∧ Blk W (b + 1 + 1 + 1 + 1 + 1) 34 #[.slice (some ⟨o6, 0, none⟩) 2 2, .int .i64 2, .slice (some ⟨s6, 0, none⟩) 4 4, .slice (some ⟨j6, 0, none⟩) 3 3]) ⟨F25.out.1.setCell (p := ⟨s2, 1, none⟩) (by show w.heap.size ≤ s2; omega) _, blk_off F25.out.2.1 (by omega), blk_off F25.out.2.2.1 (by omega), blk_off F25.out.2.2.2.1 (by omega), blk_off F25.out.2.2.2.2.1 (by omega), blk_off F25.out.2.2.2.2.2.1 HN2.out.1, (F25.out.2.2.2.2.2.2.1.set_ 1 _), blk_off F25.out.2.2.2.2.2.2.2.1 (HN2.out.2.2).symm, blk_off F25.out.2.2.2.2.2.2.2.2.1 (by omega), blk_off F25.out.2.2.2.2.2.2.2.2.2.1 (by omega), blk_off F25.out.2.2.2.2.2.2.2.2.2.2.1 (by omega), blk_off F25.out.2.2.2.2.2.2.2.2.2.2.2.1 (by omega), blk_off F25.out.2.2.2.2.2.2.2.2.2.2.2.2.1 (by omega), blk_off F25.out.2.2.2.2.2.2.2.2.2.2.2.2.2.1 (by omega), blk_off F25.out.2.2.2.2.2.2.2.2.2.2.2.2.2.2.1 (by omega), blk_off F25.out.2.2.2.2.2.2.2.2.2.2.2.2.2.2.2.1 (by omega), blk_off F25.out.2.2.2.2.2.2.2.2.2.2.2.2.2.2.2.2.1 (by omega), blk_off F25.out.2.2.2.2.2.2.2.2.2.2.2.2.2.2.2.2.2.1 (by omega), blk_off F25.out.2.2.2.2.2.2.2.2.2.2.2.2.2.2.2.2.2.2.1 (by omega), blk_off F25.out.2.2.2.2.2.2.2.2.2.2.2.2.2.2.2.2.2.2.2.1 (by omega), blk_off F25.out.2.2.2.2.2.2.2.2.2.2.2.2.2.2.2.2.2.2.2.2.1 (by omega), blk_off F25.out.2.2.2.2.2.2.2.2.2.2.2.2.2.2.2.2.2.2.2.2.2.1 (by omega), blk_off F25.out.2.2.2.2.2.2.2.2.2.2.2.2.2.2.2.2.2.2.2.2.2.2.1 (by omega), blk_off F25.out.2.2.2.2.2.2.2.2.2.2.2.2.2.2.2.2.2.2.2.2.2.2.2.1 (by omega), blk_off F25.out.2.2.2.2.2.2.2.2.2.2.2.2.2.2.2.2.2.2.2.2.2.2.2.2 (by omega)⟩ ?_
  rintro w26 hw26
  have F26 := hid hw26
  clear hw26 x0 x1 x2 x3 yc yf yl F25
  have HB3 := hid F26.out.2.2.2.2.2.2.2.2.2.2.2.2.1
  have HS3 := hid F26.out.2.2.2.2.2.2.2.2.2.2.1
  have hnb3 : ¬ b + 1 + 1 = s3 := by omega
  refine (wpIn_wide (n := 0)).1 ?_
  refine wpIn_region_each 7 (fun i v W' => match i with | 0 => v = .pointer (some ⟨b + 1 + 1, 2, none⟩) | 1 => v = .slice (some ⟨s3, 0, none⟩) 4 4 | 2 => v = .pointer (some ⟨b + 1 + 1, 2, none⟩) | 3 => v = .slice (some ⟨s3, 0, none⟩) 4 4 | 4 => v = .pointer (some ⟨s3, 10, none⟩) | 5 => v = .pointer (some ⟨s3, 12, none⟩) | _ => True) (Chg (fun q => q = s3)) (fun li W' => Blk W' s3 89 (if li.getD 6 false then noneS1 else townS)) (by kernel_rfl) (by kernel_rfl) ?_ (fun h k => h.trans k) ⟨rfl, rfl, rfl, Nat.le_refl _, fun _ _ _ => rfl⟩ (by have q := HS3.out.drew; simpa using q) (by kernel_rfl) ?_ ?_
  · intro i v W1 W2 hb h
    match i, h with
    | 0, h => exact h
    | 1, h => exact h
    | 2, h => exact h
    | 3, h => exact h
    | 4, h => exact h
    | 5, h => exact h
    | i + 6, h => trivial
  · refine ⟨?_, ?_, ?_, ?_, ?_, ?_, ?_, trivial⟩
    · -- 0
      intro li a1 W2 hA K hK
      have e10 := hA.par 10 (by kernel_rfl)
      refine opStep none 0 rfl rfl (fun c hc => by cases hc) ?_
      go_simp
      exact hK _ _ rfl Chg.refl (by rw [getD_set_oth (show (0 : Nat) ≠ 6 by decide)]; exact hA.ph)
    · -- 1
      intro li a1 W2 hA K hK
      have e175 : a1.tmps.getD 175 undef = .pointer (some ⟨b + 1 + 1, 2, none⟩) := hA.val 0 175 (by kernel_rfl) (by kernel_rfl)
      obtain ⟨q1, q2, q3, q4⟩ := (hA.st.blk HB3.out hnb3).c4
      refine opStep none 0 rfl rfl (fun c hc => by cases hc) ?_
      go_simp
      exact hK _ _ rfl Chg.refl (by rw [getD_set_oth (show (1 : Nat) ≠ 6 by decide)]; exact hA.ph)
    · -- 2
      intro li a1 W2 hA K hK
      have e10 := hA.par 10 (by kernel_rfl)
      refine opStep none 0 rfl rfl (fun c hc => by cases hc) ?_
      go_simp
      exact hK _ _ rfl Chg.refl (by rw [getD_set_oth (show (2 : Nat) ≠ 6 by decide)]; exact hA.ph)
    · -- 3
      intro li a1 W2 hA K hK
      have e177 : a1.tmps.getD 177 undef = .pointer (some ⟨b + 1 + 1, 2, none⟩) := hA.val 2 177 (by kernel_rfl) (by kernel_rfl)
      obtain ⟨q1, q2, q3, q4⟩ := (hA.st.blk HB3.out hnb3).c4
      refine opStep none 0 rfl rfl (fun c hc => by cases hc) ?_
      go_simp
      exact hK _ _ rfl Chg.refl (by rw [getD_set_oth (show (3 : Nat) ≠ 6 by decide)]; exact hA.ph)
    · -- 4
      intro li a1 W2 hA K hK
      have e176 : a1.tmps.getD 176 undef = .slice (some ⟨s3, 0, none⟩) 4 4 := hA.val 1 176 (by kernel_rfl) (by kernel_rfl)
      refine opStep none 0 rfl rfl (fun c hc => by cases hc) ?_
      go_simp
      exact hK _ _ rfl Chg.refl (by rw [getD_set_oth (show (4 : Nat) ≠ 6 by decide)]; exact hA.ph)
    · -- 5
      intro li a1 W2 hA K hK
      have e179 : a1.tmps.getD 179 undef = .pointer (some ⟨s3, 10, none⟩) := hA.val 4 179 (by kernel_rfl) (by kernel_rfl)
      refine opStep none 0 rfl rfl (fun c hc => by cases hc) ?_
      go_simp
      exact hK _ _ rfl Chg.refl (by rw [getD_set_oth (show (5 : Nat) ≠ 6 by decide)]; exact hA.ph)
    · -- 6
      intro li a1 W2 hA K hK
      have e180 : a1.tmps.getD 180 undef = .pointer (some ⟨s3, 12, none⟩) := hA.val 5 180 (by kernel_rfl) (by kernel_rfl)
      have hph := hA.ph
      rw [show li.getD 6 false = false from hA.new] at hph
      simp only [Bool.false_eq_true, if_false] at hph
      have yc := hph.cell 12
      rw [show townS[12]? = some (.int .i64 5) from rfl] at yc
      have yf := hph.frozen 12
      have yl := hph.lt
      refine opStep none 0 rfl rfl (fun c hc => by cases hc) ?_
      go_simp
      exact hK undef _ trivial (Chg.set (Z := fun q => q = s3) Chg.refl rfl _) (by rw [getD_set_eq (by rw [hA.lsize]; decide), if_pos rfl]; exact hph.set_ 12 _)
  intro li a1 W2 hD
  have e178 : a1.tmps.getD 178 undef = .slice (some ⟨s3, 0, none⟩) 4 4 := hD.val 3 178 (by kernel_rfl) (by kernel_rfl)
  have hst := hD.st
  have hph := hD.ph
  rw [hD.all 6 (by decide)] at hph
  simp only [if_true] at hph
  have yc := hph.cell 17
  rw [show noneS1[17]? = some (.int .i64 1) from rfl] at yc
  have yf := hph.frozen 17
  have yl := hph.lt
  have hct : Chg (fun q => q = s3) w26 (W2.setCell ⟨s3, 17, none⟩ (.int .i64 0)) := hst.set rfl _
  have HNF := hid (show Below w.heap.size w (W2.setCell ⟨s3, 17, none⟩ (.int .i64 0)) ∧ Blk (W2.setCell ⟨s3, 17, none⟩ (.int .i64 0)) o1 3 shortO ∧ Blk (W2.setCell ⟨s3, 17, none⟩ (.int .i64 0)) s1 89 townS ∧ Blk (W2.setCell ⟨s3, 17, none⟩ (.int .i64 0)) j1 90 townJ ∧ Blk (W2.setCell ⟨s3, 17, none⟩ (.int .i64 0)) (b) 34 #[.slice (some ⟨o1, 0, none⟩) 2 2, .int .i64 2, .slice (some ⟨s1, 0, none⟩) 4 4, .slice (some ⟨j1, 0, none⟩) 3 3] ∧ Blk (W2.setCell ⟨s3, 17, none⟩ (.int .i64 0)) o2 3 townO ∧ Blk (W2.setCell ⟨s3, 17, none⟩ (.int .i64 0)) s2 89 farS ∧ Blk (W2.setCell ⟨s3, 17, none⟩ (.int .i64 0)) j2 90 townJ ∧ Blk (W2.setCell ⟨s3, 17, none⟩ (.int .i64 0)) (b + 1) 34 #[.slice (some ⟨o2, 0, none⟩) 2 2, .int .i64 2, .slice (some ⟨s2, 0, none⟩) 4 4, .slice (some ⟨j2, 0, none⟩) 3 3] ∧ Blk (W2.setCell ⟨s3, 17, none⟩ (.int .i64 0)) o3 3 townO ∧ Blk (W2.setCell ⟨s3, 17, none⟩ (.int .i64 0)) s3 89 noneS ∧ Blk (W2.setCell ⟨s3, 17, none⟩ (.int .i64 0)) j3 90 townJ ∧ Blk (W2.setCell ⟨s3, 17, none⟩ (.int .i64 0)) (b + 1 + 1) 34 #[.slice (some ⟨o3, 0, none⟩) 2 2, .int .i64 2, .slice (some ⟨s3, 0, none⟩) 4 4, .slice (some ⟨j3, 0, none⟩) 3 3] ∧ Blk (W2.setCell ⟨s3, 17, none⟩ (.int .i64 0)) o4 3 townO ∧ Blk (W2.setCell ⟨s3, 17, none⟩ (.int .i64 0)) s4 89 townS ∧ Blk (W2.setCell ⟨s3, 17, none⟩ (.int .i64 0)) j4 90 townJ ∧ Blk (W2.setCell ⟨s3, 17, none⟩ (.int .i64 0)) (b + 1 + 1 + 1) 34 #[.slice (some ⟨o4, 0, none⟩) 2 2, .int .i64 2, .slice (some ⟨s4, 0, none⟩) 4 4, .slice (some ⟨j4, 0, none⟩) 3 3] ∧ Blk (W2.setCell ⟨s3, 17, none⟩ (.int .i64 0)) o5 3 townO ∧ Blk (W2.setCell ⟨s3, 17, none⟩ (.int .i64 0)) s5 89 townS ∧ Blk (W2.setCell ⟨s3, 17, none⟩ (.int .i64 0)) j5 90 townJ ∧ Blk (W2.setCell ⟨s3, 17, none⟩ (.int .i64 0)) (b + 1 + 1 + 1 + 1) 34 #[.slice (some ⟨o5, 0, none⟩) 2 2, .int .i64 2, .slice (some ⟨s5, 0, none⟩) 4 4, .slice (some ⟨j5, 0, none⟩) 3 3] ∧ Blk (W2.setCell ⟨s3, 17, none⟩ (.int .i64 0)) o6 3 townO ∧ Blk (W2.setCell ⟨s3, 17, none⟩ (.int .i64 0)) s6 89 townS ∧ Blk (W2.setCell ⟨s3, 17, none⟩ (.int .i64 0)) j6 90 townJ ∧ Blk (W2.setCell ⟨s3, 17, none⟩ (.int .i64 0)) (b + 1 + 1 + 1 + 1 + 1) 34 #[.slice (some ⟨o6, 0, none⟩) 2 2, .int .i64 2, .slice (some ⟨s6, 0, none⟩) 4 4, .slice (some ⟨j6, 0, none⟩) 3 3] from ⟨F26.out.1.trans (hct.below (fun k e => by rw [e]; omega) F26.out.1.size), hct.blk F26.out.2.1 (show ¬ o1 = s3 from (by omega)), hct.blk F26.out.2.2.1 (show ¬ s1 = s3 from (by omega)), hct.blk F26.out.2.2.2.1 (show ¬ j1 = s3 from (by omega)), hct.blk F26.out.2.2.2.2.1 (show ¬ (b) = s3 from (by omega)), hct.blk F26.out.2.2.2.2.2.1 (show ¬ o2 = s3 from (by omega)), hct.blk F26.out.2.2.2.2.2.2.1 (show ¬ s2 = s3 from (by omega)), hct.blk F26.out.2.2.2.2.2.2.2.1 (show ¬ j2 = s3 from (by omega)), hct.blk F26.out.2.2.2.2.2.2.2.2.1 (show ¬ (b + 1) = s3 from (by omega)), hct.blk F26.out.2.2.2.2.2.2.2.2.2.1 (show ¬ o3 = s3 from HN3.out.1), (hph.set_ 17 _), hct.blk F26.out.2.2.2.2.2.2.2.2.2.2.2.1 (show ¬ j3 = s3 from HN3.out.2.2.symm), hct.blk F26.out.2.2.2.2.2.2.2.2.2.2.2.2.1 (show ¬ (b + 1 + 1) = s3 from (by omega)), hct.blk F26.out.2.2.2.2.2.2.2.2.2.2.2.2.2.1 (show ¬ o4 = s3 from (by omega)), hct.blk F26.out.2.2.2.2.2.2.2.2.2.2.2.2.2.2.1 (show ¬ s4 = s3 from (by omega)), hct.blk F26.out.2.2.2.2.2.2.2.2.2.2.2.2.2.2.2.1 (show ¬ j4 = s3 from (by omega)), hct.blk F26.out.2.2.2.2.2.2.2.2.2.2.2.2.2.2.2.2.1 (show ¬ (b + 1 + 1 + 1) = s3 from (by omega)), hct.blk F26.out.2.2.2.2.2.2.2.2.2.2.2.2.2.2.2.2.2.1 (show ¬ o5 = s3 from (by omega)), hct.blk F26.out.2.2.2.2.2.2.2.2.2.2.2.2.2.2.2.2.2.2.1 (show ¬ s5 = s3 from (by omega)), hct.blk F26.out.2.2.2.2.2.2.2.2.2.2.2.2.2.2.2.2.2.2.2.1 (show ¬ j5 = s3 from (by omega)), hct.blk F26.out.2.2.2.2.2.2.2.2.2.2.2.2.2.2.2.2.2.2.2.2.1 (show ¬ (b + 1 + 1 + 1 + 1) = s3 from (by omega)), hct.blk F26.out.2.2.2.2.2.2.2.2.2.2.2.2.2.2.2.2.2.2.2.2.2.1 (show ¬ o6 = s3 from (by omega)), hct.blk F26.out.2.2.2.2.2.2.2.2.2.2.2.2.2.2.2.2.2.2.2.2.2.2.1 (show ¬ s6 = s3 from (by omega)), hct.blk F26.out.2.2.2.2.2.2.2.2.2.2.2.2.2.2.2.2.2.2.2.2.2.2.2.1 (show ¬ j6 = s3 from (by omega)), hct.blk F26.out.2.2.2.2.2.2.2.2.2.2.2.2.2.2.2.2.2.2.2.2.2.2.2.2 (show ¬ (b + 1 + 1 + 1 + 1 + 1) = s3 from (by omega))⟩)
  have hkp2 := hD.keeps (ds := [175, 176, 177, 178, 179, 180, 181, 182]) (by kernel_rfl)
  have hds := hD.size
  have hsz : a1.tmps.size = 276 := hD.size
  have hdd := hD.defers
  clear hst hph hct
  refine tail_val (i := 7) (v := .pointer (some ⟨s3, 15, none⟩)) (W' := W2) none 0 rfl rfl rfl (fun c hc => by cases hc) (by go_simp) (by rw [hsz]; decide) ?_
  intro a3 s3_ d3 f3 o3_
  have hkp3 := keeps_then hkp2 o3_ (by decide)
  refine tail_val (i := 8) (v := .pointer (some ⟨s3, 17, none⟩)) (W' := W2) none 0 rfl rfl rfl (fun c hc => by cases hc) (by go_simp) (by rw [s3_, hsz]; decide) ?_
  intro a4 s4_ d4 f4 o4_
  have hkp4 := keeps_then hkp3 o4_ (by decide)
  refine tail_store (i := 9) (W' := (W2.setCell ⟨s3, 17, none⟩ (.int .i64 0))) none 0 rfl rfl rfl (fun c hc => by cases hc) (by go_simp) ?_
  have e := act_mix [175, 176, 177, 178, 179, 180, 181, 182] (s4_.trans (s3_.trans hds)) (d4.trans (d3.trans hdd)) (fun i _ hc => hkp4 i hc)
  generalize (fun i => a4.tmps.getD i undef) = g' at e
  refine wpListIn_nil ?_
  rw [e]
  clear e hD hkp2 hkp3 hkp4 s3_ s4_ d3 d4 f3 f4 o3_ o4_ e178 hds hdd hsz yc yf yl HB3 HS3 hnb3
  simp only [mix, List.contains_cons, List.contains_nil, Nat.reduceAdd, Nat.reduceBEq, Bool.or_false, Bool.or_true, cond_true, cond_false]
  generalize (W2.setCell ⟨s3, 17, none⟩ (.int .i64 0)) = W9 at *
  have F27 := HNF
  clear HNF F26
  generalize W9 = w27 at *
  obtain ⟨x0, x1, x2, x3⟩ := F27.out.2.2.2.2.2.2.2.2.2.2.2.2.2.2.2.2.1.c4
  have yc := F27.out.2.2.2.2.2.2.2.2.2.2.2.2.2.2.2.1.cell 1
  have yf := F27.out.2.2.2.2.2.2.2.2.2.2.2.2.2.2.2.1.frozen 1
  have yl := F27.out.2.2.2.2.2.2.2.2.2.2.2.2.2.2.2.1.lt
  rw [show townJ[1]? = some (.int .i64 1) from rfl] at yc
  go_upto_region 14 with (fail)
  refine gen (p := Code.wp _ _ _ _) (fun W => Below w.heap.size w W ∧ Blk W o1 3 shortO ∧ Blk W s1 89 townS ∧ Blk W j1 90 townJ ∧ Blk W (b) 34 #[.slice (some ⟨o1, 0, none⟩) 2 2, .int .i64 2, .slice (some ⟨s1, 0, none⟩) 4 4, .slice (some ⟨j1, 0, none⟩) 3 3] ∧ Blk W o2 3 townO ∧ Blk W s2 89 farS ∧ Blk W j2 90 townJ ∧ Blk W (b + 1) 34 #[.slice (some ⟨o2, 0, none⟩) 2 2, .int .i64 2, .slice (some ⟨s2, 0, none⟩) 4 4, .slice (some ⟨j2, 0, none⟩) 3 3] ∧ Blk W o3 3 townO ∧ Blk W s3 89 noneS ∧ Blk W j3 90 townJ ∧ Blk W (b + 1 + 1) 34 #[.slice (some ⟨o3, 0, none⟩) 2 2, .int .i64 2, .slice (some ⟨s3, 0, none⟩) 4 4, .slice (some ⟨j3, 0, none⟩) 3 3] ∧ Blk W o4 3 townO ∧ Blk W s4 89 townS ∧ Blk W j4 90 loopJ ∧ Blk W (b + 1 + 1 + 1) 34 #[.slice (some ⟨o4, 0, none⟩) 2 2, .int .i64 2, .slice (some ⟨s4, 0, none⟩) 4 4, .slice (some ⟨j4, 0, none⟩) 3 3] ∧ Blk W o5 3 townO ∧ Blk W s5 89 townS ∧ Blk W j5 90 townJ ∧ Blk W (b + 1 + 1 + 1 + 1) 34 #[.slice (some ⟨o5, 0, none⟩) 2 2, .int .i64 2, .slice (some ⟨s5, 0, none⟩) 4 4, .slice (some ⟨j5, 0, none⟩) 3 3] ∧ Blk W o6 3 townO ∧ Blk W s6 89 townS ∧ Blk W j6 90 townJ ∧ Blk W (b + 1 + 1 + 1 + 1 + 1) 34 #[.slice (some ⟨o6, 0, none⟩) 2 2, .int .i64 2, .slice (some ⟨s6, 0, none⟩) 4 4, .slice (some ⟨j6, 0, none⟩) 3 3]) ⟨F27.out.1.setCell (p := ⟨j4, 1, none⟩) (by show w.heap.size ≤ j4; omega) _, blk_off F27.out.2.1 (by omega), blk_off F27.out.2.2.1 (by omega), blk_off F27.out.2.2.2.1 (by omega), blk_off F27.out.2.2.2.2.1 (by omega), blk_off F27.out.2.2.2.2.2.1 (by omega), blk_off F27.out.2.2.2.2.2.2.1 (by omega), blk_off F27.out.2.2.2.2.2.2.2.1 (by omega), blk_off F27.out.2.2.2.2.2.2.2.2.1 (by omega), blk_off F27.out.2.2.2.2.2.2.2.2.2.1 (by omega), blk_off F27.out.2.2.2.2.2.2.2.2.2.2.1 (by omega), blk_off F27.out.2.2.2.2.2.2.2.2.2.2.2.1 (by omega), blk_off F27.out.2.2.2.2.2.2.2.2.2.2.2.2.1 (by omega), blk_off F27.out.2.2.2.2.2.2.2.2.2.2.2.2.2.1 HN4.out.2.1, blk_off F27.out.2.2.2.2.2.2.2.2.2.2.2.2.2.2.1 HN4.out.2.2, (F27.out.2.2.2.2.2.2.2.2.2.2.2.2.2.2.2.1.set_ 1 _), blk_off F27.out.2.2.2.2.2.2.2.2.2.2.2.2.2.2.2.2.1 (by omega), blk_off F27.out.2.2.2.2.2.2.2.2.2.2.2.2.2.2.2.2.2.1 (by omega), blk_off F27.out.2.2.2.2.2.2.2.2.2.2.2.2.2.2.2.2.2.2.1 (by omega), blk_off F27.out.2.2.2.2.2.2.2.2.2.2.2.2.2.2.2.2.2.2.2.1 (by omega), blk_off F27.out.2.2.2.2.2.2.2.2.2.2.2.2.2.2.2.2.2.2.2.2.1 (by omega), blk_off F27.out.2.2.2.2.2.2.2.2.2.2.2.2.2.2.2.2.2.2.2.2.2.1 (by omega), blk_off F27.out.2.2.2.2.2.2.2.2.2.2.2.2.2.2.2.2.2.2.2.2.2.2.1 (by omega), blk_off F27.out.2.2.2.2.2.2.2.2.2.2.2.2.2.2.2.2.2.2.2.2.2.2.2.1 (by omega), blk_off F27.out.2.2.2.2.2.2.2.2.2.2.2.2.2.2.2.2.2.2.2.2.2.2.2.2 (by omega)⟩ ?_
  rintro w28 hw28
  have F28 := hid hw28
  clear hw28 x0 x1 x2 x3 yc yf yl F27
  have hmk := make_nine
  obtain ⟨x0, x1, x2, x3⟩ := F28.out.2.2.2.2.2.2.2.2.2.2.2.2.2.2.2.2.2.2.2.2.1.c4
  have y0 := (F28.out.2.2.2.2.2.2.2.2.2.2.2.2.2.2.2.2.2.2.2.2.1.alloc (.cells manyS 89)).c4
  have yf := (F28.out.2.2.2.2.2.2.2.2.2.2.2.2.2.2.2.2.2.2.2.2.1.alloc (.cells manyS 89)).frozen 2
  have yl := (F28.out.2.2.2.2.2.2.2.2.2.2.2.2.2.2.2.2.2.2.2.2.1.alloc (.cells manyS 89)).lt
  obtain ⟨y0, y1, y2, y3⟩ := y0
  have hM6 := F28.out.2.2.2.2.2.2.2.2.2.2.2.2.2.2.2.2.2.2.2.2.2.2.2.2.lt
  skip
  go_upto_region 15 with (fail)
  refine gen (p := Code.wp _ _ _ _) (fun W => Below w.heap.size w W ∧ Blk W o1 3 shortO ∧ Blk W s1 89 townS ∧ Blk W j1 90 townJ ∧ Blk W (b) 34 #[.slice (some ⟨o1, 0, none⟩) 2 2, .int .i64 2, .slice (some ⟨s1, 0, none⟩) 4 4, .slice (some ⟨j1, 0, none⟩) 3 3] ∧ Blk W o2 3 townO ∧ Blk W s2 89 farS ∧ Blk W j2 90 townJ ∧ Blk W (b + 1) 34 #[.slice (some ⟨o2, 0, none⟩) 2 2, .int .i64 2, .slice (some ⟨s2, 0, none⟩) 4 4, .slice (some ⟨j2, 0, none⟩) 3 3] ∧ Blk W o3 3 townO ∧ Blk W s3 89 noneS ∧ Blk W j3 90 townJ ∧ Blk W (b + 1 + 1) 34 #[.slice (some ⟨o3, 0, none⟩) 2 2, .int .i64 2, .slice (some ⟨s3, 0, none⟩) 4 4, .slice (some ⟨j3, 0, none⟩) 3 3] ∧ Blk W o4 3 townO ∧ Blk W s4 89 townS ∧ Blk W j4 90 loopJ ∧ Blk W (b + 1 + 1 + 1) 34 #[.slice (some ⟨o4, 0, none⟩) 2 2, .int .i64 2, .slice (some ⟨s4, 0, none⟩) 4 4, .slice (some ⟨j4, 0, none⟩) 3 3] ∧ Blk W o5 3 townO ∧ Blk W s5 89 townS ∧ Blk W j5 90 townJ ∧ Blk W (b + 1 + 1 + 1 + 1) 34 #[.slice (some ⟨o5, 0, none⟩) 2 2, .int .i64 2, .slice (some ⟨w28.heap.size, 0, none⟩) 9 9, .slice (some ⟨j5, 0, none⟩) 3 3] ∧ Blk W o6 3 townO ∧ Blk W s6 89 townS ∧ Blk W j6 90 townJ ∧ Blk W (b + 1 + 1 + 1 + 1 + 1) 34 #[.slice (some ⟨o6, 0, none⟩) 2 2, .int .i64 2, .slice (some ⟨s6, 0, none⟩) 4 4, .slice (some ⟨j6, 0, none⟩) 3 3] ∧ Blk W (w28.heap.size) 89 manyS) ⟨(F28.out.1.alloc F28.out.1.size _).setCell (p := ⟨b + 1 + 1 + 1 + 1, 2, none⟩) (by show w.heap.size ≤ b + 1 + 1 + 1 + 1; omega) _, blk_off (F28.out.2.1.alloc _) (by omega), blk_off (F28.out.2.2.1.alloc _) (by omega), blk_off (F28.out.2.2.2.1.alloc _) (by omega), blk_off (F28.out.2.2.2.2.1.alloc _) (by omega), blk_off (F28.out.2.2.2.2.2.1.alloc _) (by omega), blk_off (F28.out.2.2.2.2.2.2.1.alloc _) (by omega), blk_off (F28.out.2.2.2.2.2.2.2.1.alloc _) (by omega), blk_off (F28.out.2.2.2.2.2.2.2.2.1.alloc _) (by omega), blk_off (F28.out.2.2.2.2.2.2.2.2.2.1.alloc _) (by omega), blk_off (F28.out.2.2.2.2.2.2.2.2.2.2.1.alloc _) (by omega), blk_off (F28.out.2.2.2.2.2.2.2.2.2.2.2.1.alloc _) (by omega), blk_off (F28.out.2.2.2.2.2.2.2.2.2.2.2.2.1.alloc _) (by omega), blk_off (F28.out.2.2.2.2.2.2.2.2.2.2.2.2.2.1.alloc _) (by omega), blk_off (F28.out.2.2.2.2.2.2.2.2.2.2.2.2.2.2.1.alloc _) (by omega), blk_off (F28.out.2.2.2.2.2.2.2.2.2.2.2.2.2.2.2.1.alloc _) (by omega), blk_off (F28.out.2.2.2.2.2.2.2.2.2.2.2.2.2.2.2.2.1.alloc _) (by omega), blk_off (F28.out.2.2.2.2.2.2.2.2.2.2.2.2.2.2.2.2.2.1.alloc _) (by omega), blk_off (F28.out.2.2.2.2.2.2.2.2.2.2.2.2.2.2.2.2.2.2.1.alloc _) (by omega), blk_off (F28.out.2.2.2.2.2.2.2.2.2.2.2.2.2.2.2.2.2.2.2.1.alloc _) (by omega), ((F28.out.2.2.2.2.2.2.2.2.2.2.2.2.2.2.2.2.2.2.2.2.1.alloc _).set_ 2 _), blk_off (F28.out.2.2.2.2.2.2.2.2.2.2.2.2.2.2.2.2.2.2.2.2.2.1.alloc _) (by omega), blk_off (F28.out.2.2.2.2.2.2.2.2.2.2.2.2.2.2.2.2.2.2.2.2.2.2.1.alloc _) (by omega), blk_off (F28.out.2.2.2.2.2.2.2.2.2.2.2.2.2.2.2.2.2.2.2.2.2.2.2.1.alloc _) (by omega), blk_off (F28.out.2.2.2.2.2.2.2.2.2.2.2.2.2.2.2.2.2.2.2.2.2.2.2.2.alloc _) (by omega), blk_off (Blk.new _ _ _) (by omega)⟩ ?_
  rintro w29 hw29
  have F29 := hid hw29
  clear hw29 x0 x1 x2 x3 y0 y1 y2 y3 yf yl hmk F28
  generalize w28.heap.size = M9 at *
  obtain ⟨x0, x1, x2, x3⟩ := F29.out.2.2.2.2.2.2.2.2.2.2.2.2.2.2.2.2.2.2.2.2.2.2.2.2.1.c4
  have hb6lt := F29.out.2.2.2.2.2.2.2.2.2.2.2.2.2.2.2.2.2.2.2.2.2.2.2.2.1.lt
  go_upto_region 16 with (at_builtin; refine wpList_run_append rfl _ _ 22 rfl rfl rfl (append_five (F29.out.2.2.2.2.2.2.2.2.2.2.2.2.2.2.2.2.2.2.2.2.2.1.alloc _) (Blk.new _ _ _)) ?_; rintro v' w7 ⟨y6, rfl, hn6, hy6, hb7⟩; have HNW := hid hn6; have hst7 := then_below (below_box _ _) hb7; have HB6 := hid (F29.out.2.2.2.2.2.2.2.2.2.2.2.2.2.2.2.2.2.2.2.2.2.2.2.2.1.keep hst7); obtain ⟨x0, x1, x2, x3⟩ := HB6.out.c4; have yf := HB6.out.frozen 0; have yl := HB6.out.lt; have HY6 := hid hy6; have HST7 := hid hst7; clear hst7 hb7 hy6 hn6)
  have HI6 := hid (show IntsAt y6 [100, 60, 5] (w7.setCell ⟨b + 1 + 1 + 1 + 1 + 1, 0, none⟩ (.slice y6.1 3 y6.2)) from ints_off HY6.out (fun a e => by rw [HNW.out a e]; simp only [World.size_alloc]; have := hb6lt; omega) HB6.out)
  refine gen (p := Code.wp _ _ _ _) (fun W => Below w.heap.size w W ∧ Blk W o1 3 shortO ∧ Blk W s1 89 townS ∧ Blk W j1 90 townJ ∧ Blk W (b) 34 #[.slice (some ⟨o1, 0, none⟩) 2 2, .int .i64 2, .slice (some ⟨s1, 0, none⟩) 4 4, .slice (some ⟨j1, 0, none⟩) 3 3] ∧ Blk W o2 3 townO ∧ Blk W s2 89 farS ∧ Blk W j2 90 townJ ∧ Blk W (b + 1) 34 #[.slice (some ⟨o2, 0, none⟩) 2 2, .int .i64 2, .slice (some ⟨s2, 0, none⟩) 4 4, .slice (some ⟨j2, 0, none⟩) 3 3] ∧ Blk W o3 3 townO ∧ Blk W s3 89 noneS ∧ Blk W j3 90 townJ ∧ Blk W (b + 1 + 1) 34 #[.slice (some ⟨o3, 0, none⟩) 2 2, .int .i64 2, .slice (some ⟨s3, 0, none⟩) 4 4, .slice (some ⟨j3, 0, none⟩) 3 3] ∧ Blk W o4 3 townO ∧ Blk W s4 89 townS ∧ Blk W j4 90 loopJ ∧ Blk W (b + 1 + 1 + 1) 34 #[.slice (some ⟨o4, 0, none⟩) 2 2, .int .i64 2, .slice (some ⟨s4, 0, none⟩) 4 4, .slice (some ⟨j4, 0, none⟩) 3 3] ∧ Blk W o5 3 townO ∧ Blk W s5 89 townS ∧ Blk W j5 90 townJ ∧ Blk W (b + 1 + 1 + 1 + 1) 34 #[.slice (some ⟨o5, 0, none⟩) 2 2, .int .i64 2, .slice (some ⟨M9, 0, none⟩) 9 9, .slice (some ⟨j5, 0, none⟩) 3 3] ∧ Blk W o6 3 townO ∧ Blk W s6 89 townS ∧ Blk W j6 90 townJ ∧ Blk W (b + 1 + 1 + 1 + 1 + 1) 34 #[.slice y6.1 3 y6.2, .int .i64 2, .slice (some ⟨s6, 0, none⟩) 4 4, .slice (some ⟨j6, 0, none⟩) 3 3] ∧ Blk W (M9) 89 manyS ∧ IntsAt y6 [100, 60, 5] W) ⟨(F29.out.1.trans (HST7.out.mono F29.out.1.size)).setCell (p := ⟨b + 1 + 1 + 1 + 1 + 1, 0, none⟩) (by show w.heap.size ≤ b + 1 + 1 + 1 + 1 + 1; omega) _, blk_off (F29.out.2.1.keep HST7.out) (by omega), blk_off (F29.out.2.2.1.keep HST7.out) (by omega), blk_off (F29.out.2.2.2.1.keep HST7.out) (by omega), blk_off (F29.out.2.2.2.2.1.keep HST7.out) (by omega), blk_off (F29.out.2.2.2.2.2.1.keep HST7.out) (by omega), blk_off (F29.out.2.2.2.2.2.2.1.keep HST7.out) (by omega), blk_off (F29.out.2.2.2.2.2.2.2.1.keep HST7.out) (by omega), blk_off (F29.out.2.2.2.2.2.2.2.2.1.keep HST7.out) (by omega), blk_off (F29.out.2.2.2.2.2.2.2.2.2.1.keep HST7.out) (by omega), blk_off (F29.out.2.2.2.2.2.2.2.2.2.2.1.keep HST7.out) (by omega), blk_off (F29.out.2.2.2.2.2.2.2.2.2.2.2.1.keep HST7.out) (by omega), blk_off (F29.out.2.2.2.2.2.2.2.2.2.2.2.2.1.keep HST7.out) (by omega), blk_off (F29.out.2.2.2.2.2.2.2.2.2.2.2.2.2.1.keep HST7.out) (by omega), blk_off (F29.out.2.2.2.2.2.2.2.2.2.2.2.2.2.2.1.keep HST7.out) (by omega), blk_off (F29.out.2.2.2.2.2.2.2.2.2.2.2.2.2.2.2.1.keep HST7.out) (by omega), blk_off (F29.out.2.2.2.2.2.2.2.2.2.2.2.2.2.2.2.2.1.keep HST7.out) (by omega), blk_off (F29.out.2.2.2.2.2.2.2.2.2.2.2.2.2.2.2.2.2.1.keep HST7.out) (by omega), blk_off (F29.out.2.2.2.2.2.2.2.2.2.2.2.2.2.2.2.2.2.2.1.keep HST7.out) (by omega), blk_off (F29.out.2.2.2.2.2.2.2.2.2.2.2.2.2.2.2.2.2.2.2.1.keep HST7.out) (by omega), blk_off (F29.out.2.2.2.2.2.2.2.2.2.2.2.2.2.2.2.2.2.2.2.2.1.keep HST7.out) (by omega), blk_off (F29.out.2.2.2.2.2.2.2.2.2.2.2.2.2.2.2.2.2.2.2.2.2.1.keep HST7.out) (by omega), blk_off (F29.out.2.2.2.2.2.2.2.2.2.2.2.2.2.2.2.2.2.2.2.2.2.2.1.keep HST7.out) (by omega), blk_off (F29.out.2.2.2.2.2.2.2.2.2.2.2.2.2.2.2.2.2.2.2.2.2.2.2.1.keep HST7.out) (by omega), (HB6.out.set_ 0 _), blk_off (F29.out.2.2.2.2.2.2.2.2.2.2.2.2.2.2.2.2.2.2.2.2.2.2.2.2.2.keep HST7.out) (by omega), HI6.out⟩ ?_
  rintro w30 hw30
  have F30 := hid hw30
  clear hw30 HI6 HY6 HST7 HB6 F29
  have HM1 := hid (short_min F30.out.2.1 F30.out.2.2.1 F30.out.2.2.2.1)
  have HM2 := hid (far_min F30.out.2.2.2.2.2.1 F30.out.2.2.2.2.2.2.1 F30.out.2.2.2.2.2.2.2.1)
  have HM3 := hid (none_min F30.out.2.2.2.2.2.2.2.2.2.1 F30.out.2.2.2.2.2.2.2.2.2.2.1 F30.out.2.2.2.2.2.2.2.2.2.2.2.1)
  have HM4 := hid (loop_min F30.out.2.2.2.2.2.2.2.2.2.2.2.2.2.1 F30.out.2.2.2.2.2.2.2.2.2.2.2.2.2.2.1 F30.out.2.2.2.2.2.2.2.2.2.2.2.2.2.2.2.1)
  have HM5 := hid (many_min F30.out.2.2.2.2.2.2.2.2.2.2.2.2.2.2.2.2.2.1 F30.out.2.2.2.2.2.2.2.2.2.2.2.2.2.2.2.2.2.2.2.2.2.2.2.2.2.1 F30.out.2.2.2.2.2.2.2.2.2.2.2.2.2.2.2.2.2.2.2.1)
  have HM6 := hid (old_min F30.out.2.2.2.2.2.2.2.2.2.2.2.2.2.2.2.2.2.2.2.2.2.2.2.2.2.2 F30.out.2.2.2.2.2.2.2.2.2.2.2.2.2.2.2.2.2.2.2.2.2.2.1 F30.out.2.2.2.2.2.2.2.2.2.2.2.2.2.2.2.2.2.2.2.2.2.2.2.1)
  have HBF := hid F30.out.1
  have M1_0 := hid (HM1.out)
  have XB10 := hid F30.out.2.2.2.2.1
  obtain ⟨x10, x11, x12, x13⟩ := XB10.out.c4
  have M2_0 := hid (HM2.out)
  have XB20 := hid F30.out.2.2.2.2.2.2.2.2.1
  obtain ⟨x20, x21, x22, x23⟩ := XB20.out.c4
  have M3_0 := hid (HM3.out)
  have XB30 := hid F30.out.2.2.2.2.2.2.2.2.2.2.2.2.1
  obtain ⟨x30, x31, x32, x33⟩ := XB30.out.c4
  have M4_0 := hid (HM4.out)
  have XB40 := hid F30.out.2.2.2.2.2.2.2.2.2.2.2.2.2.2.2.2.1
  obtain ⟨x40, x41, x42, x43⟩ := XB40.out.c4
  have M5_0 := hid (HM5.out)
  have XB50 := hid F30.out.2.2.2.2.2.2.2.2.2.2.2.2.2.2.2.2.2.2.2.2.1
  obtain ⟨x50, x51, x52, x53⟩ := XB50.out.c4
  have M6_0 := hid (HM6.out)
  have XB60 := hid F30.out.2.2.2.2.2.2.2.2.2.2.2.2.2.2.2.2.2.2.2.2.2.2.2.2.1
  obtain ⟨x60, x61, x62, x63⟩ := XB60.out.c4
  clear F30
  have K31 := hid (short_bounds M1_0.out)
  go_wp2_with fail
  refine K31.out.mono ?_
  rintro e w31 ⟨rfl, hb⟩
  have HB31 := hid (HBF.out.trans (hb.mono HBF.out.size))
  have XB131 := hid (XB10.out.keep hb)
  have XB231 := hid (XB20.out.keep hb)
  have XB331 := hid (XB30.out.keep hb)
  have XB431 := hid (XB40.out.keep hb)
  have XB531 := hid (XB50.out.keep hb)
  have XB631 := hid (XB60.out.keep hb)
  have M6_31 := hid (M6_0.out.at_ hb)
  have M5_31 := hid (M5_0.out.at_ hb)
  have M4_31 := hid (M4_0.out.at_ hb)
  have M3_31 := hid (M3_0.out.at_ hb)
  have M2_31 := hid (M2_0.out.at_ hb)
  have M1_31 := hid (M1_0.out.at_ hb)
  clear hb K31 x10 x11 x12 x13 x20 x21 x22 x23 x30 x31 x32 x33 x40 x41 x42 x43 x50 x51 x52 x53 x60 x61 x62 x63
  obtain ⟨x10, x11, x12, x13⟩ := XB131.out.c4
  obtain ⟨x20, x21, x22, x23⟩ := XB231.out.c4
  obtain ⟨x30, x31, x32, x33⟩ := XB331.out.c4
  obtain ⟨x40, x41, x42, x43⟩ := XB431.out.c4
  obtain ⟨x50, x51, x52, x53⟩ := XB531.out.c4
  obtain ⟨x60, x61, x62, x63⟩ := XB631.out.c4
  have K32 := hid (short_off M1_31.out)
  go_wp2_with fail
  refine K32.out.mono ?_
  rintro e w32 ⟨rfl, hb⟩
  have HB32 := hid (HB31.out.trans (hb.mono HB31.out.size))
  have XB132 := hid (XB131.out.keep hb)
  have XB232 := hid (XB231.out.keep hb)
  have XB332 := hid (XB331.out.keep hb)
  have XB432 := hid (XB431.out.keep hb)
  have XB532 := hid (XB531.out.keep hb)
  have XB632 := hid (XB631.out.keep hb)
  have M6_32 := hid (M6_31.out.at_ hb)
  have M5_32 := hid (M5_31.out.at_ hb)
  have M4_32 := hid (M4_31.out.at_ hb)
  have M3_32 := hid (M3_31.out.at_ hb)
  have M2_32 := hid (M2_31.out.at_ hb)
  have M1_32 := hid (M1_31.out.at_ hb)
  clear hb K32 x10 x11 x12 x13 x20 x21 x22 x23 x30 x31 x32 x33 x40 x41 x42 x43 x50 x51 x52 x53 x60 x61 x62 x63
  obtain ⟨x10, x11, x12, x13⟩ := XB132.out.c4
  obtain ⟨x20, x21, x22, x23⟩ := XB232.out.c4
  obtain ⟨x30, x31, x32, x33⟩ := XB332.out.c4
  obtain ⟨x40, x41, x42, x43⟩ := XB432.out.c4
  obtain ⟨x50, x51, x52, x53⟩ := XB532.out.c4
  obtain ⟨x60, x61, x62, x63⟩ := XB632.out.c4
  clear x10 x11 x12 x13 x20 x21 x22 x23 x30 x31 x32 x33 x40 x41 x42 x43 x50 x51 x52 x53 x60 x61 x62 x63
  go_wp2
  refine (wpIn_wide (n := 0)).1 ?_
  refine wpIn_region_each 9 (fun i v W' => match i with | 0 => v = .agg #[.slice (some ⟨o1, 0, none⟩) 2 2, .int .i64 2, .slice (some ⟨s1, 0, none⟩) 4 4, .slice (some ⟨j1, 0, none⟩) 3 3] | 1 => v = .agg #[.int .i64 5, .int .i64 4] | 2 => v = .tuple #[.slice none 0 0, .int .i64 0, .int .i64 2] | 3 => v = .tuple #[.slice none 0 0, .int .i64 0, .int .i64 2] | 4 => v = .slice none 0 0 | 5 => v = .int .i64 0 | 6 => v = .int .i64 2 | 7 => v = .slice none 0 0 | 8 => v = .int .i64 0 | _ => True) (fun A B => Below A.heap.size A B) (fun _ _ => True) (by kernel_rfl) (by kernel_rfl) ?_ (fun h k => h.trans (k.mono h.size)) ⟨rfl, rfl, rfl, Nat.le_refl _, fun _ _ => rfl⟩ trivial (by kernel_rfl) ?_ ?_
  · intro i v W1 W2 hb h
    match i, h with
    | 0, h => exact h
    | 1, h => exact h
    | 2, h => exact h
    | 3, h => exact h
    | 4, h => exact h
    | 5, h => exact h
    | 6, h => exact h
    | 7, h => exact h
    | 8, h => exact h
    | i + 9, h => trivial
  · refine ⟨?_, ?_, ?_, ?_, ?_, ?_, ?_, ?_, ?_, trivial⟩
    · -- 0
      intro li a1 W2 hA K hK
      have e8 := hA.par 8 (by kernel_rfl)
      obtain ⟨q1, q2, q3, q4⟩ := (XB132.out.keep hA.st).c4
      refine opStep none 0 rfl rfl (fun c hc => by cases hc) ?_
      go_simp
      exact hK _ _ rfl (Below.refl _ _) trivial
    · -- 1
      intro li a1 W2 hA K hK
      refine opStep none 0 rfl rfl (fun c hc => by cases hc) ?_
      go_simp
      refine (between_any 5 4 W2).mono ?_
      rintro e W3 ⟨rfl, hb3⟩
      exact hK _ _ rfl hb3 trivial
    · -- 2
      intro li a1 W2 hA K hK
      have e205 : a1.tmps.getD 205 undef = .agg #[.slice (some ⟨o1, 0, none⟩) 2 2, .int .i64 2, .slice (some ⟨s1, 0, none⟩) 4 4, .slice (some ⟨j1, 0, none⟩) 3 3] := hA.val 0 205 (by kernel_rfl) (by kernel_rfl)
      have e206 : a1.tmps.getD 206 undef = .agg #[.int .i64 5, .int .i64 4] := hA.val 1 206 (by kernel_rfl) (by kernel_rfl)
      refine opStep none 0 rfl rfl (fun c hc => by cases hc) ?_
      go_simp
      refine (short_best (M1_32.out.at_ hA.st)).mono ?_
      rintro e W3 ⟨rfl, hb3⟩
      exact hK _ _ rfl hb3 trivial
    · -- 3
      intro li a1 W2 hA K hK
      have e207 : a1.tmps.getD 207 undef = .tuple #[.slice none 0 0, .int .i64 0, .int .i64 2] := hA.val 2 207 (by kernel_rfl) (by kernel_rfl)
      refine opStep none 0 rfl rfl (fun c hc => by cases hc) ?_
      go_simp
      exact hK _ _ rfl (Below.refl _ _) trivial
    · -- 4
      intro li a1 W2 hA K hK
      have e204 : a1.tmps.getD 204 undef = .tuple #[.slice none 0 0, .int .i64 0, .int .i64 2] := hA.val 3 204 (by kernel_rfl) (by kernel_rfl)
      refine opStep none 0 rfl rfl (fun c hc => by cases hc) ?_
      go_simp
      exact hK _ _ rfl (Below.refl _ _) trivial
    · -- 5
      intro li a1 W2 hA K hK
      have e204 : a1.tmps.getD 204 undef = .tuple #[.slice none 0 0, .int .i64 0, .int .i64 2] := hA.val 3 204 (by kernel_rfl) (by kernel_rfl)
      refine opStep none 0 rfl rfl (fun c hc => by cases hc) ?_
      go_simp
      exact hK _ _ rfl (Below.refl _ _) trivial
    · -- 6
      intro li a1 W2 hA K hK
      have e204 : a1.tmps.getD 204 undef = .tuple #[.slice none 0 0, .int .i64 0, .int .i64 2] := hA.val 3 204 (by kernel_rfl) (by kernel_rfl)
      refine opStep none 0 rfl rfl (fun c hc => by cases hc) ?_
      go_simp
      exact hK _ _ rfl (Below.refl _ _) trivial
    · -- 7
      intro li a1 W2 hA K hK
      have e208 : a1.tmps.getD 208 undef = .slice none 0 0 := hA.val 4 208 (by kernel_rfl) (by kernel_rfl)
      refine opStep none 0 rfl rfl (fun c hc => by cases hc) ?_
      go_simp
      exact hK _ _ rfl (Below.refl _ _) trivial
    · -- 8
      intro li a1 W2 hA K hK
      have e209 : a1.tmps.getD 209 undef = .int .i64 0 := hA.val 5 209 (by kernel_rfl) (by kernel_rfl)
      refine opStep none 0 rfl rfl (fun c hc => by cases hc) ?_
      go_simp
      exact hK _ _ rfl (Below.refl _ _) trivial
  intro li a1 W2 hD
  have e18 : a1.tmps.getD 18 undef = .slice none 0 0 := hD.val 7 18 (by kernel_rfl) (by kernel_rfl)
  have e19 : a1.tmps.getD 19 undef = .int .i64 0 := hD.val 8 19 (by kernel_rfl) (by kernel_rfl)
  have e210 : a1.tmps.getD 210 undef = .int .i64 2 := hD.val 6 210 (by kernel_rfl) (by kernel_rfl)
  have hkp2 := hD.keeps (ds := [205, 206, 207, 204, 208, 209, 210, 18, 19, 20]) (by kernel_rfl)
  have hds := hD.size
  have hsz9 : a1.tmps.size = 276 := hD.size
  have hdd := hD.defers
  have hst := hD.st
  refine tail_val (i := 9) (v := .int .i64 2) (W' := W2) none 0 rfl rfl rfl (fun c hc => by cases hc) (by go_simp) (by rw [hsz9]; decide) ?_
  intro a3 s3 d3 f3 o3
  have hkp3 := keeps_then hkp2 o3 (by decide)
  have e := act_mix [205, 206, 207, 204, 208, 209, 210, 18, 19, 20] (s3.trans (hds)) (d3.trans (hdd)) (fun i _ hc => hkp3 i hc)
  have hgg0 : (fun i => a3.tmps.getD i undef) 20 = .int .i64 2 := f3
  have hgk18 : (fun i => a3.tmps.getD i undef) 18 = .slice none 0 0 := (o3 18 (by decide)).trans (e18)
  have hgk19 : (fun i => a3.tmps.getD i undef) 19 = .int .i64 0 := (o3 19 (by decide)).trans (e19)
  generalize (fun i => a3.tmps.getD i undef) = g' at e hgg0 hgk18 hgk19
  refine wpListIn_nil ?_
  rw [e]
  clear e hD hkp2 hkp3 hds hdd hsz9 s3 d3 f3 o3 e210 e18 e19
  simp only [mix, List.contains_cons, List.contains_nil, Nat.reduceAdd, Nat.reduceBEq, Bool.or_false, Bool.or_true, cond_true, cond_false, hgg0, hgk18, hgk19]
  clear hgg0 hgk18 hgk19
  have hb := hst
  clear hst
  have HB33 := hid (HB32.out.trans (hb.mono HB32.out.size))
  have XB133 := hid (XB132.out.keep hb)
  have XB233 := hid (XB232.out.keep hb)
  have XB333 := hid (XB332.out.keep hb)
  have XB433 := hid (XB432.out.keep hb)
  have XB533 := hid (XB532.out.keep hb)
  have XB633 := hid (XB632.out.keep hb)
  have M1_33 := hid (M1_32.out.at_ hb)
  have M2_33 := hid (M2_32.out.at_ hb)
  have M3_33 := hid (M3_32.out.at_ hb)
  have M4_33 := hid (M4_32.out.at_ hb)
  have M5_33 := hid (M5_32.out.at_ hb)
  have M6_33 := hid (M6_32.out.at_ hb)
  clear hb
  generalize W2 = w33 at *
  obtain ⟨x10, x11, x12, x13⟩ := XB133.out.c4
  obtain ⟨x20, x21, x22, x23⟩ := XB233.out.c4
  obtain ⟨x30, x31, x32, x33⟩ := XB333.out.c4
  obtain ⟨x40, x41, x42, x43⟩ := XB433.out.c4
  obtain ⟨x50, x51, x52, x53⟩ := XB533.out.c4
  obtain ⟨x60, x61, x62, x63⟩ := XB633.out.c4
  have K34 := hid (short_carry M1_33.out)
  go_wp2_with fail
  refine K34.out.mono ?_
  rintro e w34 ⟨p9, q9, rfl, hb⟩
  have HB34 := hid (HB33.out.trans (hb.mono HB33.out.size))
  have XB134 := hid (XB133.out.keep hb)
  have XB234 := hid (XB233.out.keep hb)
  have XB334 := hid (XB333.out.keep hb)
  have XB434 := hid (XB433.out.keep hb)
  have XB534 := hid (XB533.out.keep hb)
  have XB634 := hid (XB633.out.keep hb)
  have M6_34 := hid (M6_33.out.at_ hb)
  have M5_34 := hid (M5_33.out.at_ hb)
  have M4_34 := hid (M4_33.out.at_ hb)
  have M3_34 := hid (M3_33.out.at_ hb)
  have M2_34 := hid (M2_33.out.at_ hb)
  have M1_34 := hid (M1_33.out.at_ hb)
  clear hb K34 x10 x11 x12 x13 x20 x21 x22 x23 x30 x31 x32 x33 x40 x41 x42 x43 x50 x51 x52 x53 x60 x61 x62 x63
  obtain ⟨x10, x11, x12, x13⟩ := XB134.out.c4
  obtain ⟨x20, x21, x22, x23⟩ := XB234.out.c4
  obtain ⟨x30, x31, x32, x33⟩ := XB334.out.c4
  obtain ⟨x40, x41, x42, x43⟩ := XB434.out.c4
  obtain ⟨x50, x51, x52, x53⟩ := XB534.out.c4
  obtain ⟨x60, x61, x62, x63⟩ := XB634.out.c4
  have K35 := hid (far_chk M2_34.out)
  go_wp2_with fail
  refine K35.out.mono ?_
  rintro e w35 ⟨rfl, hb⟩
  have HB35 := hid (HB34.out.trans (hb.mono HB34.out.size))
  have XB135 := hid (XB134.out.keep hb)
  have XB235 := hid (XB234.out.keep hb)
  have XB335 := hid (XB334.out.keep hb)
  have XB435 := hid (XB434.out.keep hb)
  have XB535 := hid (XB534.out.keep hb)
  have XB635 := hid (XB634.out.keep hb)
  have M6_35 := hid (M6_34.out.at_ hb)
  have M5_35 := hid (M5_34.out.at_ hb)
  have M4_35 := hid (M4_34.out.at_ hb)
  have M3_35 := hid (M3_34.out.at_ hb)
  have M2_35 := hid (M2_34.out.at_ hb)
  have M1_35 := hid (M1_34.out.at_ hb)
  clear hb K35 x10 x11 x12 x13 x20 x21 x22 x23 x30 x31 x32 x33 x40 x41 x42 x43 x50 x51 x52 x53 x60 x61 x62 x63
  obtain ⟨x10, x11, x12, x13⟩ := XB135.out.c4
  obtain ⟨x20, x21, x22, x23⟩ := XB235.out.c4
  obtain ⟨x30, x31, x32, x33⟩ := XB335.out.c4
  obtain ⟨x40, x41, x42, x43⟩ := XB435.out.c4
  obtain ⟨x50, x51, x52, x53⟩ := XB535.out.c4
  obtain ⟨x60, x61, x62, x63⟩ := XB635.out.c4
  have K36 := hid (none_chk M3_35.out)
  go_wp2_with fail
  refine K36.out.mono ?_
  rintro e w36 ⟨rfl, hb⟩
  have HB36 := hid (HB35.out.trans (hb.mono HB35.out.size))
  have XB136 := hid (XB135.out.keep hb)
  have XB236 := hid (XB235.out.keep hb)
  have XB336 := hid (XB335.out.keep hb)
  have XB436 := hid (XB435.out.keep hb)
  have XB536 := hid (XB535.out.keep hb)
  have XB636 := hid (XB635.out.keep hb)
  have M6_36 := hid (M6_35.out.at_ hb)
  have M5_36 := hid (M5_35.out.at_ hb)
  have M4_36 := hid (M4_35.out.at_ hb)
  have M3_36 := hid (M3_35.out.at_ hb)
  have M2_36 := hid (M2_35.out.at_ hb)
  have M1_36 := hid (M1_35.out.at_ hb)
  clear hb K36 x10 x11 x12 x13 x20 x21 x22 x23 x30 x31 x32 x33 x40 x41 x42 x43 x50 x51 x52 x53 x60 x61 x62 x63
  obtain ⟨x10, x11, x12, x13⟩ := XB136.out.c4
  obtain ⟨x20, x21, x22, x23⟩ := XB236.out.c4
  obtain ⟨x30, x31, x32, x33⟩ := XB336.out.c4
  obtain ⟨x40, x41, x42, x43⟩ := XB436.out.c4
  obtain ⟨x50, x51, x52, x53⟩ := XB536.out.c4
  obtain ⟨x60, x61, x62, x63⟩ := XB636.out.c4
  have K37 := hid (loop_chk M4_36.out)
  go_wp2_with fail
  refine K37.out.mono ?_
  rintro e w37 ⟨rfl, hb⟩
  have HB37 := hid (HB36.out.trans (hb.mono HB36.out.size))
  have XB137 := hid (XB136.out.keep hb)
  have XB237 := hid (XB236.out.keep hb)
  have XB337 := hid (XB336.out.keep hb)
  have XB437 := hid (XB436.out.keep hb)
  have XB537 := hid (XB536.out.keep hb)
  have XB637 := hid (XB636.out.keep hb)
  have M6_37 := hid (M6_36.out.at_ hb)
  have M5_37 := hid (M5_36.out.at_ hb)
  have M4_37 := hid (M4_36.out.at_ hb)
  have M3_37 := hid (M3_36.out.at_ hb)
  have M2_37 := hid (M2_36.out.at_ hb)
  have M1_37 := hid (M1_36.out.at_ hb)
  clear hb K37 x10 x11 x12 x13 x20 x21 x22 x23 x30 x31 x32 x33 x40 x41 x42 x43 x50 x51 x52 x53 x60 x61 x62 x63
  obtain ⟨x10, x11, x12, x13⟩ := XB137.out.c4
  obtain ⟨x20, x21, x22, x23⟩ := XB237.out.c4
  obtain ⟨x30, x31, x32, x33⟩ := XB337.out.c4
  obtain ⟨x40, x41, x42, x43⟩ := XB437.out.c4
  obtain ⟨x50, x51, x52, x53⟩ := XB537.out.c4
  obtain ⟨x60, x61, x62, x63⟩ := XB637.out.c4
  have K38 := hid (many_chk M5_37.out)
  go_wp2_with fail
  refine K38.out.mono ?_
  rintro e w38 ⟨rfl, hb⟩
  have HB38 := hid (HB37.out.trans (hb.mono HB37.out.size))
  have XB138 := hid (XB137.out.keep hb)
  have XB238 := hid (XB237.out.keep hb)
  have XB338 := hid (XB337.out.keep hb)
  have XB438 := hid (XB437.out.keep hb)
  have XB538 := hid (XB537.out.keep hb)
  have XB638 := hid (XB637.out.keep hb)
  have M6_38 := hid (M6_37.out.at_ hb)
  have M5_38 := hid (M5_37.out.at_ hb)
  have M4_38 := hid (M4_37.out.at_ hb)
  have M3_38 := hid (M3_37.out.at_ hb)
  have M2_38 := hid (M2_37.out.at_ hb)
  have M1_38 := hid (M1_37.out.at_ hb)
  clear hb K38 x10 x11 x12 x13 x20 x21 x22 x23 x30 x31 x32 x33 x40 x41 x42 x43 x50 x51 x52 x53 x60 x61 x62 x63
  obtain ⟨x10, x11, x12, x13⟩ := XB138.out.c4
  obtain ⟨x20, x21, x22, x23⟩ := XB238.out.c4
  obtain ⟨x30, x31, x32, x33⟩ := XB338.out.c4
  obtain ⟨x40, x41, x42, x43⟩ := XB438.out.c4
  obtain ⟨x50, x51, x52, x53⟩ := XB538.out.c4
  obtain ⟨x60, x61, x62, x63⟩ := XB638.out.c4
  have K39 := hid (old_chk M6_38.out)
  go_wp2_with fail
  refine K39.out.mono ?_
  rintro e w39 ⟨rfl, hb⟩
  have HB39 := hid (HB38.out.trans (hb.mono HB38.out.size))
  have XB139 := hid (XB138.out.keep hb)
  have XB239 := hid (XB238.out.keep hb)
  have XB339 := hid (XB338.out.keep hb)
  have XB439 := hid (XB438.out.keep hb)
  have XB539 := hid (XB538.out.keep hb)
  have XB639 := hid (XB638.out.keep hb)
  have M6_39 := hid (M6_38.out.at_ hb)
  have M5_39 := hid (M5_38.out.at_ hb)
  have M4_39 := hid (M4_38.out.at_ hb)
  have M3_39 := hid (M3_38.out.at_ hb)
  have M2_39 := hid (M2_38.out.at_ hb)
  have M1_39 := hid (M1_38.out.at_ hb)
  clear hb K39 x10 x11 x12 x13 x20 x21 x22 x23 x30 x31 x32 x33 x40 x41 x42 x43 x50 x51 x52 x53 x60 x61 x62 x63
  obtain ⟨x10, x11, x12, x13⟩ := XB139.out.c4
  obtain ⟨x20, x21, x22, x23⟩ := XB239.out.c4
  obtain ⟨x30, x31, x32, x33⟩ := XB339.out.c4
  obtain ⟨x40, x41, x42, x43⟩ := XB439.out.c4
  obtain ⟨x50, x51, x52, x53⟩ := XB539.out.c4
  obtain ⟨x60, x61, x62, x63⟩ := XB639.out.c4
  have K40 := hid (zero_chk w39)
  go_wp2_with fail
  refine K40.out.mono ?_
  rintro e w40 ⟨rfl, hb⟩
  have HB40 := hid (HB39.out.trans (hb.mono HB39.out.size))
  have XB140 := hid (XB139.out.keep hb)
  have XB240 := hid (XB239.out.keep hb)
  have XB340 := hid (XB339.out.keep hb)
  have XB440 := hid (XB439.out.keep hb)
  have XB540 := hid (XB539.out.keep hb)
  have XB640 := hid (XB639.out.keep hb)
  have M6_40 := hid (M6_39.out.at_ hb)
  have M5_40 := hid (M5_39.out.at_ hb)
  have M4_40 := hid (M4_39.out.at_ hb)
  have M3_40 := hid (M3_39.out.at_ hb)
  have M2_40 := hid (M2_39.out.at_ hb)
  have M1_40 := hid (M1_39.out.at_ hb)
  clear hb K40 x10 x11 x12 x13 x20 x21 x22 x23 x30 x31 x32 x33 x40 x41 x42 x43 x50 x51 x52 x53 x60 x61 x62 x63
  obtain ⟨x10, x11, x12, x13⟩ := XB140.out.c4
  obtain ⟨x20, x21, x22, x23⟩ := XB240.out.c4
  obtain ⟨x30, x31, x32, x33⟩ := XB340.out.c4
  obtain ⟨x40, x41, x42, x43⟩ := XB440.out.c4
  obtain ⟨x50, x51, x52, x53⟩ := XB540.out.c4
  obtain ⟨x60, x61, x62, x63⟩ := XB640.out.c4
  have K41 := hid (awake_any w40)
  go_wp2_with fail
  refine K41.out.mono ?_
  rintro e w41 ⟨rfl, hb⟩
  have HB41 := hid (HB40.out.trans (hb.mono HB40.out.size))
  have XB141 := hid (XB140.out.keep hb)
  have XB241 := hid (XB240.out.keep hb)
  have XB341 := hid (XB340.out.keep hb)
  have XB441 := hid (XB440.out.keep hb)
  have XB541 := hid (XB540.out.keep hb)
  have XB641 := hid (XB640.out.keep hb)
  have M6_41 := hid (M6_40.out.at_ hb)
  have M5_41 := hid (M5_40.out.at_ hb)
  have M4_41 := hid (M4_40.out.at_ hb)
  have M3_41 := hid (M3_40.out.at_ hb)
  have M2_41 := hid (M2_40.out.at_ hb)
  have M1_41 := hid (M1_40.out.at_ hb)
  clear hb K41 x10 x11 x12 x13 x20 x21 x22 x23 x30 x31 x32 x33 x40 x41 x42 x43 x50 x51 x52 x53 x60 x61 x62 x63
  obtain ⟨x10, x11, x12, x13⟩ := XB141.out.c4
  obtain ⟨x20, x21, x22, x23⟩ := XB241.out.c4
  obtain ⟨x30, x31, x32, x33⟩ := XB341.out.c4
  obtain ⟨x40, x41, x42, x43⟩ := XB441.out.c4
  obtain ⟨x50, x51, x52, x53⟩ := XB541.out.c4
  obtain ⟨x60, x61, x62, x63⟩ := XB641.out.c4
  clear x10 x11 x12 x13 x20 x21 x22 x23 x30 x31 x32 x33 x40 x41 x42 x43 x50 x51 x52 x53 x60 x61 x62 x63
  go_wp2
  go_ret
  exact ⟨rfl, HB41.out⟩


open Go.ChangeShapes Go.WideShapes Go.ChangeAt in
set_option maxRecDepth 100000 in
theorem namess_lifted (os : Os) (started : os.Started) (H : Type) (enc : TypeId × Value → H) :
    ReturnsInHanded {} Try.checked os 15 .any (Rows.borderNamesSpec.pre6 enc Try.prog Try.f15 Rows.borderNamesRow.domain false) (Rows.borderNamesSpec.post enc Try.prog Try.f15 false true false false) := by
  refine returnsInHanded_of_change (C := Try.checked) own started (by kernel_rfl) Try.func15
    (ChangeSpec.witness6 (enc := enc) (C := Try.checked) false ⟨#[], #[], []⟩ 8 (by kernel_rfl) (by kernel_rfl) (by kernel_rfl) (by kernel_rfl)) ?_
  intro W base args ds gs before hval0 hW hcnd _
  have hval : ∀ (j : Nat) t v, Try.f15.params[j]? = some t → args[j]? = some v → Value.okWide Try.prog W .any base t v := hval0
  have hW' := hW
  obtain ⟨p, q, hA0, hV, rfl, hfz, hnd⟩ := hW
  have hA : DataW.TrodAll enc Try.prog W 0 (fun _ => true) true Try.f15.params.toList args.toList ds p := hA0
  rw [Try.params15] at hA hval
  obtain ⟨hvs0, rfl, rfl⟩ := trodAll_nil hA
  obtain rfl : args = #[] := by cases args; simp_all
  obtain ⟨rfl, rfl⟩ := trodVars_none hV
  refine (names_any9 W).mono fun e W' ⟨he, hb⟩ => ⟨_, he, ?_⟩
  exact law_post laid_out rfl rfl (by kernel_rfl) hW' rfl hb

theorem namess_over : Rows.borderNamesRow.holds Try.pinned (OpenSpec.ofChange Rows.borderNamesSpec) :=
  OpenClaim.holds_of_wide 15 Try.f15 rfl rfl rfl rfl rfl rfl rfl ⟨rfl, rfl, rfl, rfl, rfl⟩ rfl rfl rfl rfl rfl (by kernel_rfl) Try.func15 (by kernel_rfl)
    (of_decide_eq_true (by kernel_rfl)) (by unfold Func.isWrapper; first | (rw [if_pos (by decide +kernel)]; kernel_rfl) | (rw [if_neg (by decide +kernel)]; exact ⟨rfl, rfl⟩))
    (fun os started H enc _ => namess_lifted os started H enc)
/-- the statement -/
theorem border_names : Rows.BorderNamesSaid := namess_over
#print axioms border_names
end Go.Proofs.Ytoeabajigfdkaaa
