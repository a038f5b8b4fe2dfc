/- The walks and the plain laws of this part of the program, part 25: what each computes. Conditions stand at each theorem. -/
import Derived.Test.YtoeabajigfdkaaaG11
import Derived.Test.YtoeabajigfdkaaaG16
import Derived.Test.YtoeabajigfdkaaaG18
import Derived.Test.YtoeabajigfdkaaaG20
/- The chapter's map and maps that differ from it by a little: what the calls of the closed statement hand back. No condition. -/
namespace Go.Proofs.Ytoeabajigfdkaaa
open Go.RowKit Go.Shelf

theorem nam_str : strL townM = [(50, 70), (30, 50), (30, 60), (0, 30)] := by decide +kernel
theorem nam_apl : apL townM = [0] := by decide +kernel
theorem nam_ask1 : askE townM 40 120 = 0 := by decide +kernel
theorem nam_ask2 : askE townM 100 100 = 0 := by decide +kernel
theorem nam_ask3 : askE townM 5 4 = 2 := by decide +kernel
theorem nam_ask4 : askE townM 0 40001 = 2 := by decide +kernel
theorem nam_ask5 : askE townM 40 109 = 0 := by decide +kernel
theorem nam_ask6 : askE townM 0 200 = 0 := by decide +kernel
theorem nam_best1 : (bestB townM 40 120).map (fun p => (p.1, lst townM p.2)) = some (1, [0, 1, 1, 1]) := by decide +kernel
theorem nam_best2 : (bestB townM 100 100).map (fun p => (p.1, lst townM p.2)) = none := by decide +kernel
theorem nam_is1 : isB townM [0, 1, 1, 1] 40 120 1 = true := by decide +kernel
theorem nam_is2 : isB townM [0, 1, 1, 1] 40 120 0 = false := by decide +kernel
theorem nam_is3 : isB townM [0, 1, 1, 1] 40 109 1 = false := by decide +kernel
theorem nam_is4 : isB townM [0, 1, 1, 0] 0 200 1 = false := by decide +kernel
theorem nam_tr1 : truB townM [60, 40, 50, 10] = true := by decide +kernel
theorem nam_tr2 : truB townM [60, 40, 50, 11] = false := by decide +kernel
theorem nam_tr3 : truB townM [40, 60, 50, 10] = false := by decide +kernel
def shortM : MapD := ⟨[121, 60], 2, townM.ss, townM.js⟩
def farM : MapD := ⟨[100, 60], 2, [⟨0, 2, 3, 40, 70⟩, ⟨0, 1, 2, 30, 50⟩, ⟨1, 1, 5, 20, 60⟩, ⟨1, 0, 1, 0, 30⟩], townM.js⟩
def noneM : MapD := ⟨[100, 60], 2, [⟨0, 0, 3, 40, 70⟩, ⟨0, 1, 2, 30, 50⟩, ⟨1, 1, 0, 20, 60⟩, ⟨1, 0, 0, 0, 30⟩], townM.js⟩
def loopM : MapD := ⟨[100, 60], 2, townM.ss, [⟨0, 0⟩, ⟨1, 2⟩, ⟨2, 3⟩]⟩
def manyM : MapD := ⟨[100, 60], 2, List.replicate 9 ⟨0, 0, 0, 0, 0⟩, townM.js⟩
def oldM : MapD := ⟨[100, 60, 5], 2, townM.ss, townM.js⟩
def zeroM : MapD := ⟨[], 0, [], []⟩
theorem nam_short : cstM shortM = 9 ∧ askE shortM 5 4 = 2 ∧ chkM shortM = 0 := by decide +kernel
theorem nam_chk : chkM farM = 1 ∧ chkM noneM = 1 ∧ chkM loopM = 1 ∧ chkM manyM = 3 ∧ chkM oldM = 1 ∧ chkM zeroM = 1 := by decide +kernel
set_option maxRecDepth 100000 in
theorem streets_town {w : World} {g1 g2 g3 : Nat} (h : TownAt g1 g2 g3 w) : Calls Try.prog 45 #[.agg #[.slice (some ⟨g1, 0, none⟩) 2 2, .int .i64 2, .slice (some ⟨g2, 0, none⟩) 4 4, .slice (some ⟨g3, 0, none⟩) 3 3]] w fun e w' => ∃ a c, e = .returned (.tuple #[.slice (some a) 4 c, .int .i64 0]) ∧ IsRngs w' w'.heap.size (some a) [(50, 70), (30, 50), (30, 60), (0, 30)] ∧ Below w.heap.size w w' := by
  have K := streets_good (w := w) h.min town_cst
  unfold GivesR0 at K
  rw [nam_str] at K
  refine K.mono fun e w' ⟨y, h1, h2, h3⟩ => ?_
  obtain ⟨a, ea, _⟩ := h2.1 0 _ rfl
  refine ⟨a, y.2, ?_, ?_, h3⟩
  · rw [h1, ea]; rfl
  · rw [← ea]; exact h2.1
theorem apart_town {w : World} {g1 g2 g3 : Nat} (h : TownAt g1 g2 g3 w) : Calls Try.prog 32 #[.agg #[.slice (some ⟨g1, 0, none⟩) 2 2, .int .i64 2, .slice (some ⟨g2, 0, none⟩) 4 4, .slice (some ⟨g3, 0, none⟩) 3 3]] w fun e w' => ∃ y : Option Addr × Nat, e = .returned (.tuple #[.slice y.1 1 y.2, .int .i64 0]) ∧ IntsAt y [0] w' ∧ Below w.heap.size w w' := by
  have K := apart_good (w := w) h.min town_chk
  unfold GivesI0 at K
  rw [nam_apl] at K
  exact K
set_option maxRecDepth 100000 in
theorem best_town1 {w : World} {g1 g2 g3 : Nat} (h : TownAt g1 g2 g3 w) : Calls Try.prog 29 #[.agg #[.slice (some ⟨g1, 0, none⟩) 2 2, .int .i64 2, .slice (some ⟨g2, 0, none⟩) 4 4, .slice (some ⟨g3, 0, none⟩) 3 3], .agg #[.int .i64 40, .int .i64 120]] w fun e w' => ∃ y : Option Addr × Nat, e = .returned (.tuple #[.slice y.1 4 y.2, .int .i64 1, .int .i64 0]) ∧ IntsAt y [0, 1, 1, 1] w' ∧ Below w.heap.size w w' := by
  cases hb : bestB townM 40 120 with
  | none => have q := nam_best1; rw [hb] at q; cases q
  | some p =>
    obtain ⟨j, l⟩ := p
    have q := nam_best1
    rw [hb] at q
    simp only [Option.map_some, Option.some.injEq, Prod.mk.injEq] at q
    obtain ⟨rfl, q2⟩ := q
    have K := (bbest_ok townM _ _ _ _ _ _ 40 120 w h.min nam_ask1)
    refine K.mono fun e w' h' => ?_
    unfold GivesBest at h'
    rw [hb] at h'
    obtain ⟨hb0, A, c, he, h1, h2, h3⟩ := h'
    rw [q2] at he h1 h3
    exact ⟨(A, c), he, ⟨h3, h1, h2⟩, hb0⟩
set_option maxRecDepth 100000 in
theorem best_town2 {w : World} {g1 g2 g3 : Nat} (h : TownAt g1 g2 g3 w) : Calls Try.prog 29 #[.agg #[.slice (some ⟨g1, 0, none⟩) 2 2, .int .i64 2, .slice (some ⟨g2, 0, none⟩) 4 4, .slice (some ⟨g3, 0, none⟩) 3 3], .agg #[.int .i64 100, .int .i64 100]] w fun e w' => e = .returned (.tuple #[.slice none 0 0, .int .i64 0, .int .i64 7]) ∧ Below w.heap.size w w' := by
  refine (bbest_ok townM _ _ _ _ _ _ 100 100 w h.min nam_ask2).mono fun e w' h' => ?_
  unfold GivesBest at h'
  have q := nam_best2
  cases hb : bestB townM 100 100 with
  | none =>
    rw [hb] at h'
    exact ⟨h'.2, h'.1⟩
  | some p =>
    rw [hb] at q
    cases q
set_option maxRecDepth 100000 in
theorem best_town3 {w : World} {g1 g2 g3 : Nat} {lo hi : Int} (h : TownAt g1 g2 g3 w) (ha : askE townM lo hi = 2) : Calls Try.prog 29 #[.agg #[.slice (some ⟨g1, 0, none⟩) 2 2, .int .i64 2, .slice (some ⟨g2, 0, none⟩) 4 4, .slice (some ⟨g3, 0, none⟩) 3 3], .agg #[.int .i64 lo, .int .i64 hi]] w fun e w' => e = .returned (.tuple #[.slice none 0 0, .int .i64 0, .int .i64 2]) ∧ Below w.heap.size w w' := by
  have K := bbest_bad townM _ _ _ _ _ _ lo hi w h.min (by rw [ha]; decide)
  rw [ha] at K
  exact K
theorem truth_town {w : World} {g1 g2 g3 : Nat} {g : Nat} {xs : List Int} {b : Bool} (h : TownAt g1 g2 g3 w) (hx : Blk w g 3 (xs.map (Value.int .i64)).toArray) (hl : xs.length = 4) (hb : truB townM xs = b) : Calls Try.prog 46 #[.agg #[.slice (some ⟨g1, 0, none⟩) 2 2, .int .i64 2, .slice (some ⟨g2, 0, none⟩) 4 4, .slice (some ⟨g3, 0, none⟩) 3 3], .slice (some ⟨g, 0, none⟩) 4 4] w fun e w' => e = .returned (.bool b) ∧ Below w.heap.size w w' := by
  have K := prove_truth_any townM _ _ _ _ _ _ (some ⟨g, 0, none⟩) 4 xs w h.min (ints_lit hx) (by omega) (by decide)
  rw [hl, hb] at K
  exact K
set_option maxRecDepth 100000 in
theorem borders_town {w : World} {g1 g2 g3 : Nat} {g : Nat} {xs : List Int} {lo hi mv : Int} {b : Bool} (h : TownAt g1 g2 g3 w) (hx : Blk w g 3 (xs.map (Value.int .i64)).toArray) (hl : xs.length = 4) (ha : askE townM lo hi = 0) (hb : isB townM xs lo hi mv = b) : Calls Try.prog 37 #[.agg #[.slice (some ⟨g1, 0, none⟩) 2 2, .int .i64 2, .slice (some ⟨g2, 0, none⟩) 4 4, .slice (some ⟨g3, 0, none⟩) 3 3], .slice (some ⟨g, 0, none⟩) 4 4, .agg #[.int .i64 lo, .int .i64 hi], .int .i64 mv] w fun e w' => e = .returned (.bool b) ∧ Below w.heap.size w w' := by
  have K := pborders_ok townM _ _ _ _ _ _ (some ⟨g, 0, none⟩) 4 xs lo hi mv w h.min (ints_lit hx) (by omega) (by decide) ha
  rw [hl, show (areB townM xs && (decide (movN townM (fnO xs) townM.ss.length ≤ mv) && rightB townM (fnO xs) lo hi)) = b from hb] at K
  exact K
theorem ints_town {w : World} {y : Option Addr × Nat} {g n : Nat} {xs : List Int} (h : IntsAt y xs w) (hx : Blk w g 3 (xs.map (Value.int .i64)).toArray) (hl : xs.length = n) (hn : n ≤ 1000) : Calls Try.prog 23 #[.slice y.1 n y.2, .slice (some ⟨g, 0, none⟩) n n] w fun e w' => e = .returned (.bool true) ∧ Below w.heap.size w w' := by
  subst hl
  exact ints_same (z := (some ⟨g, 0, none⟩, xs.length)) h ⟨ints_lit hx, Nat.le_refl _, by simp only [maxLen]; omega⟩
/-- town, with what it hands back by one name -/
def TownV (y : Nat × Nat × Nat) : Value := .agg #[.slice (some ⟨y.1, 0, none⟩) 2 2, .int .i64 2, .slice (some ⟨y.2.1, 0, none⟩) 4 4, .slice (some ⟨y.2.2, 0, none⟩) 3 3]
theorem town_y (w : World) : Calls Try.prog 54 #[] w fun e w' => ∃ y : Nat × Nat × Nat, e = .returned (.agg #[.slice (some ⟨y.1, 0, none⟩) 2 2, .int .i64 2, .slice (some ⟨y.2.1, 0, none⟩) 4 4, .slice (some ⟨y.2.2, 0, none⟩) 3 3]) ∧ (w.heap.size ≤ y.1 ∧ w.heap.size ≤ y.2.1 ∧ w.heap.size ≤ y.2.2) ∧ TownAt y.1 y.2.1 y.2.2 w' ∧ Below w.heap.size w w' :=
  (town_any w).mono fun _ _ ⟨g1, g2, g3, h1, h2, h3, h4, h5, h6⟩ => ⟨(g1, g2, g3), h1, ⟨h2, h3, h4⟩, h5, h6⟩
theorem town_ne {g1 g2 g3 : Nat} {w : World} (h : TownAt g1 g2 g3 w) : g1 ≠ g2 ∧ g1 ≠ g3 ∧ g2 ≠ g3 := by
  refine ⟨fun e => ?_, fun e => ?_, fun e => ?_⟩
  · have h1 := h.1
    rw [e] at h1
    have h2 := h1.symm.trans h.2.1
    injection h2 with h2
    injection h2 with _ h2 _
    exact absurd h2 (by decide)
  · have h1 := h.1
    rw [e] at h1
    have h2 := h1.symm.trans h.2.2
    injection h2 with h2
    injection h2 with _ h2 _
    exact absurd h2 (by decide)
  · have h1 := h.2.1
    rw [e] at h1
    have h2 := h1.symm.trans h.2.2
    injection h2 with h2
    injection h2 with _ h2 _
    exact absurd h2 (by decide)
def farS : Array Value := townS.setIfInBounds 1 (.int .i64 2)
def noneS1 : Array Value := townS.setIfInBounds 12 (.int .i64 0)
def noneS : Array Value := noneS1.setIfInBounds 17 (.int .i64 0)
def loopJ : Array Value := townJ.setIfInBounds 1 (.int .i64 0)
def shortO : Array Value := townO.setIfInBounds 0 (.int .i64 121)
def manyS : Array Value := Array.replicate 45 (.int .i64 0)
set_option maxRecDepth 100000 in
theorem make_nine (w : World) : (Instr.makeSlice 31 (.int .i64 9) (.int .i64 9)).run Try.prog w = .ok (.slice (some ⟨w.heap.size, 0, none⟩) 9 9) (w.alloc (.cells manyS 89)) := by
  obtain ⟨i0, hi0, hz0, hz1, hz2⟩ := info_parts bstt_info
  have h := run_make (P := Try.prog) w 31 89 i0 _ Try.underlying31 hi0 hz0 .i64 .i64 9 9 (by decide) (by decide) (by rw [hz2]; decide) (by decide)
  rw [hz1, show madeCells (Value.agg #[.int .i64 0, .int .i64 0, .int .i64 0, .int .i64 0, .int .i64 0]).cells ((9 : Int).toNat * 5) = manyS by kernel_rfl] at h
  exact h
theorem short_min {g1 g2 g3 : Nat} {w : World} (h1 : Blk w g1 3 shortO) (h2 : Blk w g2 89 townS) (h3 : Blk w g3 90 townJ) : MIn shortM (some ⟨g1, 0, none⟩) 2 (some ⟨g2, 0, none⟩) 4 (some ⟨g3, 0, none⟩) 3 w :=
  ⟨ints_of h1 fun k x hk => by
    match k, hk with
    | 0, hk => cases hk; rfl
    | 1, hk => cases hk; rfl
    | k + 2, hk => simp [shortM] at hk, stts_of h2 town_s, jns_of h3 town_j, by decide, by decide, by decide, by decide, by decide, by decide⟩
theorem far_min {g1 g2 g3 : Nat} {w : World} (h1 : Blk w g1 3 townO) (h2 : Blk w g2 89 farS) (h3 : Blk w g3 90 townJ) : MIn farM (some ⟨g1, 0, none⟩) 2 (some ⟨g2, 0, none⟩) 4 (some ⟨g3, 0, none⟩) 3 w :=
  ⟨ints_of h1 town_o, stts_of h2 fun k s hk => by
    match k, hk with
    | 0, hk => cases hk; exact ⟨rfl, rfl, rfl, rfl, rfl⟩
    | 1, hk => cases hk; exact ⟨rfl, rfl, rfl, rfl, rfl⟩
    | 2, hk => cases hk; exact ⟨rfl, rfl, rfl, rfl, rfl⟩
    | 3, hk => cases hk; exact ⟨rfl, rfl, rfl, rfl, rfl⟩
    | k + 4, hk => simp [farM] at hk, jns_of h3 town_j, by decide, by decide, by decide, by decide, by decide, by decide⟩
theorem none_min {g1 g2 g3 : Nat} {w : World} (h1 : Blk w g1 3 townO) (h2 : Blk w g2 89 noneS) (h3 : Blk w g3 90 townJ) : MIn noneM (some ⟨g1, 0, none⟩) 2 (some ⟨g2, 0, none⟩) 4 (some ⟨g3, 0, none⟩) 3 w :=
  ⟨ints_of h1 town_o, stts_of h2 fun k s hk => by
    match k, hk with
    | 0, hk => cases hk; exact ⟨rfl, rfl, rfl, rfl, rfl⟩
    | 1, hk => cases hk; exact ⟨rfl, rfl, rfl, rfl, rfl⟩
    | 2, hk => cases hk; exact ⟨rfl, rfl, rfl, rfl, rfl⟩
    | 3, hk => cases hk; exact ⟨rfl, rfl, rfl, rfl, rfl⟩
    | k + 4, hk => simp [noneM] at hk, jns_of h3 town_j, by decide, by decide, by decide, by decide, by decide, by decide⟩
theorem loop_min {g1 g2 g3 : Nat} {w : World} (h1 : Blk w g1 3 townO) (h2 : Blk w g2 89 townS) (h3 : Blk w g3 90 loopJ) : MIn loopM (some ⟨g1, 0, none⟩) 2 (some ⟨g2, 0, none⟩) 4 (some ⟨g3, 0, none⟩) 3 w :=
  ⟨ints_of h1 town_o, stts_of h2 town_s, jns_of h3 fun k s hk => by
    match k, hk with
    | 0, hk => cases hk; exact ⟨rfl, rfl⟩
    | 1, hk => cases hk; exact ⟨rfl, rfl⟩
    | 2, hk => cases hk; exact ⟨rfl, rfl⟩
    | k + 3, hk => simp [loopM] at hk, by decide, by decide, by decide, by decide, by decide, by decide⟩
theorem many_min {g1 g2 g3 : Nat} {w : World} (h1 : Blk w g1 3 townO) (h2 : Blk w g2 89 manyS) (h3 : Blk w g3 90 townJ) : MIn manyM (some ⟨g1, 0, none⟩) 2 (some ⟨g2, 0, none⟩) 9 (some ⟨g3, 0, none⟩) 3 w :=
  ⟨ints_of h1 town_o, stts_of h2 fun k s hk => by
    have hk9 : k < 9 := by have := (List.getElem?_eq_some_iff.1 hk).1; simpa [manyM] using this
    have hs : s = ⟨0, 0, 0, 0, 0⟩ := by
      have h9 : s ∈ manyM.ss := List.mem_of_getElem? hk
      exact List.eq_of_mem_replicate h9
    subst hs
    have q : ∀ i, i < 45 → manyS[i]? = some (.int .i64 0) := fun i hi => by unfold manyS; rw [Array.getElem?_replicate, if_pos hi]
    exact ⟨q _ (by omega), q _ (by omega), q _ (by omega), q _ (by omega), q _ (by omega)⟩, jns_of h3 town_j, by decide, by decide, by decide, by decide, by decide, by decide⟩
theorem old_min {g2 g3 : Nat} {y : Option Addr × Nat} {w : World} (h1 : IntsAt y [100, 60, 5] w) (h2 : Blk w g2 89 townS) (h3 : Blk w g3 90 townJ) : MIn oldM y.1 y.2 (some ⟨g2, 0, none⟩) 4 (some ⟨g3, 0, none⟩) 3 w :=
  ⟨h1.1, stts_of h2 town_s, jns_of h3 town_j, h1.2.1, h1.2.2, by decide, by decide, by decide, by decide⟩
theorem zero_min (w : World) : MIn zeroM none 0 none 0 none 0 w :=
  ⟨fun k x hk => by simp [zeroM] at hk, fun k x hk => by simp [zeroM] at hk, fun k x hk => by simp [zeroM] at hk, by decide, by decide, by decide, by decide, by decide, by decide⟩
section
variable {g1 g2 g3 : Nat} {w : World}
theorem short_bounds (h : MIn shortM (some ⟨g1, 0, none⟩) 2 (some ⟨g2, 0, none⟩) 4 (some ⟨g3, 0, none⟩) 3 w) : Calls Try.prog 27 #[.agg #[.slice (some ⟨g1, 0, none⟩) 2 2, .int .i64 2, .slice (some ⟨g2, 0, none⟩) 4 4, .slice (some ⟨g3, 0, none⟩) 3 3]] w fun e w' => e = .returned (.tuple #[.slice none 0 0, .int .i64 9]) ∧ Below w.heap.size w w' := by
  have K := bounds_bad h (by rw [nam_short.1]; decide)
  rw [nam_short.1] at K
  exact K
theorem short_off (h : MIn shortM (some ⟨g1, 0, none⟩) 2 (some ⟨g2, 0, none⟩) 4 (some ⟨g3, 0, none⟩) 3 w) : Calls Try.prog 31 #[.agg #[.slice (some ⟨g1, 0, none⟩) 2 2, .int .i64 2, .slice (some ⟨g2, 0, none⟩) 4 4, .slice (some ⟨g3, 0, none⟩) 3 3]] w fun e w' => e = .returned (.tuple #[.slice none 0 0, .int .i64 9]) ∧ Below w.heap.size w w' := by
  have K := off_bad h (by rw [nam_short.1]; decide)
  rw [nam_short.1] at K
  exact K
theorem short_best (h : MIn shortM (some ⟨g1, 0, none⟩) 2 (some ⟨g2, 0, none⟩) 4 (some ⟨g3, 0, none⟩) 3 w) : Calls Try.prog 29 #[.agg #[.slice (some ⟨g1, 0, none⟩) 2 2, .int .i64 2, .slice (some ⟨g2, 0, none⟩) 4 4, .slice (some ⟨g3, 0, none⟩) 3 3], .agg #[.int .i64 5, .int .i64 4]] w fun e w' => e = .returned (.tuple #[.slice none 0 0, .int .i64 0, .int .i64 2]) ∧ Below w.heap.size w w' := by
  have K := bbest_bad shortM _ _ _ _ _ _ 5 4 w h (by rw [nam_short.2.1]; decide)
  rw [nam_short.2.1] at K
  exact K
theorem short_carry (h : MIn shortM (some ⟨g1, 0, none⟩) 2 (some ⟨g2, 0, none⟩) 4 (some ⟨g3, 0, none⟩) 3 w) : Calls Try.prog 20 #[.agg #[.slice (some ⟨g1, 0, none⟩) 2 2, .int .i64 2, .slice (some ⟨g2, 0, none⟩) 4 4, .slice (some ⟨g3, 0, none⟩) 3 3]] w fun e w' => ∃ p q : Option Addr × Nat, e = .returned (.tuple #[.slice p.1 4 p.2, .slice q.1 2 q.2, .int .i64 0]) ∧ Below w.heap.size w w' := by
  refine (carry_good h nam_short.2.2).mono fun e w' ⟨p, q, h1, _, _, h2⟩ => ⟨p, q, ?_, h2⟩
  rw [h1, car_len, smD_cnt]; rfl
theorem far_chk (h : MIn farM (some ⟨g1, 0, none⟩) 2 (some ⟨g2, 0, none⟩) 4 (some ⟨g3, 0, none⟩) 3 w) : Calls Try.prog 18 #[.agg #[.slice (some ⟨g1, 0, none⟩) 2 2, .int .i64 2, .slice (some ⟨g2, 0, none⟩) 4 4, .slice (some ⟨g3, 0, none⟩) 3 3]] w fun e w' => e = .returned (.int .i64 1) ∧ Below w.heap.size w w' := by
  have K := checkm_any farM _ _ _ _ _ _ w h
  rw [nam_chk.1] at K
  exact K
theorem none_chk (h : MIn noneM (some ⟨g1, 0, none⟩) 2 (some ⟨g2, 0, none⟩) 4 (some ⟨g3, 0, none⟩) 3 w) : Calls Try.prog 18 #[.agg #[.slice (some ⟨g1, 0, none⟩) 2 2, .int .i64 2, .slice (some ⟨g2, 0, none⟩) 4 4, .slice (some ⟨g3, 0, none⟩) 3 3]] w fun e w' => e = .returned (.int .i64 1) ∧ Below w.heap.size w w' := by
  have K := checkm_any noneM _ _ _ _ _ _ w h
  rw [nam_chk.2.1] at K
  exact K
theorem loop_chk (h : MIn loopM (some ⟨g1, 0, none⟩) 2 (some ⟨g2, 0, none⟩) 4 (some ⟨g3, 0, none⟩) 3 w) : Calls Try.prog 18 #[.agg #[.slice (some ⟨g1, 0, none⟩) 2 2, .int .i64 2, .slice (some ⟨g2, 0, none⟩) 4 4, .slice (some ⟨g3, 0, none⟩) 3 3]] w fun e w' => e = .returned (.int .i64 1) ∧ Below w.heap.size w w' := by
  have K := checkm_any loopM _ _ _ _ _ _ w h
  rw [nam_chk.2.2.1] at K
  exact K
theorem many_chk (h : MIn manyM (some ⟨g1, 0, none⟩) 2 (some ⟨g2, 0, none⟩) 9 (some ⟨g3, 0, none⟩) 3 w) : Calls Try.prog 18 #[.agg #[.slice (some ⟨g1, 0, none⟩) 2 2, .int .i64 2, .slice (some ⟨g2, 0, none⟩) 9 9, .slice (some ⟨g3, 0, none⟩) 3 3]] w fun e w' => e = .returned (.int .i64 3) ∧ Below w.heap.size w w' := by
  have K := checkm_any manyM _ _ _ _ _ _ w h
  rw [nam_chk.2.2.2.1] at K
  exact K
theorem old_chk {y : Option Addr × Nat} (h : MIn oldM y.1 y.2 (some ⟨g2, 0, none⟩) 4 (some ⟨g3, 0, none⟩) 3 w) : Calls Try.prog 18 #[.agg #[.slice y.1 3 y.2, .int .i64 2, .slice (some ⟨g2, 0, none⟩) 4 4, .slice (some ⟨g3, 0, none⟩) 3 3]] w fun e w' => e = .returned (.int .i64 1) ∧ Below w.heap.size w w' := by
  have K := checkm_any oldM _ _ _ _ _ _ w h
  rw [nam_chk.2.2.2.2.1] at K
  exact K
theorem zero_chk (w : World) : Calls Try.prog 18 #[.agg #[.slice none 0 0, .int .i64 0, .slice none 0 0, .slice none 0 0]] w fun e w' => e = .returned (.int .i64 1) ∧ Below w.heap.size w w' := by
  have K := checkm_any zeroM _ _ _ _ _ _ w (zero_min w)
  rw [nam_chk.2.2.2.2.2] at K
  exact K
theorem ints_off {y : Option Addr × Nat} {xs : List Int} {W : World} {g i : Nat} {cs : Array Value} {v : Value} (h : IntsAt y xs W) (hg : ∀ a, y.1 = some a → a.block ≠ g) (_hb : Blk W g 34 cs) : IntsAt y xs (W.setCell ⟨g, i, none⟩ v) :=
  ⟨fun k x hk => by
    obtain ⟨a, e, hl, hc⟩ := h.1 k x hk
    refine ⟨a, e, by simpa using hl, ?_⟩
    have he : (⟨g, i, none⟩ : Addr) ≠ a.add k := fun e2 => hg a e (by have := congrArg Addr.block e2; rw [block_of_add] at this; exact this.symm)
    exact (World.cell?_setCell_other _ _ _ _ he).trans hc, h.2⟩
set_option maxRecDepth 100000 in
/-- one more number behind two that have no room -/
theorem append_five {W : World} {g0 : Nat} (h1 : Blk W g1 3 townO) (h2 : Blk W g0 3 #[.int .i64 5]) : ∃ v' w', (Builtin.append_ #[22, 22] 22 #[.slice (some ⟨g1, 0, none⟩) 2 2, .slice (some ⟨g0, 0, none⟩) 1 1]).run Try.prog W = .ok v' w' ∧ ∃ y : Option Addr × Nat, v' = .slice y.1 3 y.2 ∧ (∀ a, y.1 = some a → a.block = W.heap.size) ∧ IntsAt y [100, 60, 5] w' ∧ Below W.heap.size W w' := by
  obtain ⟨i0, hi0, hz0, hz1, hz2⟩ := info_parts int_info
  have hown : W.ownsRow 0 3 1 (.slice (some ⟨g1, 0, none⟩) 2 2) 2 [.int .i64 100, .int .i64 60] := ⟨rfl, .inr ⟨g1, 2, townO, rfl, Nat.zero_le _, h1, Nat.le_refl _, (by simp only [maxLen]; omega), rfl, rfl⟩⟩
  have hc : ∀ (j : Nat) (x : Value), [Value.int .i64 5][j]? = some x → W.cell? ((⟨g0, 0, none⟩ : Addr).add j) = some x := by
    intro q x hq
    match q, hq with
    | 0, hq => injection hq with hq; subst hq; exact h2.c1
    | q + 1, hq => simp at hq
  have ho : ∀ (j : Nat) (x : Value), [Value.int .i64 100, .int .i64 60][j]? = some x → W.cell? ((⟨g1, 0, none⟩ : Addr).add j) = some x := by
    intro q x hq
    rw [add_blk, h1.cell]
    match q, hq with
    | 0, hq => injection hq with hq; subst hq; rfl
    | 1, hq => injection hq with hq; subst hq; rfl
    | q + 2, hq => simp at hq
  obtain ⟨v', w', hrun, hown', _, _, _⟩ := run_append_own_at (P := Try.prog) W 0 22 22 3 i0 (.int .i64 0) 1 8 Try.underlying22 hi0 hz0 hz1 hz2 rfl (by decide) _ 2 _ hown ⟨g0, 0, none⟩ 1 1 [.int .i64 5] rfl hc (by intro u hu; simp at hu; subst hu; rfl) (by simp only [maxLen]; omega) (by omega) (Nat.zero_le _)
  have hr2 := run_append_grow (P := Try.prog) W 22 22 3 i0 (.int .i64 0) Try.underlying22 hi0 hz0 ⟨g1, 0, none⟩ 2 2 [.int .i64 100, .int .i64 60] (by rw [hz1]; rfl) ho ⟨g0, 0, none⟩ 1 1 [.int .i64 5] (by rw [hz1]; rfl) hc (by omega) (by omega) (by rw [hz2]; decide +kernel)
  rw [hrun] at hr2
  injection hr2 with e1 e2
  obtain ⟨A, c, ev, q1, q2, q3, _, _⟩ := own_ints (xs := [100, 60, 5]) rfl hown'
  refine ⟨v', w', hrun, (A, c), ev, fun a ea => ?_, ⟨q3, q1, q2⟩, ?_⟩
  · rw [ev] at e1
    injection e1 with e1
    have e3 : A = some a := ea
    rw [e3] at e1
    injection e1 with e1
    rw [e1]
  rw [e2]
  exact ((Below.refl _ _).drew).alloc (Nat.le_refl _) _
end
end Go.Proofs.Ytoeabajigfdkaaa
