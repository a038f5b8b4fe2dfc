/- The statements' helpers: the chapter's examples hold. Conditions stand at each theorem. -/
import Derived.Test.YtgoianldiomdoaaRows
import Derived.WalkKit
import Derived.ProofKit
import Derived.OpenShut
import Derived.Test.YtgoianldiomdoaaG1
import Derived.Test.YtgoianldiomdoaaG5
/- The statements' helpers: whether lists of numbers are equal. -/
namespace Go.Proofs.Ytgoianldiomdoaa
open Go.RowKit

theorem ret_bool {a b : Bool} (h : a = b) : Ending.returned (.bool a) = .returned (.bool b) := by rw [h]
/-- two lists that begin alike -/
theorem take_step {α : Type} {a b : List α} {k : Nat} {x y : α} (h : a.take k = b.take k) (hx : a[k]? = some x) (hy : b[k]? = some y) (e : x = y) : a.take (k + 1) = b.take (k + 1) := by
  obtain ⟨h1, rfl⟩ := List.getElem?_eq_some_iff.1 hx
  obtain ⟨h2, rfl⟩ := List.getElem?_eq_some_iff.1 hy
  rw [List.take_succ_eq_append_getElem h1, List.take_succ_eq_append_getElem h2, h, e]
theorem ne_of_at {α : Type} {a b : List α} {k : Nat} {x y : α} (hx : a[k]? = some x) (hy : b[k]? = some y) (e : x ≠ y) : a ≠ b := fun h => by
  rw [h] at hx
  rw [hx] at hy
  exact e (Option.some.inj hy)
theorem eq_of_take {α : Type} {a b : List α} (h : a.take a.length = b.take a.length) (hl : a.length = b.length) : a = b := by
  rw [List.take_length, hl, List.take_length] at h
  exact h
def sameB (a b : List (List Int)) : Bool := decide (a = b)

set_option maxRecDepth 100000 in
set_option maxHeartbeats 4000000 in
theorem same_any (A : Option Addr) (c : Nat) (a : List (List Int)) (B : Option Addr) (c2 : Nat) (b : List (List Int)) (w : World) (ha : IsRows w w.heap.size A a) (hb : IsRows w w.heap.size B b) (hl : a.length ≤ 1000000) (_ : b.length ≤ 1000000) :
    Calls Try.prog 24 #[.slice A a.length c, .slice B b.length c2] w fun e w' => e = .returned (.bool (sameB a b)) ∧ Below w.heap.size w w' := by
  have HA := hid ha
  have HB := hid hb
  clear ha hb
  by_cases hne : ¬ a.length = b.length
  · have hd : ((a.length : Int) == (b.length : Int)) = false := by simp; omega
    have hd2 : ((a.length : Int) != (b.length : Int)) = true := by simp; omega
    have HS := hid (show sameB a b = false from by
      unfold sameB; simp only [decide_eq_false_iff_not]; exact fun h => hne (by rw [h]))
    clear hne
    go_enter Try.func24, Try.ntmps24
    go_wp2
    go_ret
    exact ⟨ret_bool HS.out.symm, Below.refl _ _⟩
  · have HL := hid (show a.length = b.length from Classical.not_not.1 hne)
    rw [show b.length = a.length from HL.out.symm]
    clear hne
    go_enter Try.func24, Try.ntmps24
    go_wp2
    go_loopw [5] (fun i wr => ∃ k : Nat, k ≤ a.length ∧ i = .int .i64 k ∧ a.take k = b.take k ∧ Below w.heap.size w wr) (fun i _ => a.length - (intOf i).toNat)
    case atStart => exact ⟨0, Nat.zero_le _, rfl, rfl, Below.refl _ _⟩
    case round =>
      obtain ⟨k, hk, rfl, htk, hbe⟩ := hrel
      by_cases hlt : k < a.length
      · have hltb : k < b.length := by have := HL.out; omega
        obtain ⟨x, hx⟩ : ∃ x, a[k]? = some x := ⟨_, List.getElem?_eq_getElem hlt⟩
        obtain ⟨y, hy⟩ : ∃ y, b[k]? = some y := ⟨_, List.getElem?_eq_getElem hltb⟩
        have hra := HA.out.at_ hbe
        have hrb := HB.out.at_ hbe
        obtain ⟨aa, Ax, cx, rfl, a1, a2, a3, a4, a5⟩ := hra k x hx
        obtain ⟨ab, Ay, cy, rfl, b1, b2, b3, b4, b5⟩ := hrb k y hy
        have hkI : (k : Int) < (a.length : Int) := by omega
        have HX := hid (And.intro hx (And.intro hy (And.intro htk (And.intro hbe (And.intro a5 b5)))))
        have HQ := hid (And.intro a2 b2)
        unfold maxLen at a4 b4
        clear hra hrb hx hy htk hbe a5 b5
        go_wp2
        have q1 := xt_cell HQ.out.1
        have q2 := xt_cell HQ.out.2
        clear a2 b2
        refine wp_region_quiet_xt (by kernel_rfl) (by kernel_rfl) ?_
        repeat (go_big_quiet_step (fail))
        refine wpQuiet_nil ?_
        intro W2 hw2
        replace hw2 := of_xt hw2
        have HW := hid hw2
        clear hw2 q1 q2
        by_cases hxy : x.length = y.length
        · have hd : ((x.length : Int) != (y.length : Int)) = false := by simp; omega
          simp only [hd]
          clear hd
          have HXY := hid hxy
          clear hxy
          go_wp2
          go_loopw [6] (fun i wr => ∃ j : Nat, j ≤ x.length ∧ i = .int .i64 j ∧ x.take j = y.take j ∧ Below w.heap.size w wr) (fun i _ => x.length - (intOf i).toNat)
          case atStart => exact ⟨0, Nat.zero_le _, rfl, rfl, HX.out.2.2.2.1.trans (HW.out.mono HX.out.2.2.2.1.size)⟩
          case round =>
            obtain ⟨j, hj, rfl, htj, hbj⟩ := hrel
            have hra := HA.out.at_ hbj
            have hrb := HB.out.at_ hbj
            obtain ⟨aa', Ax', cx', he, a1', a2', a3', a4', a5'⟩ := hra k x HX.out.1
            injection he with he
            subst he
            obtain ⟨ab', Ay', cy', he, b1', b2', b3', b4', b5'⟩ := hrb k y HX.out.2.1
            injection he with he
            subst he
            by_cases hlj : j < x.length
            · have hjy : j < y.length := by have := HXY.out; omega
              obtain ⟨u, hu⟩ : ∃ u, x[j]? = some u := ⟨_, List.getElem?_eq_getElem hlj⟩
              obtain ⟨v, hv⟩ : ∃ v, y[j]? = some v := ⟨_, List.getElem?_eq_getElem hjy⟩
              obtain ⟨ax, rfl, c1, c2'⟩ := a5' j u hu
              obtain ⟨ay, rfl, d1, d2⟩ := b5' j v hv
              have hjI : (j : Int) < (x.length : Int) := by omega
              have hjI2 : (j : Int) < (y.length : Int) := by omega
              have q1 := xt_cell a2'
              have q2 := xt_cell b2'
              have q3 := xt_cell c2'
              have q4 := xt_cell d2
              have HJ := hid (And.intro hu (And.intro hv (And.intro htj hbj)))
              clear hra hrb hu hv htj hbj a5' b5' c2' d2 b2'
              go_wp2
              refine wp_region_quiet_xt (by kernel_rfl) (by kernel_rfl) ?_
              repeat (go_big_quiet_step (fail))
              refine wpQuiet_nil ?_
              intro W3 hw3
              replace hw3 := of_xt hw3
              have HW3 := hid hw3
              clear hw3 q1 q2 q3 q4 a2'
              by_cases huv : u = v
              · have hd : (u != v) = false := by simp [huv]
                simp only [hd]
                clear hd
                have HUV := hid huv
                clear huv
                go_wp2
                go_roundw
                case rel => exact ⟨j + 1, by omega, by go_num, take_step HJ.out.2.2.1 HJ.out.1 HJ.out.2.1 HUV.out, HJ.out.2.2.2.trans (HW3.out.mono HJ.out.2.2.2.size)⟩
                case measure => first | (simp [intOf]; done) | (simp [intOf]; omega)
              · have hd : (u != v) = true := by simp [huv]
                simp only [hd]
                clear hd
                have HS := hid (show sameB a b = false from by
                  unfold sameB; simp only [decide_eq_false_iff_not]
                  exact ne_of_at HX.out.1 HX.out.2.1 (ne_of_at HJ.out.1 HJ.out.2.1 huv))
                clear huv
                go_wp2
                go_ret
                exact ⟨ret_bool HS.out.symm, HJ.out.2.2.2.trans (HW3.out.mono HJ.out.2.2.2.size)⟩
            · have hjI : decide ((j : Int) < (x.length : Int)) = false := by simp; omega
              obtain rfl : j = x.length := by omega
              have HE := hid (And.intro (eq_of_take htj HXY.out) hbj)
              clear hra hrb a5' b5' htj hbj b2'
              go_wp2
              go_roundw
              case rel => exact ⟨k + 1, by omega, by go_num, take_step HX.out.2.2.1 HX.out.1 HX.out.2.1 HE.out.1, HE.out.2⟩
              case measure => first | (simp [intOf]; done) | (simp [intOf]; omega)
        · have hd : ((x.length : Int) != (y.length : Int)) = true := by simp; omega
          simp only [hd]
          clear hd
          have HS := hid (show sameB a b = false from by
            unfold sameB; simp only [decide_eq_false_iff_not]
            exact ne_of_at HX.out.1 HX.out.2.1 (fun h => hxy (by rw [h])))
          clear hxy
          go_wp2
          go_ret
          exact ⟨ret_bool HS.out.symm, HX.out.2.2.2.1.trans (HW.out.mono HX.out.2.2.2.1.size)⟩
      · have hkI : decide ((k : Int) < (a.length : Int)) = false := by simp; omega
        obtain rfl : k = a.length := by omega
        have HS := hid (show sameB a b = true from by unfold sameB; simp only [decide_eq_true_eq]; exact eq_of_take htk HL.out)
        have HBE := hid hbe
        clear htk hbe
        go_wp2
        go_ret
        exact ⟨ret_bool HS.out.symm, HBE.out⟩

set_option maxRecDepth 10000 in
set_option maxHeartbeats 1000000 in
theorem ints_any (A : Option Addr) (c : Nat) (a : List Int) (B : Option Addr) (c2 : Nat) (b : List Int) (w : World) (ha : IsInts w w.heap.size A a) (hb : IsInts w w.heap.size B b) (hl : a.length ≤ c) (hc : c ≤ maxLen) (hl2 : b.length ≤ c2) (hc2 : c2 ≤ maxLen) :
    Calls Try.prog 31 #[.slice A a.length c, .slice B b.length c2] w fun e w' => e = .returned (.bool (decide (a = b))) ∧ Below w.heap.size w w' := by
  have hB1 : Below w.heap.size w (w.alloc (.cells #[.slice A a.length c] 56)) := (Below.refl _ _).alloc (Nat.le_refl _) _
  have hB : Below w.heap.size w ((w.alloc (.cells #[.slice A a.length c] 56)).alloc (.cells #[.slice B b.length c2] 56)) := hB1.alloc (by simp) _
  have h1 := (Blk.new w 56 #[.slice A a.length c]).alloc (.cells #[.slice B b.length c2] 56)
  have h2 := Blk.new (w.alloc (.cells #[.slice A a.length c] 56)) 56 #[.slice B b.length c2]
  rw [World.size_alloc] at h2
  have K := hid (same_any (some ⟨w.heap.size, 0, none⟩) 1 [a] (some ⟨w.heap.size + 1, 0, none⟩) 1 [b] _ (fun r xs hr => by
      cases r with
      | zero => simp at hr; subst hr; exact ⟨_, A, c, rfl, h1.lt, by rw [add_zero_]; exact h1.c1, hl, hc, ha.at_ hB⟩
      | succ r => simp at hr) (fun r xs hr => by
      cases r with
      | zero => simp at hr; subst hr; exact ⟨_, B, c2, rfl, h2.lt, by rw [add_zero_]; exact h2.c1, hl2, hc2, hb.at_ hB⟩
      | succ r => simp at hr) (by simp) (by simp))
  have HS := hid (show sameB [a] [b] = decide (a = b) from by unfold sameB; simp)
  have HB := hid hB
  clear ha hb hB hB1 h1 h2
  go_enter Try.func31, Try.ntmps31
  go_wp2_with fail
  refine (K.out).mono ?_
  rintro e w2 ⟨rfl, hb2⟩
  go_wp2
  go_ret
  exact ⟨ret_bool HS.out, HB.out.trans (hb2.mono HB.out.size)⟩

theorem between_any (x y : Int) (w : World) : Calls Try.prog 25 #[.int .i64 x, .int .i64 y] w fun e w' => e = .returned (.agg #[.int .i64 x, .int .i64 y]) ∧ Below w.heap.size w w' := by
  go_enter Try.func25, Try.ntmps25
  go_wp2
  exact bodyPost_ret (v := .agg #[.int .i64 x, .int .i64 y]) (by simp [results, Try.results25, go_sem]) rfl ⟨rfl, (Below.refl _ _).alloc (Nat.le_refl _) _⟩
end Go.Proofs.Ytgoianldiomdoaa
/- The chapter's examples, which each statement checks last of all: they hold. -/
namespace Go.Proofs.Ytgoianldiomdoaa
open Go.RowKit Go.Shelf

def fourC : List (List Int) := [[3, 4], [6, 2]]
theorem two_cells {W : World} {g t : Nat} {u v : Value} (h : Blk W g t #[u, v]) : W.cell? ((⟨g, 0, none⟩ : Addr).add 0) = some u ∧ W.cell? ((⟨g, 0, none⟩ : Addr).add 1) = some v := by
  rw [add_blk, add_blk]; exact h.c2
theorem ints_two {W : World} {g : Nat} {x y : Int} (h : Blk W g 3 #[.int .i64 x, .int .i64 y]) : IsInts W W.heap.size (some ⟨g, 0, none⟩) [x, y] := ints_of_two h
/-- two rows of two numbers -/
theorem rows_two {W : World} {g g1 g2 : Nat} {x y u v : Int} (h1 : Blk W g1 3 #[.int .i64 x, .int .i64 y]) (h2 : Blk W g2 3 #[.int .i64 u, .int .i64 v]) (h : Blk W g 56 #[.slice (some ⟨g1, 0, none⟩) 2 2, .slice (some ⟨g2, 0, none⟩) 2 2]) : IsRows W W.heap.size (some ⟨g, 0, none⟩) [[x, y], [u, v]] := by
  intro r xs hr
  match r, hr with
  | 0, hr =>
    simp at hr; subst hr
    exact ⟨_, some ⟨g1, 0, none⟩, 2, rfl, h.lt, (two_cells h).1, Nat.le_refl _, by simp [maxLen], ints_of_two h1⟩
  | 1, hr =>
    simp at hr; subst hr
    exact ⟨_, some ⟨g2, 0, none⟩, 2, rfl, h.lt, (two_cells h).2, Nat.le_refl _, by simp [maxLen], ints_of_two h2⟩
  | r + 2, hr => simp at hr
theorem ints_three {W : World} {g : Nat} {x y z : Int} (h : Blk W g 3 #[.int .i64 x, .int .i64 y, .int .i64 z]) : IsInts W W.heap.size (some ⟨g, 0, none⟩) [x, y, z] := by
  intro k u hk
  refine ⟨_, rfl, h.lt, ?_⟩
  rw [add_blk, h.cell]
  match k, hk with
  | 0, hk => simp at hk; simp [hk]
  | 1, hk => simp at hk; simp [hk]
  | 2, hk => simp at hk; simp [hk]
  | k + 3, hk => simp at hk

/-- the chapter's table -/
def GivesFour (A : Option Addr) (c : Nat) (fs : List Fx) (w : World) (e : Ending) (w' : World) : Prop :=
  ∃ g, e = .returned (.agg #[.int .i64 5, .slice (some ⟨g, 0, none⟩) fourC.length 2, .slice A fs.length c]) ∧ TIn (some ⟨g, 0, none⟩) 2 fourC A c fs w' ∧ Below w.heap.size w w'
set_option maxRecDepth 10000 in
set_option maxHeartbeats 1000000 in
theorem four_any (A : Option Addr) (c : Nat) (fs : List Fx) (w : World) (hf : IsFixes w w.heap.size A fs) (hl : fs.length ≤ c) (hc : c ≤ maxLen) :
    Calls Try.prog 46 #[.slice A fs.length c] w (GivesFour A c fs w) := by
  have H := hid hf
  clear hf
  go_enter Try.func46, Try.ntmps46
  go_wp2
  have b1 := Below.refl w.heap.size w
  have c1 := b1.alloc (Nat.le_refl _) (.cells #[.int .i64 5, .slice (some ⟨w.heap.size + 1 + 1 + 1, 0, none⟩) 2 2, .slice A fs.length c] 33)
  have c2 := c1.alloc (by simp) (.cells #[.int .i64 3, .int .i64 4] 3)
  have c3 := c2.alloc (by simp; omega) (.cells #[.int .i64 6, .int .i64 2] 3)
  have c4 := c3.alloc (by simp; omega) (.cells #[.slice (some ⟨w.heap.size + 1, 0, none⟩) 2 2, .slice (some ⟨w.heap.size + 1 + 1, 0, none⟩) 2 2] 56)
  have d1 := ((((Blk.new w 33 #[.int .i64 5, .slice (some ⟨w.heap.size + 1 + 1 + 1, 0, none⟩) 2 2, .slice A fs.length c]).alloc (.cells #[.int .i64 3, .int .i64 4] 3)).alloc (.cells #[.int .i64 6, .int .i64 2] 3)).alloc (.cells #[.slice (some ⟨w.heap.size + 1, 0, none⟩) 2 2, .slice (some ⟨w.heap.size + 1 + 1, 0, none⟩) 2 2] 56))
  have d2 := (((Blk.new (w.alloc (.cells #[.int .i64 5, .slice (some ⟨w.heap.size + 1 + 1 + 1, 0, none⟩) 2 2, .slice A fs.length c] 33)) 3 #[.int .i64 3, .int .i64 4]).alloc (.cells #[.int .i64 6, .int .i64 2] 3)).alloc (.cells #[.slice (some ⟨w.heap.size + 1, 0, none⟩) 2 2, .slice (some ⟨w.heap.size + 1 + 1, 0, none⟩) 2 2] 56))
  have d3 := ((Blk.new ((w.alloc (.cells #[.int .i64 5, .slice (some ⟨w.heap.size + 1 + 1 + 1, 0, none⟩) 2 2, .slice A fs.length c] 33)).alloc (.cells #[.int .i64 3, .int .i64 4] 3)) 3 #[.int .i64 6, .int .i64 2]).alloc (.cells #[.slice (some ⟨w.heap.size + 1, 0, none⟩) 2 2, .slice (some ⟨w.heap.size + 1 + 1, 0, none⟩) 2 2] 56))
  have d4 := Blk.new (((w.alloc (.cells #[.int .i64 5, .slice (some ⟨w.heap.size + 1 + 1 + 1, 0, none⟩) 2 2, .slice A fs.length c] 33)).alloc (.cells #[.int .i64 3, .int .i64 4] 3)).alloc (.cells #[.int .i64 6, .int .i64 2] 3)) 56 #[.slice (some ⟨w.heap.size + 1, 0, none⟩) 2 2, .slice (some ⟨w.heap.size + 1 + 1, 0, none⟩) 2 2]
  simp only [World.size_alloc] at d2 d3 d4
  generalize (((w.alloc (.cells #[.int .i64 5, .slice (some ⟨w.heap.size + 1 + 1 + 1, 0, none⟩) 2 2, .slice A fs.length c] 33)).alloc (.cells #[.int .i64 3, .int .i64 4] 3)).alloc (.cells #[.int .i64 6, .int .i64 2] 3)).alloc (.cells #[.slice (some ⟨w.heap.size + 1, 0, none⟩) 2 2, .slice (some ⟨w.heap.size + 1 + 1, 0, none⟩) 2 2] 56) = W4 at *
  obtain ⟨e0, e1, e2⟩ := d1.c3
  refine bodyPost_ret (v := .agg #[.int .i64 5, .slice (some ⟨w.heap.size + 1 + 1 + 1, 0, none⟩) fourC.length 2, .slice A fs.length c]) (by simp [results, Try.results46, go_sem, e0, e1, e2, fourC]) rfl ⟨_, rfl, ⟨rows_two d2 d3 d4, H.out.at_ c4, by decide, by decide, hl, hc, by decide⟩, c4⟩

theorem four_chk : chkE 5 fourC [] = 0 := by decide +kernel
theorem four_ways : (spec 5 fourC [] fourC.length zeroS).ways = 4 := by decide +kernel
theorem four_change : (spec 5 fourC [] fourC.length zeroS).change = 6 := by decide +kernel
theorem four_best : bestOf 5 fourC [] fourC.length zeroS = [[5, 5], [5, 0]] := by decide +kernel
theorem four_span : spanOf 5 fourC [] = [[(0, 5), (0, 5)], [(5, 10), (0, 5)]] := by decide +kernel
theorem three_div : divE [3, 2, 2] 10 = 0 ∧ divOf [3, 2, 2] 10 = [4, 3, 3] := by decide +kernel
end Go.Proofs.Ytgoianldiomdoaa
/- awake: the chapter's examples hold. -/
namespace Go.Proofs.Ytgoianldiomdoaa
open Go.RowKit Go.Shelf

def GivesB4 (w : World) (e : Ending) (w' : World) : Prop := ∃ A c, e = .returned (.tuple #[.slice A 2 c, .int .i64 6, .int .i64 0]) ∧ IsRows w' w'.heap.size A [[5, 5], [5, 0]] ∧ Below w.heap.size w w'
theorem best_four {A A2 : Option Addr} {c c2 : Nat} {w : World} (h : TIn A c fourC A2 c2 [] w) : Calls Try.prog 18 #[.agg #[.int .i64 5, .slice A fourC.length c, .slice A2 ([] : List Fx).length c2]] w (GivesB4 w) := by
  refine (best_any 5 A c fourC A2 c2 [] w h).mono fun e w' h' => ?_
  rw [if_neg (by simp [four_chk]), if_neg (by rw [four_ways]; decide)] at h'
  obtain ⟨A', c', he, h1, _, _, _, _, h2⟩ := h'
  rw [four_change] at he
  rw [four_best] at h1
  exact ⟨A', c', he, h1, h2⟩
theorem ways_four {A A2 : Option Addr} {c c2 : Nat} {w : World} (h : TIn A c fourC A2 c2 [] w) : Calls Try.prog 20 #[.agg #[.int .i64 5, .slice A fourC.length c, .slice A2 ([] : List Fx).length c2]] w fun e w' => e = .returned (.tuple #[.int .i64 4, .int .i64 0]) ∧ Below w.heap.size w w' := by
  refine (ways_any 5 A c fourC A2 c2 [] w h).mono fun e w' h' => ?_
  rw [if_pos four_chk, four_ways] at h'
  exact h'
def GivesS4 (w : World) (e : Ending) (w' : World) : Prop := ∃ Ro R1, e = .returned (.tuple #[.slice (some ⟨Ro, 0, none⟩) 2 2, .int .i64 0]) ∧ (∃ us, Blk w' Ro 46 us ∧ us[1]? = some (.slice (some ⟨R1, 0, none⟩) 2 2)) ∧ Blk w' R1 49 #[.int .i64 5, .int .i64 10, .int .i64 0, .int .i64 5] ∧ Below w.heap.size w w'
theorem span_four {A A2 : Option Addr} {c c2 : Nat} {w : World} (h : TIn A c fourC A2 c2 [] w) : Calls Try.prog 21 #[.agg #[.int .i64 5, .slice A fourC.length c, .slice A2 ([] : List Fx).length c2]] w (GivesS4 w) := by
  refine (span_any 5 A c fourC A2 c2 [] w h).mono fun e w' h' => ?_
  rw [if_neg (by simp [four_chk]), if_neg (by rw [four_ways]; decide)] at h'
  obtain ⟨Ro, Rr, he, _, h1, _, h3, h4⟩ := h'
  rw [four_span] at h3
  exact ⟨Ro, Rr 1, he, ⟨_, h1, rfl⟩, (h3 1 _ rfl).2, h4⟩
def GivesD3 (w : World) (e : Ending) (w' : World) : Prop := ∃ A c, e = .returned (.tuple #[.slice A 3 c, .int .i64 0]) ∧ IsInts w' w'.heap.size A [4, 3, 3] ∧ 3 ≤ c ∧ c ≤ maxLen ∧ Below w.heap.size w w'
theorem div_three {A : Option Addr} {w : World} (h : IsInts w w.heap.size A [3, 2, 2]) : Calls Try.prog 29 #[.slice A 3 3, .int .i64 10] w (GivesD3 w) := by
  refine (divide_any A 3 [3, 2, 2] 10 w h (by decide) (by decide)).mono fun e w' h' => ?_
  rw [if_neg (by simp [three_div.1])] at h'
  obtain ⟨A', c', he, h1, h2, h3, _, _, h4⟩ := h'
  rw [three_div.2] at h1
  exact ⟨A', c', he, h1, h2, h3, h4⟩
theorem learn_five (w : World) : Calls Try.prog 26 #[.int .i64 5, .int .i64 10] w fun e w' => e = .returned (.tuple #[.agg #[.int .i64 6, .int .i64 14], .int .i64 0]) ∧ Below w.heap.size w w' := by
  refine (learn_any 5 10 w).mono fun e w' h' => ?_
  rw [if_neg (by decide), if_neg (by decide)] at h'
  exact h'

set_option maxRecDepth 100000 in
set_option maxHeartbeats 4000000 in
theorem awake_any (w : World) : Calls Try.prog 17 #[] w fun e w' => e = .returned (.bool true) ∧ Below w.heap.size w w' := by
  go_enter Try.func17, Try.ntmps17
  go_wp2_with fail
  refine (four_any none 0 [] w (fun k f hk => by simp at hk) (Nat.le_refl _) (Nat.zero_le _)).mono ?_
  rintro e w1 ⟨g1, rfl, ht1, hb1⟩
  go_wp2_with fail
  refine (best_four ht1).mono ?_
  rintro e w2 ⟨A2, c2, rfl, hr2, hb2⟩
  have hw2 := hb1.trans (hb2.mono hb1.size)
  clear ht1 hb1 hb2
  have H2 := hid (And.intro hr2 hw2)
  clear hr2 hw2
  go_wp2_with fail
  refine (four_any none 0 [] w2 (fun k f hk => by simp at hk) (Nat.le_refl _) (Nat.zero_le _)).mono ?_
  rintro e w3 ⟨g3, rfl, ht3, hb3⟩
  have H3 := hid (And.intro ht3 (And.intro (H2.out.1.at_ hb3) (H2.out.2.trans (hb3.mono H2.out.2.size))))
  clear ht3 hb3 H2
  go_wp2_with fail
  refine (ways_four H3.out.1).mono ?_
  rintro e w4 ⟨rfl, hb4⟩
  have H4 := hid (And.intro (H3.out.2.1.at_ hb4) (H3.out.2.2.trans (hb4.mono H3.out.2.2.size)))
  clear hb4 H3
  go_wp2_with fail
  refine (four_any none 0 [] w4 (fun k f hk => by simp at hk) (Nat.le_refl _) (Nat.zero_le _)).mono ?_
  rintro e w5 ⟨g5, rfl, ht5, hb5⟩
  have H5 := hid (And.intro ht5 (And.intro (H4.out.1.at_ hb5) (H4.out.2.trans (hb5.mono H4.out.2.size))))
  clear ht5 hb5 H4
  go_wp2_with fail
  refine (span_four H5.out.1).mono ?_
  rintro e w6 ⟨Ro, R1, rfl, ⟨us, hus, hu1⟩, hr1, hb6⟩
  have H6 := hid (And.intro (H5.out.2.1.at_ hb6) (And.intro (And.intro hus (And.intro hu1 hr1)) (H5.out.2.2.trans (hb6.mono H5.out.2.2.size))))
  clear hus hu1 hr1 hb6 H5
  go_wp2_with fail
  have hba := (Below.refl w6.heap.size w6).alloc (Nat.le_refl _) (.cells #[.int .i64 3, .int .i64 2, .int .i64 2] 3)
  refine (div_three (ints_three (Blk.new w6 3 #[.int .i64 3, .int .i64 2, .int .i64 2]))).mono ?_
  rintro e w7 ⟨A7, c7, rfl, hd7, hd1, hd2, hb7⟩
  have hb67 := hba.trans (hb7.mono hba.size)
  have H7 := hid (And.intro (H6.out.1.at_ hb67) (And.intro (And.intro (H6.out.2.1.1.keep hb67) (And.intro H6.out.2.1.2.1 (H6.out.2.1.2.2.keep hb67))) (And.intro (And.intro hd7 (And.intro hd1 hd2)) (H6.out.2.2.trans (hb67.mono H6.out.2.2.size)))))
  clear hd7 hd1 hd2 hb7 hba hb67 H6
  go_wp2_with fail
  refine (learn_five w7).mono ?_
  rintro e w8 ⟨rfl, hb8⟩
  have hz8 := hb8.size
  go_wp2_with fail
  have hbb := hb8.alloc (Nat.le_trans (Nat.le_refl _) hb8.size) (.cells #[.agg #[]] 49)
  clear hbb
  refine gen (p := Code.wp _ _ _ _) (fun W => IsRows W W.heap.size A2 [[5, 5], [5, 0]] ∧ (Blk W Ro 46 us ∧ us[1]? = some (.slice (some ⟨R1, 0, none⟩) 2 2) ∧ Blk W R1 49 #[.int .i64 5, .int .i64 10, .int .i64 0, .int .i64 5]) ∧ (IsInts W W.heap.size A7 [4, 3, 3] ∧ 3 ≤ c7 ∧ c7 ≤ maxLen) ∧ Blk W w8.heap.size 49 #[.int .i64 6, .int .i64 14] ∧ Below w.heap.size w W) ?_ ?_
  · have hba := hb8.alloc hb8.size (.cells #[.int .i64 6, .int .i64 14] 49)
    obtain ⟨k1, ⟨k2, k3, k4⟩, ⟨k5, k6, k7⟩, k8⟩ := H7.out
    exact ⟨k1.at_ hba, ⟨k2.keep hba, k3, k4.keep hba⟩, ⟨k5.at_ hba, k6, k7⟩, Blk.new _ _ _, k8.trans (hba.mono k8.size)⟩
  intro W8 h8
  have H8 := hid h8
  clear h8 H7 hb8 hz8
  dsimp only [List.append]
  refine (wpIn_wide (n := 0)).1 ?_
  -- GREAT BEGIN
  refine wpIn_region_each 64 (fun i v W' => match i with | 0 => v = .int .i64 0 | 1 => v = .bool true | 2 => v = .bool true | 3 => v = .slice A2 2 c2 | 4 => ∃ g, v = .slice (some ⟨g, 0, none⟩) 2 2 ∧ Blk W' g 3 #[.int .i64 5, .int .i64 5] | 5 => ∃ g, v = .slice (some ⟨g, 0, none⟩) 2 2 ∧ Blk W' g 3 #[.int .i64 5, .int .i64 0] | 6 => ∃ g g1 g2, v = .slice (some ⟨g, 0, none⟩) 2 2 ∧ Blk W' g1 3 #[.int .i64 5, .int .i64 5] ∧ Blk W' g2 3 #[.int .i64 5, .int .i64 0] ∧ Blk W' g 56 #[.slice (some ⟨g1, 0, none⟩) 2 2, .slice (some ⟨g2, 0, none⟩) 2 2] | 7 => v = .bool true | 8 => v = .bool true | 9 => v = .bool true | 10 => v = .int .i64 6 | 11 => v = .bool true | 12 => v = .bool true | 13 => v = .bool true | 14 => v = .int .i64 0 | 15 => v = .bool true | 16 => v = .bool true | 17 => v = .bool true | 18 => v = .int .i64 4 | 19 => v = .bool true | 20 => v = .bool true | 21 => v = .bool true | 22 => v = .int .i64 0 | 23 => v = .bool true | 24 => v = .bool true | 25 => v = .bool true | 26 => v = .slice (some ⟨Ro, 0, none⟩) 2 2 | 27 => v = .int .i64 2 | 28 => v = .bool true | 29 => v = .bool true | 30 => v = .bool true | 31 => v = .slice (some ⟨Ro, 0, none⟩) 2 2 | 32 => v = .pointer (some ⟨Ro, 1, none⟩) | 33 => v = .slice (some ⟨R1, 0, none⟩) 2 2 | 34 => v = .int .i64 2 | 35 => v = .bool true | 36 => v = .bool true | 37 => v = .bool true | 38 => v = .slice (some ⟨Ro, 0, none⟩) 2 2 | 39 => v = .pointer (some ⟨Ro, 1, none⟩) | 40 => v = .slice (some ⟨R1, 0, none⟩) 2 2 | 41 => v = .pointer (some ⟨R1, 0, none⟩) | 42 => v = .agg #[.int .i64 5, .int .i64 10] | 43 => v = .agg #[.int .i64 5, .int .i64 10] | 44 => v = .bool true | 45 => v = .bool true | 46 => v = .bool true | 47 => v = .int .i64 0 | 48 => v = .bool true | 49 => v = .bool true | 50 => v = .bool true | 51 => v = .slice A7 3 c7 | 52 => ∃ g, v = .slice (some ⟨g, 0, none⟩) 3 3 ∧ Blk W' g 3 #[.int .i64 4, .int .i64 3, .int .i64 3] | 53 => v = .bool true | 54 => v = .bool true | 55 => v = .bool true | 56 => v = .int .i64 0 | 57 => v = .bool true | 58 => v = .bool true | 59 => v = .bool true | 60 => v = .agg #[.int .i64 6, .int .i64 14] | 61 => v = .agg #[.int .i64 6, .int .i64 14] | 62 => v = .bool true | 63 => v = .bool true | _ => True) (fun A B => Below A.heap.size A B) (fun _ _ => True) (by kernel_rfl) (by kernel_rfl) ?_ (fun h k => h.trans (k.mono h.size)) ⟨rfl, rfl, rfl, Nat.le_refl _, fun _ _ => rfl⟩ trivial (by kernel_rfl) ?_ ?_
  · intro i v W1 W2 hb h
    match i, h with
    | 0, h => exact h
    | 1, h => exact h
    | 2, h => exact h
    | 3, h => exact h
    | 4, h =>
      obtain ⟨g, rfl, h1⟩ := h
      exact ⟨g, rfl, h1.keep hb⟩
    | 5, h =>
      obtain ⟨g, rfl, h1⟩ := h
      exact ⟨g, rfl, h1.keep hb⟩
    | 6, h =>
      obtain ⟨g, g1, g2, rfl, h1, h2, h3⟩ := h
      exact ⟨g, g1, g2, rfl, h1.keep hb, h2.keep hb, h3.keep hb⟩
    | 7, h => exact h
    | 8, h => exact h
    | 9, h => exact h
    | 10, h => exact h
    | 11, h => exact h
    | 12, h => exact h
    | 13, h => exact h
    | 14, h => exact h
    | 15, h => exact h
    | 16, h => exact h
    | 17, h => exact h
    | 18, h => exact h
    | 19, h => exact h
    | 20, h => exact h
    | 21, h => exact h
    | 22, h => exact h
    | 23, h => exact h
    | 24, h => exact h
    | 25, h => exact h
    | 26, h => exact h
    | 27, h => exact h
    | 28, h => exact h
    | 29, h => exact h
    | 30, h => exact h
    | 31, h => exact h
    | 32, h => exact h
    | 33, h => exact h
    | 34, h => exact h
    | 35, h => exact h
    | 36, h => exact h
    | 37, h => exact h
    | 38, h => exact h
    | 39, h => exact h
    | 40, h => exact h
    | 41, h => exact h
    | 42, h => exact h
    | 43, h => exact h
    | 44, h => exact h
    | 45, h => exact h
    | 46, h => exact h
    | 47, h => exact h
    | 48, h => exact h
    | 49, h => exact h
    | 50, h => exact h
    | 51, h => exact h
    | 52, h =>
      obtain ⟨g, rfl, h1⟩ := h
      exact ⟨g, rfl, h1.keep hb⟩
    | 53, h => exact h
    | 54, h => exact h
    | 55, h => exact h
    | 56, h => exact h
    | 57, h => exact h
    | 58, h => exact h
    | 59, h => exact h
    | 60, h => exact h
    | 61, h => exact h
    | 62, h => exact h
    | 63, h => exact h
    | i + 64, h => trivial
  · refine ⟨?_, ?_, ?_, ?_, ?_, ?_, ?_, ?_, ?_, ?_, ?_, ?_, ?_, ?_, ?_, ?_, ?_, ?_, ?_, ?_, ?_, ?_, ?_, ?_, ?_, ?_, ?_, ?_, ?_, ?_, ?_, ?_, ?_, ?_, ?_, ?_, ?_, ?_, ?_, ?_, ?_, ?_, ?_, ?_, ?_, ?_, ?_, ?_, ?_, ?_, ?_, ?_, ?_, ?_, ?_, ?_, ?_, ?_, ?_, ?_, ?_, ?_, ?_, ?_, trivial⟩
    · -- 0
      intro li a1 W2 hA K hK
      have e3 := hA.par 3 (by kernel_rfl)
      refine opStep none 0 rfl rfl (fun c hc => by cases hc) ?_
      go_simp
      exact hK _ _ rfl (Below.refl _ _) trivial
    · -- 1
      intro li a1 W2 hA K hK
      have e37 : a1.tmps.getD 37 undef = .int .i64 0 := hA.val 0 37 (by kernel_rfl) (by kernel_rfl)
      refine opStep none 0 rfl rfl (fun c hc => by cases hc) ?_
      go_simp
      exact hK _ _ rfl (Below.refl _ _) trivial
    · -- 2
      intro li a1 W2 hA K hK
      have e38 : a1.tmps.getD 38 undef = .bool true := hA.val 1 38 (by kernel_rfl) (by kernel_rfl)
      refine opStep none 0 rfl rfl (fun c hc => by cases hc) ?_
      go_simp
      exact hK _ _ rfl (Below.refl _ _) trivial
    · -- 3
      intro li a1 W2 hA K hK
      have e1 := hA.par 1 (by kernel_rfl)
      have eg39 : a1.tmps.getD 39 undef = .bool true := hA.val 2 39 (by kernel_rfl) (by kernel_rfl)
      refine opStep none 0 rfl (wanted_yes (j := 2) (d := 39) (b := true) rfl (by kernel_rfl) eg39) (fun c hc => by cases hc) ?_
      go_simp
      exact hK _ _ rfl (Below.refl _ _) trivial
    · -- 4
      intro li a1 W2 hA K hK
      have eg39 : a1.tmps.getD 39 undef = .bool true := hA.val 2 39 (by kernel_rfl) (by kernel_rfl)
      refine opStep none 0 rfl (wanted_yes (j := 2) (d := 39) (b := true) rfl (by kernel_rfl) eg39) (fun c hc => by cases hc) ?_
      go_simp
      exact hK _ _ ⟨_, rfl, Blk.new _ _ _⟩ ((Below.refl _ _).alloc (Nat.le_refl _) _) trivial
    · -- 5
      intro li a1 W2 hA K hK
      have eg39 : a1.tmps.getD 39 undef = .bool true := hA.val 2 39 (by kernel_rfl) (by kernel_rfl)
      refine opStep none 0 rfl (wanted_yes (j := 2) (d := 39) (b := true) rfl (by kernel_rfl) eg39) (fun c hc => by cases hc) ?_
      go_simp
      exact hK _ _ ⟨_, rfl, Blk.new _ _ _⟩ ((Below.refl _ _).alloc (Nat.le_refl _) _) trivial
    · -- 6
      intro li a1 W2 hA K hK
      have e41 := hA.val 4 41 (by kernel_rfl) (by kernel_rfl)
      have e42 := hA.val 5 42 (by kernel_rfl) (by kernel_rfl)
      have eg39 : a1.tmps.getD 39 undef = .bool true := hA.val 2 39 (by kernel_rfl) (by kernel_rfl)
      obtain ⟨g1, e41', hg1⟩ := e41
      obtain ⟨g2, e42', hg2⟩ := e42
      have e41 := e41'
      have e42 := e42'
      rw [Array.getD_eq_getD_getElem?] at e41' e42'
      refine opStep none 0 rfl (wanted_yes (j := 2) (d := 39) (b := true) rfl (by kernel_rfl) eg39) (fun c hc => by cases hc) ?_
      go_simp
      exact hK _ _ ⟨_, g1, g2, rfl, hg1.alloc _, hg2.alloc _, Blk.new _ _ _⟩ ((Below.refl _ _).alloc (Nat.le_refl _) _) trivial
    · -- 7
      intro li a1 W2 hA K hK
      have e40 : a1.tmps.getD 40 undef = .slice A2 2 c2 := hA.val 3 40 (by kernel_rfl) (by kernel_rfl)
      have e43 := hA.val 6 43 (by kernel_rfl) (by kernel_rfl)
      have eg39 : a1.tmps.getD 39 undef = .bool true := hA.val 2 39 (by kernel_rfl) (by kernel_rfl)
      obtain ⟨gg, g1, g2, e43', hg1, hg2, hg3⟩ := e43
      have HS := hid (same_any A2 c2 [[5, 5], [5, 0]] (some ⟨gg, 0, none⟩) 2 [[5, 5], [5, 0]] W2 (H8.out.1.at_ hA.st) (rows_two hg1 hg2 hg3) (by decide) (by decide))
      refine opStep none 0 rfl (wanted_yes (j := 2) (d := 39) (b := true) rfl (by kernel_rfl) eg39) (fun c hc => by cases hc) ?_
      go_simp
      refine HS.out.mono ?_
      rintro e W3 ⟨rfl, hb3⟩
      exact hK _ _ rfl hb3 trivial
    · -- 8
      intro li a1 W2 hA K hK
      have e39 : a1.tmps.getD 39 undef = .bool true := hA.val 2 39 (by kernel_rfl) (by kernel_rfl)
      have e44 : a1.tmps.getD 44 undef = .bool true := hA.val 7 44 (by kernel_rfl) (by kernel_rfl)
      refine opStep none 0 rfl rfl (fun c hc => by cases hc) ?_
      go_simp
      exact hK _ _ rfl (Below.refl _ _) trivial
    · -- 9
      intro li a1 W2 hA K hK
      have e45 : a1.tmps.getD 45 undef = .bool true := hA.val 8 45 (by kernel_rfl) (by kernel_rfl)
      refine opStep none 0 rfl rfl (fun c hc => by cases hc) ?_
      go_simp
      exact hK _ _ rfl (Below.refl _ _) trivial
    · -- 10
      intro li a1 W2 hA K hK
      have e2 := hA.par 2 (by kernel_rfl)
      have eg46 : a1.tmps.getD 46 undef = .bool true := hA.val 9 46 (by kernel_rfl) (by kernel_rfl)
      refine opStep none 0 rfl (wanted_yes (j := 9) (d := 46) (b := true) rfl (by kernel_rfl) eg46) (fun c hc => by cases hc) ?_
      go_simp
      exact hK _ _ rfl (Below.refl _ _) trivial
    · -- 11
      intro li a1 W2 hA K hK
      have e47 : a1.tmps.getD 47 undef = .int .i64 6 := hA.val 10 47 (by kernel_rfl) (by kernel_rfl)
      have eg46 : a1.tmps.getD 46 undef = .bool true := hA.val 9 46 (by kernel_rfl) (by kernel_rfl)
      refine opStep none 0 rfl (wanted_yes (j := 9) (d := 46) (b := true) rfl (by kernel_rfl) eg46) (fun c hc => by cases hc) ?_
      go_simp
      exact hK _ _ rfl (Below.refl _ _) trivial
    · -- 12
      intro li a1 W2 hA K hK
      have e46 : a1.tmps.getD 46 undef = .bool true := hA.val 9 46 (by kernel_rfl) (by kernel_rfl)
      have e48 : a1.tmps.getD 48 undef = .bool true := hA.val 11 48 (by kernel_rfl) (by kernel_rfl)
      refine opStep none 0 rfl rfl (fun c hc => by cases hc) ?_
      go_simp
      exact hK _ _ rfl (Below.refl _ _) trivial
    · -- 13
      intro li a1 W2 hA K hK
      have e49 : a1.tmps.getD 49 undef = .bool true := hA.val 12 49 (by kernel_rfl) (by kernel_rfl)
      refine opStep none 0 rfl rfl (fun c hc => by cases hc) ?_
      go_simp
      exact hK _ _ rfl (Below.refl _ _) trivial
    · -- 14
      intro li a1 W2 hA K hK
      have e5 := hA.par 5 (by kernel_rfl)
      have eg50 : a1.tmps.getD 50 undef = .bool true := hA.val 13 50 (by kernel_rfl) (by kernel_rfl)
      refine opStep none 0 rfl (wanted_yes (j := 13) (d := 50) (b := true) rfl (by kernel_rfl) eg50) (fun c hc => by cases hc) ?_
      go_simp
      exact hK _ _ rfl (Below.refl _ _) trivial
    · -- 15
      intro li a1 W2 hA K hK
      have e51 : a1.tmps.getD 51 undef = .int .i64 0 := hA.val 14 51 (by kernel_rfl) (by kernel_rfl)
      have eg50 : a1.tmps.getD 50 undef = .bool true := hA.val 13 50 (by kernel_rfl) (by kernel_rfl)
      refine opStep none 0 rfl (wanted_yes (j := 13) (d := 50) (b := true) rfl (by kernel_rfl) eg50) (fun c hc => by cases hc) ?_
      go_simp
      exact hK _ _ rfl (Below.refl _ _) trivial
    · -- 16
      intro li a1 W2 hA K hK
      have e50 : a1.tmps.getD 50 undef = .bool true := hA.val 13 50 (by kernel_rfl) (by kernel_rfl)
      have e52 : a1.tmps.getD 52 undef = .bool true := hA.val 15 52 (by kernel_rfl) (by kernel_rfl)
      refine opStep none 0 rfl rfl (fun c hc => by cases hc) ?_
      go_simp
      exact hK _ _ rfl (Below.refl _ _) trivial
    · -- 17
      intro li a1 W2 hA K hK
      have e53 : a1.tmps.getD 53 undef = .bool true := hA.val 16 53 (by kernel_rfl) (by kernel_rfl)
      refine opStep none 0 rfl rfl (fun c hc => by cases hc) ?_
      go_simp
      exact hK _ _ rfl (Below.refl _ _) trivial
    · -- 18
      intro li a1 W2 hA K hK
      have e4 := hA.par 4 (by kernel_rfl)
      have eg54 : a1.tmps.getD 54 undef = .bool true := hA.val 17 54 (by kernel_rfl) (by kernel_rfl)
      refine opStep none 0 rfl (wanted_yes (j := 17) (d := 54) (b := true) rfl (by kernel_rfl) eg54) (fun c hc => by cases hc) ?_
      go_simp
      exact hK _ _ rfl (Below.refl _ _) trivial
    · -- 19
      intro li a1 W2 hA K hK
      have e55 : a1.tmps.getD 55 undef = .int .i64 4 := hA.val 18 55 (by kernel_rfl) (by kernel_rfl)
      have eg54 : a1.tmps.getD 54 undef = .bool true := hA.val 17 54 (by kernel_rfl) (by kernel_rfl)
      refine opStep none 0 rfl (wanted_yes (j := 17) (d := 54) (b := true) rfl (by kernel_rfl) eg54) (fun c hc => by cases hc) ?_
      go_simp
      exact hK _ _ rfl (Below.refl _ _) trivial
    · -- 20
      intro li a1 W2 hA K hK
      have e54 : a1.tmps.getD 54 undef = .bool true := hA.val 17 54 (by kernel_rfl) (by kernel_rfl)
      have e56 : a1.tmps.getD 56 undef = .bool true := hA.val 19 56 (by kernel_rfl) (by kernel_rfl)
      refine opStep none 0 rfl rfl (fun c hc => by cases hc) ?_
      go_simp
      exact hK _ _ rfl (Below.refl _ _) trivial
    · -- 21
      intro li a1 W2 hA K hK
      have e57 : a1.tmps.getD 57 undef = .bool true := hA.val 20 57 (by kernel_rfl) (by kernel_rfl)
      refine opStep none 0 rfl rfl (fun c hc => by cases hc) ?_
      go_simp
      exact hK _ _ rfl (Below.refl _ _) trivial
    · -- 22
      intro li a1 W2 hA K hK
      have e7 := hA.par 7 (by kernel_rfl)
      have eg58 : a1.tmps.getD 58 undef = .bool true := hA.val 21 58 (by kernel_rfl) (by kernel_rfl)
      refine opStep none 0 rfl (wanted_yes (j := 21) (d := 58) (b := true) rfl (by kernel_rfl) eg58) (fun c hc => by cases hc) ?_
      go_simp
      exact hK _ _ rfl (Below.refl _ _) trivial
    · -- 23
      intro li a1 W2 hA K hK
      have e59 : a1.tmps.getD 59 undef = .int .i64 0 := hA.val 22 59 (by kernel_rfl) (by kernel_rfl)
      have eg58 : a1.tmps.getD 58 undef = .bool true := hA.val 21 58 (by kernel_rfl) (by kernel_rfl)
      refine opStep none 0 rfl (wanted_yes (j := 21) (d := 58) (b := true) rfl (by kernel_rfl) eg58) (fun c hc => by cases hc) ?_
      go_simp
      exact hK _ _ rfl (Below.refl _ _) trivial
    · -- 24
      intro li a1 W2 hA K hK
      have e58 : a1.tmps.getD 58 undef = .bool true := hA.val 21 58 (by kernel_rfl) (by kernel_rfl)
      have e60 : a1.tmps.getD 60 undef = .bool true := hA.val 23 60 (by kernel_rfl) (by kernel_rfl)
      refine opStep none 0 rfl rfl (fun c hc => by cases hc) ?_
      go_simp
      exact hK _ _ rfl (Below.refl _ _) trivial
    · -- 25
      intro li a1 W2 hA K hK
      have e61 : a1.tmps.getD 61 undef = .bool true := hA.val 24 61 (by kernel_rfl) (by kernel_rfl)
      refine opStep none 0 rfl rfl (fun c hc => by cases hc) ?_
      go_simp
      exact hK _ _ rfl (Below.refl _ _) trivial
    · -- 26
      intro li a1 W2 hA K hK
      have e6 := hA.par 6 (by kernel_rfl)
      have eg62 : a1.tmps.getD 62 undef = .bool true := hA.val 25 62 (by kernel_rfl) (by kernel_rfl)
      refine opStep none 0 rfl (wanted_yes (j := 25) (d := 62) (b := true) rfl (by kernel_rfl) eg62) (fun c hc => by cases hc) ?_
      go_simp
      exact hK _ _ rfl (Below.refl _ _) trivial
    · -- 27
      intro li a1 W2 hA K hK
      have e63 : a1.tmps.getD 63 undef = .slice (some ⟨Ro, 0, none⟩) 2 2 := hA.val 26 63 (by kernel_rfl) (by kernel_rfl)
      have eg62 : a1.tmps.getD 62 undef = .bool true := hA.val 25 62 (by kernel_rfl) (by kernel_rfl)
      refine opStep none 0 rfl (wanted_yes (j := 25) (d := 62) (b := true) rfl (by kernel_rfl) eg62) (fun c hc => by cases hc) ?_
      go_simp
      exact hK _ _ rfl (Below.refl _ _) trivial
    · -- 28
      intro li a1 W2 hA K hK
      have e64 : a1.tmps.getD 64 undef = .int .i64 2 := hA.val 27 64 (by kernel_rfl) (by kernel_rfl)
      have eg62 : a1.tmps.getD 62 undef = .bool true := hA.val 25 62 (by kernel_rfl) (by kernel_rfl)
      refine opStep none 0 rfl (wanted_yes (j := 25) (d := 62) (b := true) rfl (by kernel_rfl) eg62) (fun c hc => by cases hc) ?_
      go_simp
      exact hK _ _ rfl (Below.refl _ _) trivial
    · -- 29
      intro li a1 W2 hA K hK
      have e62 : a1.tmps.getD 62 undef = .bool true := hA.val 25 62 (by kernel_rfl) (by kernel_rfl)
      have e65 : a1.tmps.getD 65 undef = .bool true := hA.val 28 65 (by kernel_rfl) (by kernel_rfl)
      refine opStep none 0 rfl rfl (fun c hc => by cases hc) ?_
      go_simp
      exact hK _ _ rfl (Below.refl _ _) trivial
    · -- 30
      intro li a1 W2 hA K hK
      have e66 : a1.tmps.getD 66 undef = .bool true := hA.val 29 66 (by kernel_rfl) (by kernel_rfl)
      refine opStep none 0 rfl rfl (fun c hc => by cases hc) ?_
      go_simp
      exact hK _ _ rfl (Below.refl _ _) trivial
    · -- 31
      intro li a1 W2 hA K hK
      have e6 := hA.par 6 (by kernel_rfl)
      have eg67 : a1.tmps.getD 67 undef = .bool true := hA.val 30 67 (by kernel_rfl) (by kernel_rfl)
      refine opStep none 0 rfl (wanted_yes (j := 30) (d := 67) (b := true) rfl (by kernel_rfl) eg67) (fun c hc => by cases hc) ?_
      go_simp
      exact hK _ _ rfl (Below.refl _ _) trivial
    · -- 32
      intro li a1 W2 hA K hK
      have e68 : a1.tmps.getD 68 undef = .slice (some ⟨Ro, 0, none⟩) 2 2 := hA.val 31 68 (by kernel_rfl) (by kernel_rfl)
      have eg67 : a1.tmps.getD 67 undef = .bool true := hA.val 30 67 (by kernel_rfl) (by kernel_rfl)
      refine opStep none 0 rfl (wanted_yes (j := 30) (d := 67) (b := true) rfl (by kernel_rfl) eg67) (fun c hc => by cases hc) ?_
      go_simp
      exact hK _ _ rfl (Below.refl _ _) trivial
    · -- 33
      intro li a1 W2 hA K hK
      have e69 : a1.tmps.getD 69 undef = .pointer (some ⟨Ro, 1, none⟩) := hA.val 32 69 (by kernel_rfl) (by kernel_rfl)
      have eg67 : a1.tmps.getD 67 undef = .bool true := hA.val 30 67 (by kernel_rfl) (by kernel_rfl)
      have q1 : W2.cell? ⟨Ro, 1, none⟩ = some (.slice (some ⟨R1, 0, none⟩) 2 2) := by rw [(H8.out.2.1.1.keep hA.st).cell]; exact H8.out.2.1.2.1
      refine opStep none 0 rfl (wanted_yes (j := 30) (d := 67) (b := true) rfl (by kernel_rfl) eg67) (fun c hc => by cases hc) ?_
      go_simp
      exact hK _ _ rfl (Below.refl _ _) trivial
    · -- 34
      intro li a1 W2 hA K hK
      have e70 : a1.tmps.getD 70 undef = .slice (some ⟨R1, 0, none⟩) 2 2 := hA.val 33 70 (by kernel_rfl) (by kernel_rfl)
      have eg67 : a1.tmps.getD 67 undef = .bool true := hA.val 30 67 (by kernel_rfl) (by kernel_rfl)
      refine opStep none 0 rfl (wanted_yes (j := 30) (d := 67) (b := true) rfl (by kernel_rfl) eg67) (fun c hc => by cases hc) ?_
      go_simp
      exact hK _ _ rfl (Below.refl _ _) trivial
    · -- 35
      intro li a1 W2 hA K hK
      have e71 : a1.tmps.getD 71 undef = .int .i64 2 := hA.val 34 71 (by kernel_rfl) (by kernel_rfl)
      have eg67 : a1.tmps.getD 67 undef = .bool true := hA.val 30 67 (by kernel_rfl) (by kernel_rfl)
      refine opStep none 0 rfl (wanted_yes (j := 30) (d := 67) (b := true) rfl (by kernel_rfl) eg67) (fun c hc => by cases hc) ?_
      go_simp
      exact hK _ _ rfl (Below.refl _ _) trivial
    · -- 36
      intro li a1 W2 hA K hK
      have e67 : a1.tmps.getD 67 undef = .bool true := hA.val 30 67 (by kernel_rfl) (by kernel_rfl)
      have e72 : a1.tmps.getD 72 undef = .bool true := hA.val 35 72 (by kernel_rfl) (by kernel_rfl)
      refine opStep none 0 rfl rfl (fun c hc => by cases hc) ?_
      go_simp
      exact hK _ _ rfl (Below.refl _ _) trivial
    · -- 37
      intro li a1 W2 hA K hK
      have e73 : a1.tmps.getD 73 undef = .bool true := hA.val 36 73 (by kernel_rfl) (by kernel_rfl)
      refine opStep none 0 rfl rfl (fun c hc => by cases hc) ?_
      go_simp
      exact hK _ _ rfl (Below.refl _ _) trivial
    · -- 38
      intro li a1 W2 hA K hK
      have e6 := hA.par 6 (by kernel_rfl)
      have eg74 : a1.tmps.getD 74 undef = .bool true := hA.val 37 74 (by kernel_rfl) (by kernel_rfl)
      refine opStep none 0 rfl (wanted_yes (j := 37) (d := 74) (b := true) rfl (by kernel_rfl) eg74) (fun c hc => by cases hc) ?_
      go_simp
      exact hK _ _ rfl (Below.refl _ _) trivial
    · -- 39
      intro li a1 W2 hA K hK
      have e75 : a1.tmps.getD 75 undef = .slice (some ⟨Ro, 0, none⟩) 2 2 := hA.val 38 75 (by kernel_rfl) (by kernel_rfl)
      have eg74 : a1.tmps.getD 74 undef = .bool true := hA.val 37 74 (by kernel_rfl) (by kernel_rfl)
      refine opStep none 0 rfl (wanted_yes (j := 37) (d := 74) (b := true) rfl (by kernel_rfl) eg74) (fun c hc => by cases hc) ?_
      go_simp
      exact hK _ _ rfl (Below.refl _ _) trivial
    · -- 40
      intro li a1 W2 hA K hK
      have e76 : a1.tmps.getD 76 undef = .pointer (some ⟨Ro, 1, none⟩) := hA.val 39 76 (by kernel_rfl) (by kernel_rfl)
      have eg74 : a1.tmps.getD 74 undef = .bool true := hA.val 37 74 (by kernel_rfl) (by kernel_rfl)
      have q1 : W2.cell? ⟨Ro, 1, none⟩ = some (.slice (some ⟨R1, 0, none⟩) 2 2) := by rw [(H8.out.2.1.1.keep hA.st).cell]; exact H8.out.2.1.2.1
      refine opStep none 0 rfl (wanted_yes (j := 37) (d := 74) (b := true) rfl (by kernel_rfl) eg74) (fun c hc => by cases hc) ?_
      go_simp
      exact hK _ _ rfl (Below.refl _ _) trivial
    · -- 41
      intro li a1 W2 hA K hK
      have e77 : a1.tmps.getD 77 undef = .slice (some ⟨R1, 0, none⟩) 2 2 := hA.val 40 77 (by kernel_rfl) (by kernel_rfl)
      have eg74 : a1.tmps.getD 74 undef = .bool true := hA.val 37 74 (by kernel_rfl) (by kernel_rfl)
      refine opStep none 0 rfl (wanted_yes (j := 37) (d := 74) (b := true) rfl (by kernel_rfl) eg74) (fun c hc => by cases hc) ?_
      go_simp
      exact hK _ _ rfl (Below.refl _ _) trivial
    · -- 42
      intro li a1 W2 hA K hK
      have e78 : a1.tmps.getD 78 undef = .pointer (some ⟨R1, 0, none⟩) := hA.val 41 78 (by kernel_rfl) (by kernel_rfl)
      have eg74 : a1.tmps.getD 74 undef = .bool true := hA.val 37 74 (by kernel_rfl) (by kernel_rfl)
      have hr1 := H8.out.2.1.2.2.keep hA.st
      have q1 := hr1.c4.1
      have q2 := hr1.c4.2.1
      refine opStep none 0 rfl (wanted_yes (j := 37) (d := 74) (b := true) rfl (by kernel_rfl) eg74) (fun c hc => by cases hc) ?_
      go_simp
      exact hK _ _ rfl (Below.refl _ _) trivial
    · -- 43
      intro li a1 W2 hA K hK
      have eg74 : a1.tmps.getD 74 undef = .bool true := hA.val 37 74 (by kernel_rfl) (by kernel_rfl)
      refine opStep none 0 rfl (wanted_yes (j := 37) (d := 74) (b := true) rfl (by kernel_rfl) eg74) (fun c hc => by cases hc) ?_
      go_simp
      refine (between_any _ _ _).mono ?_
      rintro e W3 ⟨rfl, hb3⟩
      exact hK _ _ rfl hb3 trivial
    · -- 44
      intro li a1 W2 hA K hK
      have e79 : a1.tmps.getD 79 undef = .agg #[.int .i64 5, .int .i64 10] := hA.val 42 79 (by kernel_rfl) (by kernel_rfl)
      have e80 : a1.tmps.getD 80 undef = .agg #[.int .i64 5, .int .i64 10] := hA.val 43 80 (by kernel_rfl) (by kernel_rfl)
      have eg74 : a1.tmps.getD 74 undef = .bool true := hA.val 37 74 (by kernel_rfl) (by kernel_rfl)
      refine opStep none 0 rfl (wanted_yes (j := 37) (d := 74) (b := true) rfl (by kernel_rfl) eg74) (fun c hc => by cases hc) ?_
      go_simp
      exact hK _ _ rfl (Below.refl _ _) trivial
    · -- 45
      intro li a1 W2 hA K hK
      have e74 : a1.tmps.getD 74 undef = .bool true := hA.val 37 74 (by kernel_rfl) (by kernel_rfl)
      have e81 : a1.tmps.getD 81 undef = .bool true := hA.val 44 81 (by kernel_rfl) (by kernel_rfl)
      refine opStep none 0 rfl rfl (fun c hc => by cases hc) ?_
      go_simp
      exact hK _ _ rfl (Below.refl _ _) trivial
    · -- 46
      intro li a1 W2 hA K hK
      have e82 : a1.tmps.getD 82 undef = .bool true := hA.val 45 82 (by kernel_rfl) (by kernel_rfl)
      refine opStep none 0 rfl rfl (fun c hc => by cases hc) ?_
      go_simp
      exact hK _ _ rfl (Below.refl _ _) trivial
    · -- 47
      intro li a1 W2 hA K hK
      have e9 := hA.par 9 (by kernel_rfl)
      have eg83 : a1.tmps.getD 83 undef = .bool true := hA.val 46 83 (by kernel_rfl) (by kernel_rfl)
      refine opStep none 0 rfl (wanted_yes (j := 46) (d := 83) (b := true) rfl (by kernel_rfl) eg83) (fun c hc => by cases hc) ?_
      go_simp
      exact hK _ _ rfl (Below.refl _ _) trivial
    · -- 48
      intro li a1 W2 hA K hK
      have e84 : a1.tmps.getD 84 undef = .int .i64 0 := hA.val 47 84 (by kernel_rfl) (by kernel_rfl)
      have eg83 : a1.tmps.getD 83 undef = .bool true := hA.val 46 83 (by kernel_rfl) (by kernel_rfl)
      refine opStep none 0 rfl (wanted_yes (j := 46) (d := 83) (b := true) rfl (by kernel_rfl) eg83) (fun c hc => by cases hc) ?_
      go_simp
      exact hK _ _ rfl (Below.refl _ _) trivial
    · -- 49
      intro li a1 W2 hA K hK
      have e83 : a1.tmps.getD 83 undef = .bool true := hA.val 46 83 (by kernel_rfl) (by kernel_rfl)
      have e85 : a1.tmps.getD 85 undef = .bool true := hA.val 48 85 (by kernel_rfl) (by kernel_rfl)
      refine opStep none 0 rfl rfl (fun c hc => by cases hc) ?_
      go_simp
      exact hK _ _ rfl (Below.refl _ _) trivial
    · -- 50
      intro li a1 W2 hA K hK
      have e86 : a1.tmps.getD 86 undef = .bool true := hA.val 49 86 (by kernel_rfl) (by kernel_rfl)
      refine opStep none 0 rfl rfl (fun c hc => by cases hc) ?_
      go_simp
      exact hK _ _ rfl (Below.refl _ _) trivial
    · -- 51
      intro li a1 W2 hA K hK
      have e8 := hA.par 8 (by kernel_rfl)
      have eg87 : a1.tmps.getD 87 undef = .bool true := hA.val 50 87 (by kernel_rfl) (by kernel_rfl)
      refine opStep none 0 rfl (wanted_yes (j := 50) (d := 87) (b := true) rfl (by kernel_rfl) eg87) (fun c hc => by cases hc) ?_
      go_simp
      exact hK _ _ rfl (Below.refl _ _) trivial
    · -- 52
      intro li a1 W2 hA K hK
      have eg87 : a1.tmps.getD 87 undef = .bool true := hA.val 50 87 (by kernel_rfl) (by kernel_rfl)
      refine opStep none 0 rfl (wanted_yes (j := 50) (d := 87) (b := true) rfl (by kernel_rfl) eg87) (fun c hc => by cases hc) ?_
      go_simp
      exact hK _ _ ⟨_, rfl, Blk.new _ _ _⟩ ((Below.refl _ _).alloc (Nat.le_refl _) _) trivial
    · -- 53
      intro li a1 W2 hA K hK
      have e88 : a1.tmps.getD 88 undef = .slice A7 3 c7 := hA.val 51 88 (by kernel_rfl) (by kernel_rfl)
      have e89 := hA.val 52 89 (by kernel_rfl) (by kernel_rfl)
      have eg87 : a1.tmps.getD 87 undef = .bool true := hA.val 50 87 (by kernel_rfl) (by kernel_rfl)
      obtain ⟨gg, e89', hg1⟩ := e89
      obtain ⟨i1, i2, i3⟩ := H8.out.2.2.1
      have HS := hid (ints_any A7 c7 [4, 3, 3] (some ⟨gg, 0, none⟩) 3 [4, 3, 3] W2 (i1.at_ hA.st) (ints_three hg1) i2 i3 (by decide) (by decide))
      refine opStep none 0 rfl (wanted_yes (j := 50) (d := 87) (b := true) rfl (by kernel_rfl) eg87) (fun c hc => by cases hc) ?_
      go_simp
      refine HS.out.mono ?_
      rintro e W3 ⟨rfl, hb3⟩
      exact hK _ _ rfl hb3 trivial
    · -- 54
      intro li a1 W2 hA K hK
      have e87 : a1.tmps.getD 87 undef = .bool true := hA.val 50 87 (by kernel_rfl) (by kernel_rfl)
      have e90 : a1.tmps.getD 90 undef = .bool true := hA.val 53 90 (by kernel_rfl) (by kernel_rfl)
      refine opStep none 0 rfl rfl (fun c hc => by cases hc) ?_
      go_simp
      exact hK _ _ rfl (Below.refl _ _) trivial
    · -- 55
      intro li a1 W2 hA K hK
      have e91 : a1.tmps.getD 91 undef = .bool true := hA.val 54 91 (by kernel_rfl) (by kernel_rfl)
      refine opStep none 0 rfl rfl (fun c hc => by cases hc) ?_
      go_simp
      exact hK _ _ rfl (Below.refl _ _) trivial
    · -- 56
      intro li a1 W2 hA K hK
      have e11 := hA.par 11 (by kernel_rfl)
      have eg92 : a1.tmps.getD 92 undef = .bool true := hA.val 55 92 (by kernel_rfl) (by kernel_rfl)
      refine opStep none 0 rfl (wanted_yes (j := 55) (d := 92) (b := true) rfl (by kernel_rfl) eg92) (fun c hc => by cases hc) ?_
      go_simp
      exact hK _ _ rfl (Below.refl _ _) trivial
    · -- 57
      intro li a1 W2 hA K hK
      have e93 : a1.tmps.getD 93 undef = .int .i64 0 := hA.val 56 93 (by kernel_rfl) (by kernel_rfl)
      have eg92 : a1.tmps.getD 92 undef = .bool true := hA.val 55 92 (by kernel_rfl) (by kernel_rfl)
      refine opStep none 0 rfl (wanted_yes (j := 55) (d := 92) (b := true) rfl (by kernel_rfl) eg92) (fun c hc => by cases hc) ?_
      go_simp
      exact hK _ _ rfl (Below.refl _ _) trivial
    · -- 58
      intro li a1 W2 hA K hK
      have e92 : a1.tmps.getD 92 undef = .bool true := hA.val 55 92 (by kernel_rfl) (by kernel_rfl)
      have e94 : a1.tmps.getD 94 undef = .bool true := hA.val 57 94 (by kernel_rfl) (by kernel_rfl)
      refine opStep none 0 rfl rfl (fun c hc => by cases hc) ?_
      go_simp
      exact hK _ _ rfl (Below.refl _ _) trivial
    · -- 59
      intro li a1 W2 hA K hK
      have e95 : a1.tmps.getD 95 undef = .bool true := hA.val 58 95 (by kernel_rfl) (by kernel_rfl)
      refine opStep none 0 rfl rfl (fun c hc => by cases hc) ?_
      go_simp
      exact hK _ _ rfl (Below.refl _ _) trivial
    · -- 60
      intro li a1 W2 hA K hK
      have e10 := hA.par 10 (by kernel_rfl)
      have eg96 : a1.tmps.getD 96 undef = .bool true := hA.val 59 96 (by kernel_rfl) (by kernel_rfl)
      have hr1 := H8.out.2.2.2.1.keep hA.st
      have q1 := hr1.c2.1
      have q2 := hr1.c2.2
      refine opStep none 0 rfl (wanted_yes (j := 59) (d := 96) (b := true) rfl (by kernel_rfl) eg96) (fun c hc => by cases hc) ?_
      go_simp
      exact hK _ _ rfl (Below.refl _ _) trivial
    · -- 61
      intro li a1 W2 hA K hK
      have eg96 : a1.tmps.getD 96 undef = .bool true := hA.val 59 96 (by kernel_rfl) (by kernel_rfl)
      refine opStep none 0 rfl (wanted_yes (j := 59) (d := 96) (b := true) rfl (by kernel_rfl) eg96) (fun c hc => by cases hc) ?_
      go_simp
      refine (between_any _ _ _).mono ?_
      rintro e W3 ⟨rfl, hb3⟩
      exact hK _ _ rfl hb3 trivial
    · -- 62
      intro li a1 W2 hA K hK
      have e97 : a1.tmps.getD 97 undef = .agg #[.int .i64 6, .int .i64 14] := hA.val 60 97 (by kernel_rfl) (by kernel_rfl)
      have e98 : a1.tmps.getD 98 undef = .agg #[.int .i64 6, .int .i64 14] := hA.val 61 98 (by kernel_rfl) (by kernel_rfl)
      have eg96 : a1.tmps.getD 96 undef = .bool true := hA.val 59 96 (by kernel_rfl) (by kernel_rfl)
      refine opStep none 0 rfl (wanted_yes (j := 59) (d := 96) (b := true) rfl (by kernel_rfl) eg96) (fun c hc => by cases hc) ?_
      go_simp
      exact hK _ _ rfl (Below.refl _ _) trivial
    · -- 63
      intro li a1 W2 hA K hK
      have e96 : a1.tmps.getD 96 undef = .bool true := hA.val 59 96 (by kernel_rfl) (by kernel_rfl)
      have e99 : a1.tmps.getD 99 undef = .bool true := hA.val 62 99 (by kernel_rfl) (by kernel_rfl)
      refine opStep none 0 rfl rfl (fun c hc => by cases hc) ?_
      go_simp
      exact hK _ _ rfl (Below.refl _ _) trivial
  -- GREAT END
  · intro li a1 W2 hD
    have e100 : a1.tmps.getD 100 undef = .bool true := hD.val 63 100 (by kernel_rfl) (by kernel_rfl)
    have hds := hD.size
    have hs101 : a1.tmps.size = 101 := hD.size
    have hdd : a1.defers = [] := hD.defers
    have hst := hD.st
    refine tail_val (i := 64) (v := .bool true) (W' := W2) none 0 rfl rfl rfl (fun c hc => by cases hc) (by go_simp) (by rw [hs101]; decide) ?_
    intro a2 s2 d2 f2 o2
    refine wpListIn_nil ?_
    have e := act_eq (s2.trans hs101) (d2.trans hdd)
    have g0 : (fun i => a2.tmps.getD i undef) 0 = .bool true := f2
    generalize (fun i => a2.tmps.getD i undef) = g at e g0
    rw [e]
    have HF := hid (H8.out.2.2.2.2.trans (hst.mono H8.out.2.2.2.2.size))
    clear e hD e100 hds hs101 hdd hst s2 d2 f2 o2 H8
    simp only [List.range, List.range.loop, List.map_cons, List.map_nil, g0]
    go_wp2
    go_ret
    exact ⟨rfl, HF.out⟩
end Go.Proofs.Ytgoianldiomdoaa
/- The reference: small tests of numbers. -/
namespace Go.Proofs.Ytgoianldiomdoaa
open Go.RowKit Go.Shelf

theorem in_any (n lo hi : Int) (w : World) : Calls Try.prog 27 #[.int .i64 n, .int .i64 lo, .int .i64 hi] w fun e w' => e = .returned (.bool (withinB n lo hi)) ∧ w = w' := by
  by_cases h1 : lo ≤ n
  · have hd : withinB n lo hi = decide (n ≤ hi) := by simp [withinB, h1]
    go_enter Try.func27, Try.ntmps27
    go_wp2
    go_ret
    exact ⟨ret_bool hd.symm, rfl⟩
  · have hd : withinB n lo hi = false := by simp [withinB, h1]
    have hd1 : decide (lo ≤ n) = false := by simp; omega
    have HD := hid hd
    clear hd
    go_enter Try.func27, Try.ntmps27
    go_wp2
    go_ret
    exact ⟨ret_bool HD.out.symm, rfl⟩
/-- whether a number is a neighbour of another one -/
def nbrB (b n m : Int) : Bool := (n.tmod b == 0) && withinB (n - m) (1 - b) (b - 1)
theorem nbr_any (b n m : Int) (w : World) (hb : 1 ≤ b ∧ b ≤ 1000) (hn : -1000000000 ≤ n ∧ n ≤ 1000000000) (hm : -1000000000 ≤ m ∧ m ≤ 1000000000) :
    Calls Try.prog 28 #[.int .i64 b, .int .i64 n, .int .i64 m] w fun e w' => e = .returned (.bool (nbrB b n m)) ∧ w = w' := by
  have K := hid (fun W => in_any (n - m) (1 - b) (b - 1) W)
  obtain ⟨hb1, hb2⟩ := hb
  obtain ⟨hn1, hn2⟩ := hn
  obtain ⟨hm1, hm2⟩ := hm
  have hb0 : (b == 0) = false := by simp; omega
  cases h : (n.tmod b == 0)
  · have HE := hid (show nbrB b n m = false by unfold nbrB; rw [h]; rfl)
    go_enter Try.func28, Try.ntmps28
    go_wp2
    go_ret
    exact ⟨ret_bool HE.out.symm, rfl⟩
  · have HE := hid (show nbrB b n m = withinB (n - m) (1 - b) (b - 1) by unfold nbrB; rw [h]; rfl)
    go_enter Try.func28, Try.ntmps28
    go_wp2_with fail
    refine (K.out _).mono ?_
    rintro e w2 ⟨rfl, rfl⟩
    go_wp2
    go_ret
    exact ⟨ret_bool HE.out.symm, rfl⟩
end Go.Proofs.Ytgoianldiomdoaa
/- The last step of each statement's proof: a call that has only laid new memory leaves its arguments as they read. -/
namespace Go.Proofs.Ytgoianldiomdoaa
open Go.ChangeShapes Go.WideShapes Go.ChangeAt Go.RowKit

section
variable {H : Type} {enc : TypeId × Value → H}
/-- arguments read as they did -/
theorem trodAll_below {P : Program} (hl : laidOutB P = true) {W W' : World} (hb : Below W.heap.size W W') : ∀ {ts : List TypeId} {vs : List Value} {ds : List (DataW H)} {ps : List MemPlace},
    (ts.all fun t => P.readableRec t && decide (t < P.types.size)) = true → DataW.TrodAll enc P W 0 (fun _ => true) true ts vs ds ps → (∀ x ∈ ps, x.block < W.heap.size) →
    DataW.TrodAll enc P W' 0 (fun b => decide (b < W.heap.size)) true ts vs ds ps := by
  intro ts
  induction ts with
  | nil =>
    intro vs ds ps _ h _
    obtain ⟨rfl, rfl, rfl⟩ := trodAll_nil h
    exact trodAll_mk0
  | cons t ts ih =>
    intro vs ds ps ht h hp
    obtain ⟨v, vs', d, ds', p, p', rfl, rfl, rfl, h0, h1⟩ := trodAll_cons h
    simp only [List.all_cons, Bool.and_eq_true, decide_eq_true_eq] at ht
    exact trodAll_cons_mk (hb.trod hl ht.1.1 ht.1.2 h0 fun x hx => hp x (List.mem_append_left _ hx)) (ih ht.2 h1 fun x hx => hp x (List.mem_append_right _ hx))
theorem law_post {f : Func} {s : ChangeSpec} {W W' : World} {args : Array Value} {ds gs : List (DataW H)} {before : List MemPlace} (hl : laidOutB Try.prog = true) (hv : s.vars = [])
    (hr : f.resultTypes = #[4]) (hp : (f.params.toList.all fun t => Try.prog.readableRec t && decide (t < Try.prog.types.size)) = true)
    (hW : DataW.Whole enc Try.prog f.params.toList s.vars false W args.toList ds gs before) (hs : s.fn H (ds ++ gs) = { results := [.lit (.bool true)], args := ds }) (hb : Below W.heap.size W W') :
    s.post enc Try.prog f false true false false W args (.bool true) W' := by
  have hlt := hW.lt
  have hW' := hW
  obtain ⟨p, q, hA, hV, rfl, _, _⟩ := hW
  rw [hv] at hV
  obtain ⟨rfl, rfl⟩ := trodVars_none hV
  refine ⟨ds, [], p ++ [], [], p, [], hW', ?_, ?_, ?_, ?_, fun h => by cases h⟩
  · rw [hs, hr]
    exact trodAll_cons_mk (shut_bool Try.underlying4 _) trodAll_mk0
  · rw [hs]
    exact trodAll_below hl hb hp hA fun x hx => hlt x (by simpa using hx)
  · rw [hs, hv]; rfl
  · exact World.keptBut_mono (fun x hx => ⟨hx, .inr (.inl (by simpa using hx))⟩) (hb.frame (· ∈ p ++ []))
end
theorem own : ownKnob Try.prog.godebug = none := by kernel_rfl
theorem laid_out : laidOutB Try.prog = true := by kernel_rfl
end Go.Proofs.Ytgoianldiomdoaa
