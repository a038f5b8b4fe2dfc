/- The walks and the plain laws of this part of the program, part 16: what each computes. Conditions stand at each theorem. -/
import Derived.Deep.Cut
import Derived.Test.YtlnamjhgbdacbaaGreatRows
import Derived.WalkKit
import Derived.ProofKit
import Derived.OpenShut
import Derived.ChangeSlices
import Derived.Deep.Matrix
import Derived.Lib.SmallJoins
import Derived.Deep.Strs
import Derived.Test.YtlnamjhgbdacbaaGreatK1
import Derived.Test.YtlnamjhgbdacbaaGreatK2
import Derived.Test.YtlnamjhgbdacbaaGreatK6
import Derived.Test.YtlnamjhgbdacbaaGreatK12
import Derived.Test.YtlnamjhgbdacbaaGreatK13
import Derived.Test.YtlnamjhgbdacbaaGreatK14
import Derived.Test.YtlnamjhgbdacbaaGreatK15
/- Tour of a map with one place. Conditions stand at each theorem. -/
namespace Go.Proofs.YtlnamjhgbdacbaaGreat
open Go.RowKit Go.Shelf

theorem wjns_one {w : World} {B : Nat} {x y : Int} (h : Blk w B 87 #[.int .i64 x, .int .i64 y]) : IsJns w w.heap.size (some ⟨B, 0, none⟩) [⟨x, y⟩] := by
  obtain ⟨h0, h1⟩ := h.c2
  intro k j hk
  cases k with
  | zero => simp at hk; subst hk; exact ⟨_, rfl, h.lt, h0, h1⟩
  | succ k => simp at hk
theorem ints_one' {w : World} {B t : Nat} {x : Int} (h : Blk w B t #[.int .i64 x]) : IsInts w w.heap.size (some ⟨B, 0, none⟩) [x] := by
  have h0 := h.c1
  intro k j hk
  cases k with
  | zero => simp at hk; subst hk; exact ⟨_, rfl, h.lt, h0⟩
  | succ k => simp at hk

set_option maxRecDepth 100000 in
set_option maxHeartbeats 4000000 in
theorem wtour_top {B P : Nat} (w : World) (hb : Blk w B 87 #[.int .i64 1, .int .i64 2]) (hp : Blk w P 3 #[.int .i64 0]) :
    Calls Tryz.prog 20 #[.agg #[.slice (some ⟨B, 0, none⟩) 1 1, .slice none 0 0], .slice (some ⟨P, 0, none⟩) 1 1] w fun e w' => (∃ b a c, e = .returned (.tuple #[.agg #[.slice (some ⟨b, 0, none⟩) 1 1, .slice (some a) 1 c], .int .i64 2, .int .i64 0])) ∧ Below w.heap.size w w' := by
  have hB := (below_box (w := w) #[.slice (some ⟨B, 0, none⟩) 1 1, .slice none 0 0] 65).alloc (below_box (w := w) #[.slice (some ⟨B, 0, none⟩) 1 1, .slice none 0 0] 65).size (.cells #[.slice none 0 0, .slice none 0 0] 73)
  have hT := (Blk.new w 65 #[.slice (some ⟨B, 0, none⟩) 1 1, .slice none 0 0]).alloc (.cells #[.slice none 0 0, .slice none 0 0] 73)
  have hL := Blk.new (w.alloc (.cells #[.slice (some ⟨B, 0, none⟩) 1 1, .slice none 0 0] 65)) 73 #[.slice none 0 0, .slice none 0 0]
  rw [World.size_alloc] at hL
  have HB := hid hb
  have HP := hid hp
  have HS := hid (And.intro hB (And.intro hT hL))
  have hmx : (1 : Nat) ≤ maxLen := by unfold maxLen; omega
  have HMX := hid hmx
  clear hb hp hB hT hL hmx
  go_enter Tryz.func20, Tryz.ntmps20
  go_upto_region 1 with (fail)
  refine gen (p := Code.wp _ _ _ _) (fun W => Below w.heap.size w W ∧ Blk W w.heap.size 65 #[.slice (some ⟨B, 0, none⟩) 1 1, .slice none 0 0] ∧ Blk W (w.heap.size + 1) 73 #[.slice none 0 0, .slice none 0 0]) HS.out ?_
  clear HS
  rintro W1 h1
  have H1 := hid h1
  obtain ⟨t0, t1⟩ := h1.2.1.c2
  clear h1
  go_wp2_with fail
  refine (wcheck_plain (some ⟨B, 0, none⟩) 1 [⟨1, 2⟩] W1 (wjns_one (HB.out.keep H1.out.1)) (Nat.le_refl _) HMX.out (Nat.le_refl _) (by decide) (by decide)).mono ?_
  rintro e W2 ⟨rfl, hb⟩
  have H2 := hid (show Below w.heap.size w W2 ∧ Blk W2 w.heap.size 65 #[.slice (some ⟨B, 0, none⟩) 1 1, .slice none 0 0] ∧ Blk W2 (w.heap.size + 1) 73 #[.slice none 0 0, .slice none 0 0] from ⟨H1.out.1.trans (hb.mono H1.out.1.size), H1.out.2.1.keep hb, H1.out.2.2.keep hb⟩)
  clear t0 t1 hb H1
  obtain ⟨t0, t1⟩ := H2.out.2.1.c2
  go_wp2_with fail
  refine (wrises_one (some ⟨P, 0, none⟩) 1 W2).mono ?_
  rintro e W3 ⟨rfl, hb⟩
  have H3 := hid (show Below w.heap.size w W3 ∧ Blk W3 w.heap.size 65 #[.slice (some ⟨B, 0, none⟩) 1 1, .slice none 0 0] ∧ Blk W3 (w.heap.size + 1) 73 #[.slice none 0 0, .slice none 0 0] from ⟨H2.out.1.trans (hb.mono H2.out.1.size), H2.out.2.1.keep hb, H2.out.2.2.keep hb⟩)
  clear t0 t1 hb H2
  obtain ⟨t0, t1⟩ := H3.out.2.1.c2
  go_wp2_with fail
  refine (wplaces_one (some ⟨P, 0, none⟩) 1 1 1 (some ⟨B, 0, none⟩) (.slice none 0 0) W3 (ints_one' (HP.out.keep H3.out.1)) (Nat.le_refl _) HMX.out (Nat.le_refl _) (by decide)).mono ?_
  rintro e W4 ⟨rfl, hb⟩
  have H4 := hid (show Below w.heap.size w W4 ∧ Blk W4 w.heap.size 65 #[.slice (some ⟨B, 0, none⟩) 1 1, .slice none 0 0] ∧ Blk W4 (w.heap.size + 1) 73 #[.slice none 0 0, .slice none 0 0] from ⟨H3.out.1.trans (hb.mono H3.out.1.size), H3.out.2.1.keep hb, H3.out.2.2.keep hb⟩)
  clear t0 t1 hb H3
  obtain ⟨t0, t1⟩ := H4.out.2.1.c2
  have p0 := (HP.out.keep H4.out.1).c1
  have hbits : bits BinOp.or IntKind.i64 0 1 = 1 := by decide
  go_wp2
  refine wp_loop_rounds 2 ?_
  rw [rounds_succ]
  go_wp2
  rw [rounds_succ]
  go_wp2_with fail
  refine (watlas_one (some ⟨B, 0, none⟩) 1 W4).mono ?_
  rintro e W5 ⟨rfl, h5⟩
  have H5 := hid h5
  have H5b := hid (show Below w.heap.size w W5 ∧ Blk W5 (w.heap.size + 1) 73 #[.slice none 0 0, .slice none 0 0] ∧ Blk W5 B 87 #[.int .i64 1, .int .i64 2] from ⟨H4.out.1.trans (h5.below.mono H4.out.1.size), H4.out.2.2.keep h5.below, (HB.out.keep H4.out.1).keep h5.below⟩)
  have HLT := hid (show w.heap.size + 1 < W4.heap.size ∧ B < w.heap.size from ⟨H4.out.2.2.lt, HB.out.lt⟩)
  clear t0 t1 p0 h5 hbits
  go_wp2_with fail
  refine (wlongest_one W5 H5.out.at_ H5.out.mp H5b.out.2.2 (by omega) (by have := HLT.out; omega)).mono ?_
  rintro e W6 ⟨rfl, hch, hto⟩
  have HTO := hid hto
  have H6 := hid (show Below w.heap.size w W6 ∧ Blk W6 (w.heap.size + 1) 73 #[.slice none 0 0, .slice none 0 0] ∧ AtOne W6 (W4.heap.size + 2) (W4.heap.size + 1) (some ⟨B, 0, none⟩) 1 (.int .i64 0) (.int .i64 0) from
    ⟨H5b.out.1.trans (hch.below (n := w.heap.size) (fun k e => by have := HLT.out; omega) H5b.out.1.size), hch.blk H5b.out.2.1 (fun e => by have := HLT.out; omega), by
      obtain ⟨cs, hc, hr⟩ := H5.out.at_.blk
      exact ⟨cs, hch.blk hc (fun e => by omega), hr⟩⟩)
  clear hch hto H5 H5b
  go_wp2_with fail
  refine (wtour_one W6 H6.out.2.2 HTO.out).mono ?_
  rintro e W7 ⟨⟨b, a7, c7, rfl⟩, hb⟩
  have H7 := hid (show Below w.heap.size w W7 ∧ Blk W7 (w.heap.size + 1) 73 #[.slice none 0 0, .slice none 0 0] from ⟨H6.out.1.trans (hb.mono H6.out.1.size), H6.out.2.1.keep hb⟩)
  clear hb H6 HTO
  obtain ⟨q0, q1⟩ := H7.out.2.c2
  have qf0 := H7.out.2.frozen 0
  have qf1 := H7.out.2.frozen 1
  have ql := H7.out.2.lt
  go_wp2
  have HX := hid (show Blk ((W7.setCell ⟨w.heap.size + 1, 0, none⟩ (.slice (some ⟨b, 0, none⟩) 1 1)).setCell ⟨w.heap.size + 1, 1, none⟩ (.slice (some a7) 1 c7)) (w.heap.size + 1) 73 #[.slice (some ⟨b, 0, none⟩) 1 1, .slice (some a7) 1 c7] ∧ Below w.heap.size w ((W7.setCell ⟨w.heap.size + 1, 0, none⟩ (.slice (some ⟨b, 0, none⟩) 1 1)).setCell ⟨w.heap.size + 1, 1, none⟩ (.slice (some a7) 1 c7)) from ⟨(H7.out.2.set_ 0 _).set_ 1 _, (H7.out.1.setCell (p := ⟨w.heap.size + 1, 0, none⟩) (Nat.le_succ _) _).setCell (p := ⟨w.heap.size + 1, 1, none⟩) (Nat.le_succ _) _⟩)
  clear H7 q0 q1 qf0 qf1 ql
  generalize ((W7.setCell ⟨w.heap.size + 1, 0, none⟩ (.slice (some ⟨b, 0, none⟩) 1 1)).setCell ⟨w.heap.size + 1, 1, none⟩ (.slice (some a7) 1 c7)) = W9 at *
  obtain ⟨q0, q1⟩ := HX.out.1.c2
  exact bodyPost_ret (v := .tuple #[.agg #[.slice (some ⟨b, 0, none⟩) 1 1, .slice (some a7) 1 c7], .int .i64 2, .int .i64 0]) (by simp [results, Tryz.results20, go_sem, q0, q1]) rfl ⟨⟨_, _, _, rfl⟩, HX.out.2⟩
end Go.Proofs.YtlnamjhgbdacbaaGreat
/- The example with two streets, one place and one table. No condition. -/
namespace Go.Proofs.YtlnamjhgbdacbaaGreat
open Go.RowKit Go.Shelf

def twoM : MapD := ⟨[7], 2, [⟨0, 0, 1, 0, 9⟩, ⟨0, 1, 1, 0, 9⟩], []⟩
def twoS : Array Value := #[.int .i64 0, .int .i64 0, .int .i64 1, .int .i64 0, .int .i64 9, .int .i64 0, .int .i64 1, .int .i64 1, .int .i64 0, .int .i64 9]
theorem two_s : ∀ k s, twoM.ss[k]? = some s → twoS[k * 5]? = some (.int .i64 s.o) ∧ twoS[k * 5 + 1]? = some (.int .i64 s.n) ∧ twoS[k * 5 + 2]? = some (.int .i64 s.wt) ∧ twoS[k * 5 + 3]? = some (.int .i64 s.lo) ∧ twoS[k * 5 + 4]? = some (.int .i64 s.hi) := fun k s hk => by
  match k, hk with
  | 0, hk => cases hk; exact ⟨rfl, rfl, rfl, rfl, rfl⟩
  | 1, hk => cases hk; exact ⟨rfl, rfl, rfl, rfl, rfl⟩
  | k + 2, hk => simp [twoM] at hk
theorem two_o : ∀ (k : Nat) x, twoM.old[k]? = some x → (#[.int .i64 7] : Array Value)[k]? = some (.int .i64 x) := fun k s hk => by
  match k, hk with
  | 0, hk => cases hk; rfl
  | k + 1, hk => simp [twoM] at hk
theorem two_chk : chkM twoM = 0 := by decide +kernel
theorem two_car : car twoM = [4, 3] := by decide +kernel
theorem two_sm : smD twoM (ownL twoM) (car twoM) = [4, 3] := by decide +kernel
def tabC : List (List Int) := [[4, 3]]
theorem tab_chk : chkE 5 tabC [] = 0 := by decide +kernel
theorem tab_ways : (spec 5 tabC [] tabC.length zeroS).ways = 3 := by decide +kernel
theorem two_min {g1 g2 : Nat} {w : World} (h1 : Blk w g1 3 #[.int .i64 7]) (h2 : Blk w g2 70 twoS) : MIn twoM (some ⟨g1, 0, none⟩) 1 (some ⟨g2, 0, none⟩) 2 none 0 w :=
  ⟨zints_of h1 two_o, zstts_of h2 two_s, (fun k j hk => by simp [twoM] at hk), by decide, by decide, by decide, by decide, by decide, by decide⟩
theorem tab_tin {g1 g2 : Nat} {w : World} (h1 : Blk w g1 3 #[.int .i64 4, .int .i64 3]) (h2 : Blk w g2 22 #[.slice (some ⟨g1, 0, none⟩) 2 2]) : TIn (some ⟨g2, 0, none⟩) 1 tabC none 0 [] w := by
  have c0 := h2.c1
  obtain ⟨d0, d1⟩ := h1.c2
  refine ⟨fun k xs hk => ?_, (fun k j hk => by simp at hk), by decide, by decide, by decide, by decide, by decide⟩
  cases k with
  | zero =>
    simp [tabC] at hk
    subst hk
    refine ⟨_, _, _, rfl, h2.lt, c0, Nat.le_refl _, by decide, fun j x hj => ?_⟩
    match j, hj with
    | 0, hj => simp at hj; subst hj; exact ⟨_, rfl, h1.lt, d0⟩
    | 1, hj => simp at hj; subst hj; exact ⟨_, rfl, h1.lt, d1⟩
    | j + 2, hj => simp at hj
  | succ k => simp [tabC] at hk

set_option maxRecDepth 100000 in
set_option maxHeartbeats 4000000 in
theorem carried_y (w : World) : Calls Tryz.prog 7 #[] w fun e w' => e = .returned (.bool true) ∧ Below w.heap.size w w' := by
  have b1 := below_box (w := w) #[.int .i64 7] 3
  have b2 := then_below b1 (below_box twoS 70)
  have k1 := (Blk.new w 3 #[.int .i64 7]).alloc (.cells twoS 70)
  have k2 := Blk.new (w.alloc (.cells #[.int .i64 7] 3)) 70 twoS
  rw [World.size_alloc] at k2
  have K1 := zcarry_good (two_min k1 k2) two_chk
  unfold zGivesCar at K1
  rw [two_sm, two_car] at K1
  have K7 := hid K1
  have HB := hid b2
  clear b1 b2 k1 k2 K1
  go_enter Tryz.func7, Tryz.ntmps7
  go_wp2_with fail
  refine K7.out.mono ?_
  rintro e w1 ⟨⟨A5, c5⟩, ⟨A6, c6⟩, rfl, hp, hq, hb⟩
  have HP := hid hp
  have HQ := hid hq
  have HB1 := hid (HB.out.trans (hb.mono HB.out.size))
  clear hp hq hb K7 HB
  have b1 := below_box (w := w1) #[.int .i64 1, .int .i64 2] 87
  have b2 := then_below b1 (below_box #[.int .i64 0] 3)
  have k1 := (Blk.new w1 87 #[.int .i64 1, .int .i64 2]).alloc (.cells #[.int .i64 0] 3)
  have k2 := Blk.new (w1.alloc (.cells #[.int .i64 1, .int .i64 2] 87)) 3 #[.int .i64 0]
  rw [World.size_alloc] at k2
  have K2 := hid (wtour_top _ k1 k2)
  have HB := hid b2
  clear b1 b2 k1 k2
  go_wp2_with fail
  refine K2.out.mono ?_
  rintro e w2 ⟨⟨b, a, c, rfl⟩, hb⟩
  have HB2 := hid (HB.out.trans (hb.mono HB.out.size))
  have HP2 := hid (HP.out.at_ HB2.out)
  have HQ2 := hid (HQ.out.at_ HB2.out)
  have HBB := hid (HB1.out.trans (HB2.out.mono HB1.out.size))
  clear hb K2 HB HP HQ HB1 HB2
  go_upto_region 3 with (fail)
  refine gen (p := Code.wp _ _ _ _) (fun W => Below w2.heap.size w2 W ∧ Blk W w2.heap.size 73 #[.slice (some ⟨b, 0, none⟩) 1 1, .slice (some a) 1 c]) ⟨below_box _ _, Blk.new _ _ _⟩ ?_
  rintro W3 ⟨hb3, hw3⟩
  have HP3 := hid (HP2.out.at_ hb3)
  have HQ3 := hid (HQ2.out.at_ hb3)
  have HB3 := hid (HBB.out.trans (hb3.mono HBB.out.size))
  have HW3 := hid hw3
  clear hb3 hw3 HP2 HQ2 HBB
  generalize w2.heap.size = wb at *
  have b1 := below_box (w := W3) #[.int .i64 4, .int .i64 3] 3
  have b2 := then_below b1 (below_box #[.slice (some ⟨W3.heap.size, 0, none⟩) 2 2] 22)
  have k1 := (Blk.new W3 3 #[.int .i64 4, .int .i64 3]).alloc (.cells #[.slice (some ⟨W3.heap.size, 0, none⟩) 2 2] 22)
  have k2 := Blk.new (W3.alloc (.cells #[.int .i64 4, .int .i64 3] 3)) 22 #[.slice (some ⟨W3.heap.size, 0, none⟩) 2 2]
  rw [World.size_alloc] at k2
  have K3 := ways_any 5 _ _ _ _ _ _ _ (tab_tin k1 k2)
  rw [if_pos tab_chk, tab_ways] at K3
  have K9 := hid K3
  have HB := hid b2
  clear b1 b2 k1 k2 K3
  go_wp2_with fail
  refine K9.out.mono ?_
  rintro e w4 ⟨rfl, hb⟩
  have hb4 := HB.out.trans (hb.mono HB.out.size)
  have HB4 := hid (HB3.out.trans (hb4.mono HB3.out.size))
  obtain ⟨q0, q1⟩ := (HW3.out.keep hb4).c2
  obtain ⟨a5, rfl, _, p5⟩ := (HP3.out.at_ hb4).1 0 4 rfl
  obtain ⟨a6, rfl, _, p6⟩ := (HQ3.out.at_ hb4).1 1 3 rfl
  rw [show a5.add 0 = a5 from rfl] at p5
  rw [show a6.add 1 = ⟨a6.block, a6.off + 1, none⟩ from rfl] at p6
  clear hb hb4 K9 HB HP3 HQ3 HB3 HW3
  go_wp2
  go_ret
  exact ⟨rfl, HB4.out⟩
end Go.Proofs.YtlnamjhgbdacbaaGreat
/- Words for TopWalked: the reference's Has, Thin; the map of streets under construction. Conditions stand at each theorem. -/
namespace Go.Proofs.YtlnamjhgbdacbaaGreat
open Go.RowKit Go.Shelf

theorem mem_intsN {l : List Nat} {n : Nat} : (n : Int) ∈ intsN l ↔ n ∈ l := by
  unfold intsN
  rw [List.mem_map]
  constructor
  · rintro ⟨x, hx, e⟩
    have : x = n := by omega
    rw [← this]; exact hx
  · exact fun h => ⟨n, h, rfl⟩
set_option maxRecDepth 10000 in
set_option maxHeartbeats 1000000 in
theorem rwhas_any (A : Option Addr) (c : Nat) (xs : List Int) (x : Int) (w : World) (h : IsInts w w.heap.size A xs) (hl : xs.length ≤ c) (hm : c ≤ maxLen) : Calls Tryz.prog 16 #[.slice A xs.length c, .int .i64 x] w fun e w' => e = .returned (.bool (decide (x ∈ xs))) ∧ w = w' := by
  unfold maxLen at hm
  have HH := hid h
  obtain ⟨N, hN⟩ : ∃ N, xs.length = N := ⟨_, rfl⟩
  rw [hN] at hl ⊢
  have HN := hid hN
  clear h hN
  go_enter Tryz.func16, Tryz.ntmps16
  go_wp2
  go_loopw [5] (fun i W => ∃ k : Nat, k ≤ N ∧ i = .int .i64 k ∧ x ∉ xs.take k ∧ W = w) (fun i _ => N - (intOf i).toNat)
  case atStart => exact ⟨0, Nat.zero_le _, rfl, by simp, by first | trivial | rfl⟩
  case round =>
    obtain ⟨k, hk, rfl, hno, rfl⟩ := hrel
    have HNO := hid hno
    clear hno
    by_cases hlk : k < N
    · have hkI : (k : Int) < (N : Int) := by omega
      obtain ⟨y, hy⟩ : ∃ y, xs[k]? = some y := ⟨_, List.getElem?_eq_getElem (by rw [HN.out]; exact hlk)⟩
      obtain ⟨a, rfl, _, hc⟩ := HH.out k y hy
      have HY := hid hy
      clear hy
      by_cases hxy : y = x
      · have hb : (y == x) = true := by simp [hxy]
        have HF := hid (show decide (x ∈ xs) = true from decide_eq_true (by rw [← hxy]; exact List.mem_of_getElem? HY.out))
        clear hxy
        go_wp2
        go_ret
        exact ⟨ret_bool HF.out.symm, rfl⟩
      · have hb : (y == x) = false := by simp [hxy]
        have HNX := hid (show x ∉ xs.take (k + 1) from by
          rw [take_more HY.out, List.mem_append]
          rintro (h | h)
          · exact HNO.out h
          · simp at h; exact hxy h.symm)
        clear hxy
        go_wp2
        go_roundw
        case rel => exact ⟨k + 1, by omega, by go_num, HNX.out, by first | trivial | rfl⟩
        case measure => first | (simp [intOf]; done) | (simp [intOf]; omega)
    · have hkI : decide ((k : Int) < (N : Int)) = false := decide_eq_false (by omega)
      have HF := hid (show decide (x ∈ xs) = false from decide_eq_false (by have := HNO.out; rwa [List.take_of_length_le (by rw [HN.out]; omega)] at this))
      go_wp2
      go_ret
      exact ⟨ret_bool HF.out.symm, rfl⟩
def wthinB (m : WMD) : Bool := decide ((m.work.length : Int) ≤ 11) && decide ((m.roads.length : Int) ≤ 24)
theorem rwthin_any (m : WMD) (A : Option Addr) (c : Nat) (A2 : Option Addr) (c2 : Nat) (w : World) : Calls Tryz.prog 12 #[.agg #[.slice A m.work.length c, .slice A2 m.roads.length c2]] w fun e w' => e = .returned (.bool (wthinB m)) ∧ Below w.heap.size w w' := by
  have hB := below_box (w := w) #[.slice A m.work.length c, .slice A2 m.roads.length c2] 55
  have HB := hid hB
  clear hB
  cases h1 : decide ((m.work.length : Int) ≤ 11)
  · have hd : wthinB m = false := by unfold wthinB; rw [h1]; rfl
    rw [hd]
    go_enter Tryz.func12, Tryz.ntmps12
    go_wp2
    go_ret
    exact ⟨rfl, HB.out⟩
  · have hd : wthinB m = decide ((m.roads.length : Int) ≤ 24) := by unfold wthinB; rw [h1]; rfl
    rw [hd]
    go_enter Tryz.func12, Tryz.ntmps12
    go_wp2
    go_ret
    exact ⟨rfl, HB.out⟩
/-- both answers of Plan at once -/
def GivesPl1 (m : WMD) (w : World) (e : Ending) (w' : World) : Prop :=
  ∃ ps A c z, e = .returned (.tuple #[.slice A ps.length c, .int .i64 z]) ∧ IsWks w' w'.heap.size A ps ∧ ps.length ≤ c ∧ c ≤ maxLen ∧ ps.length ≤ 256 ∧ ((z = 9 ∧ ps = []) ∨ (z = 0 ∧ OkP m ps)) ∧ Below w.heap.size w w'
theorem wplan_one (m : WMD) (A : Option Addr) (c : Nat) (A2 : Option Addr) (c2 : Nat) (lim : Int) (w : World) (h : WIn m A c A2 c2 w) (ok : OkW m) (h0 : 0 ≤ lim) (h1 : lim ≤ 10000) :
    Calls Tryz.prog 14 #[.agg #[.slice A m.work.length c, .slice A2 m.roads.length c2], .int .i64 lim] w (GivesPl1 m w) :=
  (wplan_any m A c A2 c2 lim w h ok h0 h1).mono fun e w' hp => by
    rcases hp with ⟨he, hb⟩ | ⟨ps, A, c, hp, he, h2, h3, h4, h5⟩
    · exact ⟨[], none, 0, 9, he, (fun k p hk => by simp at hk), Nat.le_refl _, Nat.zero_le _, Nat.zero_le _, .inl ⟨rfl, rfl⟩, hb⟩
    · exact ⟨ps, A, c, 0, he, h2, h3, h4, hp.len, .inr ⟨rfl, hp⟩, h5⟩
/-- the map of streets in its box -/
structure XW (X : MapD) (nn cnt : Int) (gc Bo : Nat) (v2 v3 : Value) (k2 k3 : Nat) (W1 W : World) : Prop where
  bo : Blk W Bo 36 #[.slice (some ⟨gc, 0, none⟩) 1 1, .int .i64 nn, v2, v3]
  bc : Blk W gc 3 #[.int .i64 cnt]
  s2 : W.ownsRow W1.heap.size 70 5 v2 k2 (sttsL (X.ss.take k2))
  s3 : W.ownsRow W1.heap.size 77 2 v3 k3 (jnsL (X.js.take k3))
  bl : Below W1.heap.size W1 W
  ne : W1.heap.size ≤ Bo ∧ W1.heap.size ≤ gc
section
variable {X : MapD} {nn cnt : Int} {gc Bo : Nat} {v2 v3 v' : Value} {k2 k3 : Nat} {W1 W W' : World}
theorem XW.at_ (h : XW X nn cnt gc Bo v2 v3 k2 k3 W1 W) (hb : Below W.heap.size W W') : XW X nn cnt gc Bo v2 v3 k2 k3 W1 W' :=
  ⟨h.bo.keep hb, h.bc.keep hb, row_kept (vo := .slice none 0 0) h.s2 (grown_of_below hb _) (.inl rfl), row_kept (vo := .slice none 0 0) h.s3 (grown_of_below hb _) (.inl rfl), h.bl.trans (hb.mono h.bl.size), h.ne⟩
theorem XW.add2 {s : Stt} (h : XW X nn cnt gc Bo v2 v3 k2 k3 W1 W) (hs : X.ss[k2]? = some s) (hg : W.grownBy W' v2.ownBlock) (ho : W'.ownsRow W1.heap.size 70 5 v' (k2 + 1) (sttsL (X.ss.take k2) ++ sttL s)) :
    XW X nn cnt gc Bo v' v3 (k2 + 1) k3 W1 (W'.setCell ⟨Bo, 2, none⟩ v') := by
  have hbo := blk_grown h.s2 hg h.bo (by decide)
  have hbc := blk_grown h.s2 hg h.bc (by decide)
  refine ⟨hbo.set_ 2 v', hbc.far (p := ⟨Bo, 2, none⟩) (Blk.ne_ hbc hbo (by decide)) _, ?_, ?_, ?_, h.ne⟩
  · rw [take_snoc_at hs, sttsL_snoc]
    exact row_set ho hbo (by decide) _
  · exact row_set (row_kept h.s3 hg (rows_ne h.s2 h.s3 (by decide))) hbo (by decide) _
  · exact (below_row' h.bl h.s2 (Nat.le_refl _) hg h.bl.size).setCell (p := ⟨Bo, 2, none⟩) h.ne.1 _
theorem XW.add3 {j : Jn} (h : XW X nn cnt gc Bo v2 v3 k2 k3 W1 W) (hs : X.js[k3]? = some j) (hg : W.grownBy W' v3.ownBlock) (ho : W'.ownsRow W1.heap.size 77 2 v' (k3 + 1) (jnsL (X.js.take k3) ++ jnL j)) :
    XW X nn cnt gc Bo v2 v' k2 (k3 + 1) W1 (W'.setCell ⟨Bo, 3, none⟩ v') := by
  have hbo := blk_grown h.s3 hg h.bo (by decide)
  have hbc := blk_grown h.s3 hg h.bc (by decide)
  refine ⟨hbo.set_ 3 v', hbc.far (p := ⟨Bo, 3, none⟩) (Blk.ne_ hbc hbo (by decide)) _, ?_, ?_, ?_, h.ne⟩
  · exact row_set (row_kept h.s2 hg (rows_ne h.s3 h.s2 (by decide))) hbo (by decide) _
  · rw [take_snoc_at hs, jnsL_snoc]
    exact row_set ho hbo (by decide) _
  · exact (below_row' h.bl h.s3 (Nat.le_refl _) hg h.bl.size).setCell (p := ⟨Bo, 3, none⟩) h.ne.1 _
/-- a cell of a box that is no part of it changes -/
theorem XW.far {q : Nat} (h : XW X nn cnt gc Bo v2 v3 k2 k3 W1 W) {us : Array Value} (hb : Blk W q 70 us) (hq : v2.ownBlock = none ∨ v2.ownBlock ≠ some q) (hn : W1.heap.size ≤ q) (i : Nat) (u : Value) : XW X nn cnt gc Bo v2 v3 k2 k3 W1 (W.setCell ⟨q, i, none⟩ u) :=
  ⟨h.bo.far (p := ⟨q, i, none⟩) (Blk.ne_ h.bo hb (by decide)) u, h.bc.far (p := ⟨q, i, none⟩) (Blk.ne_ h.bc hb (by decide)) u, h.s2.kept (grown_set' W ⟨q, i, none⟩ u) hq, row_set h.s3 hb (by decide) u, h.bl.setCell (p := ⟨q, i, none⟩) hn u, h.ne⟩
theorem XW.fresh (h : XW X nn cnt gc Bo v2 v3 k2 k3 W1 W) : v2.ownBlock = none ∨ v2.ownBlock ≠ some W.heap.size := by
  cases hv : v2.ownBlock with
  | none => exact .inl rfl
  | some z => exact .inr fun e => by cases e; have := (h.s2.lt _ hv).2; omega
theorem XW.min (h : XW X nn cnt gc Bo v2 v3 X.ss.length X.js.length W1 W) (hX : X.old = [cnt]) : ∃ A7 c7 A8 c8, v2 = .slice A7 X.ss.length c7 ∧ v3 = .slice A8 X.js.length c8 ∧ MIn X (some ⟨gc, 0, none⟩) 1 A7 c7 A8 c8 W := by
  have h2 := h.s2
  have h3 := h.s3
  rw [List.take_length] at h2 h3
  obtain ⟨A7, c7, e7, r1, r2, r3, _, _⟩ := own_stts h2 rfl
  obtain ⟨A8, c8, e8, r4, r5, r6, _, _⟩ := own_jns h3 rfl
  refine ⟨A7, c7, A8, c8, e7, e8, ⟨?_, r1, r4, by rw [hX]; exact Nat.le_refl _, by unfold maxLen; omega, r2, r3, r5, r6⟩⟩
  rw [hX]
  exact ints_one' h.bc
end
theorem sum_bound80 : ∀ (l : List Int), (∀ v ∈ l, 0 ≤ v ∧ v ≤ 80000) → 0 ≤ l.sum ∧ l.sum ≤ (l.length : Int) * 80000
  | [], _ => by simp
  | x :: l, h => by
    have h1 := h x (by simp)
    have h2 := sum_bound80 l fun v hv => h v (by simp [hv])
    simp only [List.sum_cons, List.length_cons]
    omega
theorem trv_d {m : WMD} {cnt : Int} {ps : List (List Nat × List Nat)} (ok : OkM (trvM m cnt ps)) : ∀ v ∈ smD (trvM m cnt ps) (ownL (trvM m cnt ps)) (car (trvM m cnt ps)), 0 ≤ v ∧ v ≤ 80000 := fun v hv => by
  have h := smTo_bounds (M := 10000) (by omega) (car_bounds ok) _ v hv
  have h8 := ok.s8
  rw [car_len] at h
  omega
end Go.Proofs.YtlnamjhgbdacbaaGreat
/- A guarded step whose guard was itself left out is left out. -/
namespace Go.Proofs.YtlnamjhgbdacbaaGreat
open Go.RowKit Go.Shelf

theorem yielded_un {l : List Oper} {a : Act} {j d : Nat} (hd : dstB l j d = true) (hv : a.tmps.getD d undef = undef) : yielded l.toArray a.tmps j = none := by
  have h1 : (l.toArray[j]?).bind (·.dst) = some d := by simpa [dstB] using hd
  unfold yielded
  rw [h1]
  simp only [Option.bind_some]
  rw [Array.getD_eq_getD_getElem?] at hv
  cases ht : a.tmps[d]? with
  | none => rfl
  | some v => rw [ht] at hv; simp at hv; subst hv; rfl
theorem wanted_un {l : List Oper} {o : Oper} {a : Act} {j d : Nat} {b : Bool} (hg : o.guard = some (j, b)) (hd : dstB l j d = true) (hv : a.tmps.getD d undef = undef) : Region.wanted o (yielded l.toArray a.tmps) = false := by
  unfold Region.wanted
  rw [hg]
  simp only [yielded_un hd hv]
  rfl
end Go.Proofs.YtlnamjhgbdacbaaGreat
/- For every map, limit and count: TopWalked, walked. Conditions stand at each theorem. -/
namespace Go.Proofs.YtlnamjhgbdacbaaGreat
open Go.RowKit Go.Shelf

set_option maxRecDepth 100000 in
set_option maxHeartbeats 4000000 in
theorem wkd_not (m : WMD) (A : Option Addr) (c : Nat) (A2 : Option Addr) (c2 : Nat) (q1 q2 : Int) (w : World) (_h : WIn m A c A2 c2 w) (ht : wthinB m = false) :
    Calls Tryz.prog 4 #[.agg #[.slice A m.work.length c, .slice A2 m.roads.length c2], .int .u16 q1, .int .u16 q2] w fun e w' => e = .returned (.bool true) ∧ Below w.heap.size w w' := by
  have hB := below_box (w := w) #[.slice A m.work.length c, .slice A2 m.roads.length c2] 55
  have hT := Blk.new w 55 #[.slice A m.work.length c, .slice A2 m.roads.length c2]
  have HS := hid (And.intro hB hT)
  have HTN := hid ht
  obtain ⟨t0, t1⟩ := hT.c2
  have K1 := rwthin_any m A c A2 c2 (w.alloc (.cells #[.slice A m.work.length c, .slice A2 m.roads.length c2] 55))
  rw [ht] at K1
  have K1 := hid K1
  clear hB hT _h ht
  go_enter Tryz.func4, Tryz.ntmps4
  go_wp2_with fail
  refine K1.out.mono ?_
  rintro e W1 ⟨rfl, hb⟩
  have H1 := hid (HS.out.1.trans (hb.mono HS.out.1.size))
  clear hb K1 t0 t1
  go_wp2_with fail
  refine (carried_y W1).mono ?_
  rintro e W2 ⟨rfl, hb⟩
  have H2 := hid (H1.out.trans (hb.mono H1.out.size))
  clear hb
  go_wp2
  go_ret
  exact ⟨rfl, H2.out⟩

set_option maxRecDepth 100000 in
set_option maxHeartbeats 16000000 in
theorem wkd_thin (m : WMD) (A : Option Addr) (c : Nat) (A2 : Option Addr) (c2 : Nat) (q1 q2 : Int) (w : World) (h : WIn m A c A2 c2 w) (ht : wthinB m = true) (hq1 : 0 ≤ q1 ∧ q1 ≤ 65535) (hq2 : 0 ≤ q2 ∧ q2 ≤ 65535) :
    Calls Tryz.prog 4 #[.agg #[.slice A m.work.length c, .slice A2 m.roads.length c2], .int .u16 q1, .int .u16 q2] w fun e w' => e = .returned (.bool true) ∧ Below w.heap.size w w' := by
  have hB := below_box (w := w) #[.slice A m.work.length c, .slice A2 m.roads.length c2] 55
  have hT := Blk.new w 55 #[.slice A m.work.length c, .slice A2 m.roads.length c2]
  have HS := hid (And.intro hB hT)
  have HH := hid h
  have hth : m.work.length ≤ 11 ∧ m.roads.length ≤ 24 := by
    unfold wthinB at ht
    simp only [Bool.and_eq_true, decide_eq_true_eq] at ht
    omega
  have HTH := hid hth
  obtain ⟨lim, hlim⟩ : ∃ r, q1 % 400 = r := ⟨_, rfl⟩
  have hl0 : 0 ≤ lim ∧ lim < 400 := by rw [← hlim]; exact ⟨Int.emod_nonneg _ (by omega), Int.emod_lt_of_pos _ (by omega)⟩
  have htm1 : q1.tmod 400 = lim := by rw [Int.tmod_eq_emod_of_nonneg hq1.1]; exact hlim
  have hwq1 : IntKind.i64.wrap q1 = q1 := IntWalk.i64_in _ (by omega)
  have hwl : IntKind.i64.wrap lim = lim := IntWalk.i64_in _ (by omega)
  have hd400 : ((400 : Int) == 0) = false := by decide
  obtain ⟨cnt, hcnt⟩ : ∃ r, q2 % 10001 = r := ⟨_, rfl⟩
  have hc0 : 0 ≤ cnt ∧ cnt < 10001 := by rw [← hcnt]; exact ⟨Int.emod_nonneg _ (by omega), Int.emod_lt_of_pos _ (by omega)⟩
  have htm2 : q2.tmod 10001 = cnt := by rw [Int.tmod_eq_emod_of_nonneg hq2.1]; exact hcnt
  have hwq2 : IntKind.i64.wrap q2 = q2 := IntWalk.i64_in _ (by omega)
  have hwc : IntKind.i64.wrap cnt = cnt := IntWalk.i64_in _ (by omega)
  have hd10 : ((10001 : Int) == 0) = false := by decide
  have HTM := hid (And.intro htm2 (And.intro hwq2 (And.intro hwc hd10)))
  obtain ⟨t0, t1⟩ := hT.c2
  have K1 := rwthin_any m A c A2 c2 (w.alloc (.cells #[.slice A m.work.length c, .slice A2 m.roads.length c2] 55))
  rw [ht] at K1
  have K1 := hid K1
  clear hB hT h ht hth hlim hcnt hq1 hq2
  go_enter Tryz.func4, Tryz.ntmps4
  go_wp2_with fail
  refine K1.out.mono ?_
  rintro e W1 ⟨rfl, hb⟩
  have H1 := hid (show Below w.heap.size w W1 ∧ Blk W1 w.heap.size 55 #[.slice A m.work.length c, .slice A2 m.roads.length c2] from ⟨HS.out.1.trans (hb.mono HS.out.1.size), HS.out.2.keep hb⟩)
  clear hb K1 t0 t1 HS
  obtain ⟨t0, t1⟩ := H1.out.2.c2
  have KF := hid (rwfault_any m A c A2 c2 W1 (HH.out.at_ H1.out.1))
  go_wp2_with fail
  refine KF.out.mono ?_
  rintro e W2 ⟨z, rfl, hz, hb⟩
  have H2 := hid (show Below w.heap.size w W2 ∧ Blk W2 w.heap.size 55 #[.slice A m.work.length c, .slice A2 m.roads.length c2] from ⟨H1.out.1.trans (hb.mono H1.out.1.size), H1.out.2.keep hb⟩)
  clear hb KF t0 t1 H1
  by_cases hz0 : z = 0
  · have hzn : (z != 0) = false := by simp [hz0]
    have OK := hid (hz hz0)
    clear hz hz0
    obtain ⟨t0, t1⟩ := H2.out.2.c2
    have KM := hid (wmap_any m A c A2 c2 W2 (HH.out.at_ H2.out.1) (by have := HTH.out; omega) (by have := HTH.out; omega))
    go_wp2_with fail
    refine KM.out.mono ?_
    rintro e W3 ⟨⟨P, p⟩, ⟨Q, q⟩, rfl, hin, hb⟩
    have H3 := hid (show Below w.heap.size w W3 ∧ Blk W3 w.heap.size 55 #[.slice A m.work.length c, .slice A2 m.roads.length c2] from ⟨H2.out.1.trans (hb.mono H2.out.1.size), H2.out.2.keep hb⟩)
    have KP := hid (wplan_one m P p Q q lim W3 hin OK.out hl0.1 (by omega))
    clear hb KM t0 t1 H2 hin hzn
    go_wp2_with fail
    refine KP.out.mono ?_
    rintro e W4 ⟨ps, A3, c3, z9, rfl, hwk, hl3, hm3, h256, hcase, hb⟩
    have H4 := hid (show Below w.heap.size w W4 ∧ Blk W4 w.heap.size 55 #[.slice A m.work.length c, .slice A2 m.roads.length c2] from ⟨H3.out.1.trans (hb.mono H3.out.1.size), H3.out.2.keep hb⟩)
    have HWK := hid (show IsWks W4 W4.heap.size A3 ps ∧ ps.length ≤ c3 ∧ c3 ≤ maxLen from ⟨hwk, hl3, hm3⟩)
    have HCA := hid hcase
    obtain ⟨PL, hPL⟩ : ∃ PL, ps.length = PL := ⟨_, rfl⟩
    rw [hPL] at h256 ⊢
    have HPL := hid hPL
    obtain ⟨NN, hNN⟩ : ∃ NN : Nat, max 1 PL = NN := ⟨_, rfl⟩
    have hite : (if (1 : Int) < (PL : Int) then (PL : Int) else 1) = (NN : Int) := by rw [← hNN]; split <;> omega
    have hitv : (if (1 : Int) < (PL : Int) then Value.int .i64 (PL : Int) else Value.int .i64 1) = Value.int .i64 (NN : Int) := by rw [← hNN]; split <;> congr 1 <;> omega
    have HNN := hid hNN
    clear hb KP H3 hwk hl3 hm3 hcase htm1 hwq1 hwl hd400 hPL hNN
    go_wp2
    have hw11 : m.work.length ≤ 11 := HTH.out.1
    have hr24 : m.roads.length ≤ 24 := HTH.out.2
    obtain ⟨X, hX⟩ : ∃ X, trvM m cnt ps = X := ⟨_, rfl⟩
    have HX := hid hX
    have hXl : X.ss.length = m.work.length := by rw [← hX]; exact trv_len
    have hXj : X.js.length = m.roads.length := by rw [← hX]; simp [trvM]
    obtain ⟨gc, hgc⟩ : ∃ gc, W4.heap.size = gc := ⟨_, rfl⟩
    rw [hgc]
    obtain ⟨Bo, hBo⟩ : ∃ Bo, gc + 1 = Bo := ⟨_, rfl⟩
    rw [hBo]
    refine gen (p := Code.wp _ _ _ _) (fun W => XW X (NN : Int) cnt gc Bo (.slice none 0 0) (.slice none 0 0) 0 0 W4 W) ⟨?_, ?_, ⟨rfl, .inl ⟨rfl, rfl⟩⟩, ⟨rfl, .inl ⟨rfl, rfl⟩⟩, ?_, by omega, by omega⟩ ?_
    · have h := Blk.new (W4.alloc (.cells #[.int .i64 cnt] 3)) 36 #[.slice (some ⟨gc, 0, none⟩) 1 1, .int .i64 (NN : Int), .slice none 0 0, .slice none 0 0]
      rw [World.size_alloc, hgc, hBo] at h
      exact h
    · have h := (Blk.new W4 3 #[.int .i64 cnt]).alloc (.cells #[.slice (some ⟨gc, 0, none⟩) 1 1, .int .i64 (NN : Int), .slice none 0 0, .slice none 0 0] 36)
      rw [hgc] at h
      exact h
    · exact (below_box _ _).alloc (below_box (w := W4) #[.int .i64 cnt] 3).size _
    clear hX hgc hBo hite hitv htm2 hwq2 hwc hd10
    rintro W5 h5
    have H5 := hid h5
    clear h5
    go_loopw [10] (fun i W => ∃ (k : Nat) (v2 : Value), i = .int .i64 k ∧ k ≤ m.work.length ∧ XW X (NN : Int) cnt gc Bo v2 (.slice none 0 0) k 0 W4 W) (fun i _ => m.work.length - (intOf i).toNat)
    case atStart => exact ⟨0, _, rfl, Nat.zero_le _, H5.out⟩
    case round =>
      clear H5
      obtain ⟨k, v2, rfl, hk, hI⟩ := hrel
      have HI := hid hI
      obtain ⟨t0, t1⟩ := (H4.out.2.keep hI.bl).c2
      have HBW := hid (H4.out.1.trans (hI.bl.mono H4.out.1.size))
      clear hI
      by_cases hlt : k < m.work.length
      · have hkI : (k : Int) < (m.work.length : Int) := by omega
        obtain ⟨x, hx⟩ : ∃ x, m.work[k]? = some x := ⟨_, List.getElem?_eq_getElem hlt⟩
        obtain ⟨aa, eA, g1, f0, f1⟩ := (HH.out.at_ HBW.out).iw k x hx
        cases eA
        have hxb := OK.out.wk x (List.mem_of_getElem? hx)
        have hwx : IntKind.i64.wrap (1 + x.b) = 1 + x.b := IntWalk.i64_in _ (by omega)
        have HSS := hid (show X.ss[k]? = some ⟨0, nwTo ps k PL, 1 + x.b, 0, 10000⟩ by
          have h := trv_at (m := m) (cnt := cnt) (ps := ps) (n := k) hlt
          rw [HX.out, HPL.out, List.getD, hx] at h
          exact h)
        have hsz := HI.out.bl.size
        clear hx g1
        go_wp2
        obtain ⟨qs, hqs⟩ : ∃ qs, wr.heap.size = qs := ⟨_, rfl⟩
        have hbx := below_box (w := wr) #[.int .i64 0, .int .i64 0, .int .i64 (1 + x.b), .int .i64 0, .int .i64 10000] 70
        have HFR := hid (show (v2.ownBlock = none ∨ v2.ownBlock ≠ some qs) ∧ W4.heap.size ≤ qs from ⟨by rw [← hqs]; exact HI.out.fresh, by omega⟩)
        refine gen (p := Code.wp _ _ _ _) (fun W => XW X (NN : Int) cnt gc Bo v2 (.slice none 0 0) k 0 W4 W ∧ Blk W qs 70 #[.int .i64 0, .int .i64 (nwTo ps k 0), .int .i64 (1 + x.b), .int .i64 0, .int .i64 10000]) ⟨HI.out.at_ hbx, by rw [← hqs]; exact Blk.new _ _ _⟩ ?_
        rw [hqs]
        clear hqs hbx t0 t1 f0 f1 hwx HI HBW
        rintro W6 h6
        have H6 := hid h6
        clear h6
        go_loopw [12] (fun i W => ∃ j : Nat, j ≤ PL ∧ i = .int .i64 j ∧ XW X (NN : Int) cnt gc Bo v2 (.slice none 0 0) k 0 W4 W ∧ Blk W qs 70 #[.int .i64 0, .int .i64 (nwTo ps k j), .int .i64 (1 + x.b), .int .i64 0, .int .i64 10000]) (fun i _ => PL - (intOf i).toNat)
        case atStart => exact ⟨0, Nat.zero_le _, rfl, H6.out⟩
        case round =>
          clear H6
          obtain ⟨j, hj, rfl, hI, hq⟩ := hrel
          have HI := hid (And.intro hI hq)
          clear hI hq
          by_cases hlj : j < PL
          · have hjI : (j : Int) < (PL : Int) := by omega
            obtain ⟨pp, hp⟩ : ∃ pp, ps[j]? = some pp := ⟨_, List.getElem?_eq_getElem (by rw [HPL.out]; exact hlj)⟩
            obtain ⟨a3, B, b, B2, b2, e3, _, w0, w1, i1, i2, i3, i4, i5, i6, i7⟩ := (HWK.out.1.at_ HI.out.1.bl) j pp hp
            cases e3
            have hc3 := HWK.out.2.1
            have hc3m := HWK.out.2.2
            unfold maxLen at hc3m
            have KH := rwhas_any B2 b2 (intsN pp.2) (k : Int) wr i5 (by rw [intsN_len]; exact i6) i7
            rw [intsN_len] at KH
            have HP := hid hp
            obtain ⟨q0, q1', _, _, _⟩ := HI.out.2.c5
            have qf := HI.out.2.frozen 1
            have ql := HI.out.2.lt
            clear hp i1 i2 i3 i4 i5 i6 i7 w0
            by_cases hin : k ∈ pp.2
            · rw [show decide ((k : Int) ∈ intsN pp.2) = true from decide_eq_true (mem_intsN.2 hin)] at KH
              have KH := hid KH
              have HNX := hid (show XW X (NN : Int) cnt gc Bo v2 (.slice none 0 0) k 0 W4 (wr.setCell ⟨qs, 1, none⟩ (.int .i64 (j : Int))) ∧ Blk (wr.setCell ⟨qs, 1, none⟩ (.int .i64 (j : Int))) qs 70 #[.int .i64 0, .int .i64 (nwTo ps k (j + 1)), .int .i64 (1 + x.b), .int .i64 0, .int .i64 10000] from ⟨HI.out.1.far HI.out.2 HFR.out.1 HFR.out.2 1 _, by rw [nwTo_hit HP.out hin]; exact HI.out.2.set_ 1 _⟩)
              clear hin HI
              go_wp2_with fail
              refine KH.out.mono ?_
              rintro e w9 ⟨rfl, rfl⟩
              go_wp2
              go_roundw
              case rel => exact ⟨j + 1, by omega, by go_num, HNX.out⟩
              case measure => first | (simp [intOf]; done) | (simp [intOf]; omega)
            · rw [show decide ((k : Int) ∈ intsN pp.2) = false from decide_eq_false (fun h => hin (mem_intsN.1 h))] at KH
              have KH := hid KH
              have HNX := hid (show XW X (NN : Int) cnt gc Bo v2 (.slice none 0 0) k 0 W4 wr ∧ Blk wr qs 70 #[.int .i64 0, .int .i64 (nwTo ps k (j + 1)), .int .i64 (1 + x.b), .int .i64 0, .int .i64 10000] from ⟨HI.out.1, by rw [nwTo_miss HP.out hin]; exact HI.out.2⟩)
              clear hin HI q0 q1' qf ql
              go_wp2_with fail
              refine KH.out.mono ?_
              rintro e w9 ⟨rfl, rfl⟩
              go_wp2
              go_roundw
              case rel => exact ⟨j + 1, by omega, by go_num, HNX.out⟩
              case measure => first | (simp [intOf]; done) | (simp [intOf]; omega)
          · have hjI : decide ((j : Int) < (PL : Int)) = false := decide_eq_false (by omega)
            obtain rfl : j = PL := by omega
            obtain ⟨c0, c1, c2', c3'⟩ := HI.out.1.bo.c4
            obtain ⟨q0, q1', q2', q3', q4'⟩ := HI.out.2.c5
            obtain ⟨s, hs⟩ : ∃ s : Stt, s = ⟨0, nwTo ps k j, 1 + x.b, 0, 10000⟩ := ⟨_, rfl⟩
            have hnb := Blk.new wr 70 (sttL s).toArray
            have hbx := below_box (w := wr) (sttL s).toArray 70
            have hX3 := HI.out.1.at_ hbx
            rw [hs] at hnb hbx hX3
            have HX3 := hid hX3
            have HNB := hid hnb
            have hsz3 := hX3.bl.size
            have HO := hid hX3.s2
            obtain ⟨i0, hi0, hz0, hz1, hz2⟩ := info_parts bstt_info
            clear hs hnb hbx hX3 HI
            go_wp2_with (at_builtin; go_loud (refine wpList_append_own_at _ rfl _ _ 33 rfl W4.heap.size 70 i0 (.agg #[.int .i64 0, .int .i64 0, .int .i64 0, .int .i64 0, .int .i64 0]) 5 40 Tryz.underlying33 hi0 hz0 hz1 hz2 rfl (by decide) v2 k _ rfl HO.out ⟨wr.heap.size, 0, none⟩ 1 1 (sttL ⟨0, nwTo ps k j, 1 + x.b, 0, 10000⟩) rfl rfl (stt_blk HNB.out) (sttL_one _) (by simp only [maxLen]; have := HTH.out; omega) (by have := HTH.out; omega) hsz3 ?_; intro vo' w7 hown' hgrow _ _; obtain ⟨g6, cap6, rfl⟩ := Go.ownsRow_succ hown'; have HNX := hid (HX3.out.add2 HSS.out hgrow hown'); have hbo7 := blk_grown HX3.out.s2 hgrow HX3.out.bo (by decide); obtain ⟨u0, u1, u2, u3⟩ := hbo7.c4; have uf := hbo7.frozen 2; have ul := hbo7.lt; clear hown' hgrow hbo7 HX3 HNB HO c0 c1 c2' c3' q0 q1' q2' q3' q4'))
            go_roundw
            case rel => exact ⟨k + 1, _, by go_num, by omega, HNX.out⟩
            case measure => first | (simp [intOf]; done) | (simp [intOf]; omega)
      · have hkI : decide ((k : Int) < (m.work.length : Int)) = false := decide_eq_false (by omega)
        obtain rfl : k = m.work.length := by omega
        have H7 := HI
        clear HI HBW
        go_wp2
        clear t0 t1
        generalize wr = w8 at *
        go_loopw [13] (fun i W => ∃ (k : Nat) (v3 : Value), i = .int .i64 k ∧ k ≤ m.roads.length ∧ XW X (NN : Int) cnt gc Bo v2 v3 m.work.length k W4 W) (fun i _ => m.roads.length - (intOf i).toNat)
        case atStart => exact ⟨0, _, rfl, Nat.zero_le _, H7.out⟩
        case round =>
          clear H7
          obtain ⟨k, v3, rfl, hk, hI⟩ := hrel
          have HI := hid hI
          obtain ⟨t0, t1⟩ := (H4.out.2.keep hI.bl).c2
          have HBW := hid (H4.out.1.trans (hI.bl.mono H4.out.1.size))
          clear hI
          by_cases hlt : k < m.roads.length
          · have hkI : (k : Int) < (m.roads.length : Int) := by omega
            obtain ⟨r, hr⟩ : ∃ r, m.roads[k]? = some r := ⟨_, List.getElem?_eq_getElem hlt⟩
            obtain ⟨aa, eA, g1, f0, f1, f2, f3⟩ := (HH.out.at_ HBW.out).ir k r hr
            cases eA
            have HSS := hid (show X.js[k]? = some ⟨r.a, r.b⟩ by rw [← HX.out]; simp [trvM, hr])
            have HXX := hid (And.intro HI.out (And.intro (And.intro f0 f1) (H4.out.2.keep HI.out.bl)))
            clear hr g1 f0 f1 f2 f3 HI HBW
            go_upto_region 18 with (fail)
            clear t0 t1
            refine (wpIn_wide (n := 0)).1 ?_
            refine wpIn_region_each 16 (fun i v W' => match i with | 0 => v = .pointer (some ⟨Bo, 3, none⟩) | 1 => v = v3 | 2 => v = .pointer (some ⟨w.heap.size, 1, none⟩) | 3 => v = .slice (some aa) m.roads.length c2 | 4 => v = .int .i64 (k : Int) | 5 => v = .pointer (some (aa.add (k * 4))) | 6 => v = .pointer (some (aa.add (k * 4))) | 7 => v = .int .i64 r.a | 8 => v = .pointer (some ⟨w.heap.size, 1, none⟩) | 9 => v = .slice (some aa) m.roads.length c2 | 10 => v = .int .i64 (k : Int) | 11 => v = .pointer (some (aa.add (k * 4))) | 12 => v = .pointer (some ⟨(aa.add (k * 4)).block, (aa.add (k * 4)).off + 1, none⟩) | 13 => v = .int .i64 r.b | 14 => v = .agg #[.int .i64 r.a, .int .i64 r.b] | 15 => ∃ gl, v = .slice (some ⟨gl, 0, none⟩) 1 1 ∧ Blk W' gl 77 (jnL ⟨r.a, r.b⟩).toArray | _ => True) (fun A B => Below A.heap.size A B) (fun _ _ => True) (by kernel_rfl) (by kernel_rfl) ?_ (fun h k => h.trans (k.mono h.size)) ⟨rfl, rfl, rfl, Nat.le_refl _, fun _ _ => rfl⟩ trivial (by kernel_rfl) ?_ ?_
            · intro i v W1 W2 hb h
              match i, h with
              | 0, h => exact h
              | 1, h => exact h
              | 2, h => exact h
              | 3, h => exact h
              | 4, h => exact h
              | 5, h => exact h
              | 6, h => exact h
              | 7, h => exact h
              | 8, h => exact h
              | 9, h => exact h
              | 10, h => exact h
              | 11, h => exact h
              | 12, h => exact h
              | 13, h => exact h
              | 14, h => exact h
              | 15, h =>
                obtain ⟨gl, rfl, h1⟩ := h
                exact ⟨_, rfl, h1.keep hb⟩
              | i + 16, h => trivial
            · refine ⟨?_, ?_, ?_, ?_, ?_, ?_, ?_, ?_, ?_, ?_, ?_, ?_, ?_, ?_, ?_, ?_, trivial⟩
              · -- 0
                intro li a1 W2 hA K hK
                have e9 := hA.par 9 (by kernel_rfl)
                refine opStep none 0 rfl rfl (fun c hc => by cases hc) ?_
                go_simp
                exact hK _ _ rfl (Below.refl _ _) trivial
              · -- 1
                intro li a1 W2 hA K hK
                have e100 : a1.tmps.getD 100 undef = .pointer (some ⟨Bo, 3, none⟩) := hA.val 0 100 (by kernel_rfl) (by kernel_rfl)
                obtain ⟨_, _, _, q1⟩ := (HXX.out.1.bo.keep hA.st).c4
                refine opStep none 0 rfl rfl (fun c hc => by cases hc) ?_
                go_simp
                exact hK _ _ rfl (Below.refl _ _) trivial
              · -- 2
                intro li a1 W2 hA K hK
                have e3 := hA.par 3 (by kernel_rfl)
                refine opStep none 0 rfl rfl (fun c hc => by cases hc) ?_
                go_simp
                exact hK _ _ rfl (Below.refl _ _) trivial
              · -- 3
                intro li a1 W2 hA K hK
                have e102 : a1.tmps.getD 102 undef = .pointer (some ⟨w.heap.size, 1, none⟩) := hA.val 2 102 (by kernel_rfl) (by kernel_rfl)
                obtain ⟨_, q1⟩ := (HXX.out.2.2.keep hA.st).c2
                refine opStep none 0 rfl rfl (fun c hc => by cases hc) ?_
                go_simp
                exact hK _ _ rfl (Below.refl _ _) trivial
              · -- 4
                intro li a1 W2 hA K hK
                have e13 := hA.par 13 (by kernel_rfl)
                refine opStep none 0 rfl rfl (fun c hc => by cases hc) ?_
                go_simp
                exact hK _ _ rfl (Below.refl _ _) trivial
              · -- 5
                intro li a1 W2 hA K hK
                have e103 : a1.tmps.getD 103 undef = .slice (some aa) m.roads.length c2 := hA.val 3 103 (by kernel_rfl) (by kernel_rfl)
                have e104 : a1.tmps.getD 104 undef = .int .i64 (k : Int) := hA.val 4 104 (by kernel_rfl) (by kernel_rfl)
                refine opStep none 0 rfl rfl (fun c hc => by cases hc) ?_
                go_simp
                exact hK _ _ (by first | rfl | exact congrArg (fun q => Value.pointer (some q)) (add_blk _ _)) (Below.refl _ _) trivial
              · -- 6
                intro li a1 W2 hA K hK
                have e105 : a1.tmps.getD 105 undef = .pointer (some (aa.add (k * 4))) := hA.val 5 105 (by kernel_rfl) (by kernel_rfl)
                refine opStep none 0 rfl rfl (fun c hc => by cases hc) ?_
                go_simp
                exact hK _ _ rfl (Below.refl _ _) trivial
              · -- 7
                intro li a1 W2 hA K hK
                have e106 : a1.tmps.getD 106 undef = .pointer (some (aa.add (k * 4))) := hA.val 6 106 (by kernel_rfl) (by kernel_rfl)
                have q1 := (hA.st.cell (World.block_lt_of_cell? _ _ HXX.out.2.1.1)).trans HXX.out.2.1.1
                refine opStep none 0 rfl rfl (fun c hc => by cases hc) ?_
                go_simp
                exact hK _ _ rfl (Below.refl _ _) trivial
              · -- 8
                intro li a1 W2 hA K hK
                have e3 := hA.par 3 (by kernel_rfl)
                refine opStep none 0 rfl rfl (fun c hc => by cases hc) ?_
                go_simp
                exact hK _ _ rfl (Below.refl _ _) trivial
              · -- 9
                intro li a1 W2 hA K hK
                have e108 : a1.tmps.getD 108 undef = .pointer (some ⟨w.heap.size, 1, none⟩) := hA.val 8 108 (by kernel_rfl) (by kernel_rfl)
                obtain ⟨_, q1⟩ := (HXX.out.2.2.keep hA.st).c2
                refine opStep none 0 rfl rfl (fun c hc => by cases hc) ?_
                go_simp
                exact hK _ _ rfl (Below.refl _ _) trivial
              · -- 10
                intro li a1 W2 hA K hK
                have e13 := hA.par 13 (by kernel_rfl)
                refine opStep none 0 rfl rfl (fun c hc => by cases hc) ?_
                go_simp
                exact hK _ _ rfl (Below.refl _ _) trivial
              · -- 11
                intro li a1 W2 hA K hK
                have e109 : a1.tmps.getD 109 undef = .slice (some aa) m.roads.length c2 := hA.val 9 109 (by kernel_rfl) (by kernel_rfl)
                have e110 : a1.tmps.getD 110 undef = .int .i64 (k : Int) := hA.val 10 110 (by kernel_rfl) (by kernel_rfl)
                refine opStep none 0 rfl rfl (fun c hc => by cases hc) ?_
                go_simp
                exact hK _ _ (by first | rfl | exact congrArg (fun q => Value.pointer (some q)) (add_blk _ _)) (Below.refl _ _) trivial
              · -- 12
                intro li a1 W2 hA K hK
                have e111 : a1.tmps.getD 111 undef = .pointer (some (aa.add (k * 4))) := hA.val 11 111 (by kernel_rfl) (by kernel_rfl)
                refine opStep none 0 rfl rfl (fun c hc => by cases hc) ?_
                go_simp
                exact hK _ _ rfl (Below.refl _ _) trivial
              · -- 13
                intro li a1 W2 hA K hK
                have e112 : a1.tmps.getD 112 undef = .pointer (some ⟨(aa.add (k * 4)).block, (aa.add (k * 4)).off + 1, none⟩) := hA.val 12 112 (by kernel_rfl) (by kernel_rfl)
                have q1 := (hA.st.cell (World.block_lt_of_cell? _ _ HXX.out.2.1.2)).trans HXX.out.2.1.2
                refine opStep none 0 rfl rfl (fun c hc => by cases hc) ?_
                go_simp
                exact hK _ _ rfl (Below.refl _ _) trivial
              · -- 14
                intro li a1 W2 hA K hK
                have e107 : a1.tmps.getD 107 undef = .int .i64 r.a := hA.val 7 107 (by kernel_rfl) (by kernel_rfl)
                have e113 : a1.tmps.getD 113 undef = .int .i64 r.b := hA.val 13 113 (by kernel_rfl) (by kernel_rfl)
                have e107' := e107
                have e113' := e113
                rw [Array.getD_eq_getD_getElem?] at e107' e113'
                refine opStep none 0 rfl rfl (fun c hc => by cases hc) ?_
                go_simp
                exact hK _ _ rfl (Below.refl _ _) trivial
              · -- 15
                intro li a1 W2 hA K hK
                have e114 : a1.tmps.getD 114 undef = .agg #[.int .i64 r.a, .int .i64 r.b] := hA.val 14 114 (by kernel_rfl) (by kernel_rfl)
                have e114' := e114
                rw [Array.getD_eq_getD_getElem?] at e114'
                refine opStep none 0 rfl rfl (fun c hc => by cases hc) ?_
                go_simp
                exact hK _ _ ⟨_, rfl, Blk.new _ _ _⟩ ((Below.refl _ _).alloc (Nat.le_refl _) _) trivial
            · intro li a1 W2 hD
              obtain ⟨gl, e115, hgl⟩ := hD.val 15 115 (by kernel_rfl) (by kernel_rfl)
              have e101 : a1.tmps.getD 101 undef = v3 := hD.val 1 101 (by kernel_rfl) (by kernel_rfl)
              have hst := hD.st
              have hI2 := HXX.out.1.at_ hst
              have hsz2 := hI2.bl.size
              obtain ⟨i0, hi0, hz0, hz1, hz2⟩ := info_parts bjn_info
              obtain ⟨v', w7, hrun, hr7, hg7, _, _⟩ := run_append_own_at (P := Tryz.prog) W2 W4.heap.size 34 34 77 i0 (.agg #[.int .i64 0, .int .i64 0]) 2 16 Tryz.underlying34 hi0 hz0 hz1 hz2 rfl (by decide) v3 k _ hI2.s3 ⟨gl, 0, none⟩ 1 1 (jnL ⟨r.a, r.b⟩) rfl (jn_blk hgl) (jnL_one _) (by simp only [maxLen]; omega) (by omega) (by omega)
              obtain ⟨g6, cap6, rfl⟩ := Go.ownsRow_succ hr7
              have HNX := hid (hI2.add3 HSS.out hg7 hr7)
              have hbo7 := blk_grown hI2.s3 hg7 hI2.bo (by decide)
              obtain ⟨u0, u1, u2, u3⟩ := hbo7.c4
              have uf := hbo7.frozen 3
              have ul := hbo7.lt
              have e9 := hD.par 9 (by kernel_rfl)
              have hkp2 := hD.keeps (ds := [100, 101, 102, 103, 104, 105, 106, 107, 108, 109, 110, 111, 112, 113, 114, 115, 116, 117]) (by kernel_rfl)
              have hds := hD.size
              have hsz3 : a1.tmps.size = 242 := hD.size
              have hdd := hD.defers
              clear hst hr7 hg7 hgl hI2 hsz2 hbo7
              refine tail_val (i := 16) (v := .slice (some ⟨g6, 0, none⟩) (k + 1) cap6) (W' := w7) none 0 rfl rfl rfl (fun c hc => by cases hc) (by simp [execOp, resolve, invoke, builtin, Act.eval, e101, e115, hrun, Result.andThen]) (by rw [hsz3]; decide) ?_
              intro a3 s3 d3 f3 o3
              have hkp3 := keeps_then hkp2 o3 (by decide)
              have e9' := (o3 9 (by decide)).trans e9
              refine tail_val (i := 17) (v := .pointer (some ⟨Bo, 3, none⟩)) (W' := w7) none 0 rfl rfl rfl (fun c hc => by cases hc) (by go_simp) (by rw [s3, hsz3]; decide) ?_
              intro a4 s4 d4 f4 o4
              have hkp4 := keeps_then hkp3 o4 (by decide)
              have f3' := (o4 116 (by decide)).trans f3
              refine tail_store (i := 18) (W' := w7.setCell ⟨Bo, 3, none⟩ (.slice (some ⟨g6, 0, none⟩) (k + 1) cap6)) none 0 rfl rfl rfl (fun c hc => by cases hc) (by go_simp) ?_
              have e := act_mix [100, 101, 102, 103, 104, 105, 106, 107, 108, 109, 110, 111, 112, 113, 114, 115, 116, 117] (s4.trans (s3.trans hds)) (d4.trans (d3.trans hdd)) (fun i _ hc => hkp4 i hc)
              generalize (fun i => a4.tmps.getD i undef) = g' at e
              refine wpListIn_nil ?_
              rw [e]
              clear e hD hkp2 hkp3 hkp4 s3 s4 d3 d4 f3 f4 o3 o4 e101 e115 e9 e9' f3' hds hdd hsz3 hi0 hz0 hz1 hz2 hrun u0 u1 u2 u3 uf ul HXX
              simp only [mix, List.contains_cons, List.contains_nil, Nat.reduceAdd, Nat.reduceBEq, Bool.or_false, Bool.or_true, cond_true, cond_false]
              go_wp2
              go_roundw
              case rel => exact ⟨k + 1, _, by go_num, by omega, HNX.out⟩
              case measure => first | (simp [intOf]; done) | (simp [intOf]; omega)
          · have hkI : decide ((k : Int) < (m.roads.length : Int)) = false := decide_eq_false (by omega)
            obtain rfl : k = m.roads.length := by omega
            have H9 := hid HI.out
            clear HI HBW
            have hmin := hid (XW.min (X := X) (by rw [hXl, hXj]; exact H9.out) (by rw [← HX.out]; rfl))
            obtain ⟨A7, c7, A8, c8, rfl, rfl, hmi⟩ := hmin.out
            have HMI := hid hmi
            clear hmin hmi hXl hXj
            have HNW := hid (show X.nw = (NN : Int) by rw [← HX.out, ← HNN.out]; show max 1 (ps.length : Int) = _; rw [HPL.out]; omega)
            have HOL := hid (show X.old.length = 1 by rw [← HX.out]; rfl)
            obtain ⟨c0, c1, c2', c3'⟩ := H9.out.bo.c4
            have HBT := hid (show Below w.heap.size w wr ∧ Blk wr w.heap.size 55 #[.slice A m.work.length c, .slice A2 m.roads.length c2] from ⟨H4.out.1.trans (H9.out.bl.mono H4.out.1.size), H4.out.2.keep H9.out.bl⟩)
            rcases HCA.out with ⟨rfl, hps⟩ | ⟨rfl, hokp⟩
            · subst hps
              have HCK := hid (show chkM X = 0 by rw [← HX.out]; exact okm_chk (trv_ok OK.out hc0.1 (by omega) (by simp)))
              have HAP := hid (show apL X = [] ↔ ∀ n, n < m.N → ∃ l, Pth m 0 n l by rw [← HX.out]; exact trv_apart0 OK.out)
              have KA := zapart_good HMI.out HCK.out
              rw [HOL.out, HNW.out] at KA
              obtain ⟨La, hLa⟩ : ∃ La, apL X = La := ⟨_, rfl⟩
              rw [hLa] at KA HAP
              have KA := hid KA
              clear hLa
              go_wp2_with fail
              refine KA.out.mono ?_
              rintro e W9 ⟨y, rfl, hy, hb⟩
              have H10 := hid (show Below w.heap.size w W9 ∧ Blk W9 w.heap.size 55 #[.slice A m.work.length c, .slice A2 m.roads.length c2] from ⟨HBT.out.1.trans (hb.mono HBT.out.1.size), HBT.out.2.keep hb⟩)
              clear KA c0 c1 c2' c3' hb hy HBT t0 t1
              go_wp2
              go_loopw [16, 17] (fun b i W => ∃ (k : Nat) (bb : Bool), i = .int .i64 k ∧ k ≤ m.work.length ∧ b = .bool bb ∧ (bb = true ↔ ∀ j, j < k → ∃ l, Pth m 0 j l) ∧ Below w.heap.size w W ∧ Blk W w.heap.size 55 #[.slice A m.work.length c, .slice A2 m.roads.length c2]) (fun _ i _ => m.work.length - (intOf i).toNat)
              case atStart => exact ⟨0, true, rfl, Nat.zero_le _, rfl, ⟨fun _ j hj => absurd hj (Nat.not_lt_zero _), fun _ => rfl⟩, H10.out⟩
              case round =>
                clear H10
                obtain ⟨k, bb, rfl, hk, rfl, hbb, hW⟩ := hrel
                have HW := hid hW
                have HBB := hid hbb
                obtain ⟨t0, t1⟩ := hW.2.c2
                clear hW hbb
                by_cases hlt : k < m.work.length
                · have hkI : (k : Int) < (m.work.length : Int) := by omega
                  have KM := hid (wmap_any m A c A2 c2 wr (HH.out.at_ HW.out.1) (by omega) (by omega))
                  go_wp2_with fail
                  refine KM.out.mono ?_
                  rintro e W10 ⟨⟨P2, p2⟩, ⟨Q2, qq2⟩, rfl, hin, hb⟩
                  have KY := hid (wWay_any m P2 p2 Q2 qq2 k W10 hin OK.out hlt)
                  have H11 := hid (show Below w.heap.size w W10 ∧ Blk W10 w.heap.size 55 #[.slice A m.work.length c, .slice A2 m.roads.length c2] from ⟨HW.out.1.trans (hb.mono HW.out.1.size), HW.out.2.keep hb⟩)
                  clear KM hb hin HW t0 t1
                  go_wp2_with fail
                  refine KY.out.mono ?_
                  rintro e W11 ⟨v1, v2', z2, rfl, hiff, hb⟩
                  have H12 := hid (show Below w.heap.size w W11 ∧ Blk W11 w.heap.size 55 #[.slice A m.work.length c, .slice A2 m.roads.length c2] from ⟨H11.out.1.trans (hb.mono H11.out.1.size), H11.out.2.keep hb⟩)
                  have HIF := hid hiff
                  clear KY hb H11 hiff
                  cases bb with
                  | false =>
                    have HNX := hid (show (false = true ↔ ∀ j, j < k + 1 → ∃ l, Pth m 0 j l) from ⟨(fun e => by cases e), fun h => HBB.out.2 fun j hj => h j (by omega)⟩)
                    go_wp2
                    go_roundw
                    case rel => exact ⟨k + 1, false, by go_num, by omega, rfl, HNX.out, H12.out⟩
                    case measure => first | (simp [intOf]; done) | (simp [intOf]; omega)
                  | true =>
                    by_cases hz2 : z2 = 0
                    · have hzB : (z2 == 0) = true := by simp [hz2]
                      have HNX := hid (show ∀ j, j < k + 1 → ∃ l, Pth m 0 j l from fun j hj => by
                        by_cases e : j = k
                        · subst e; exact HIF.out.1 hz2
                        · exact HBB.out.1 rfl j (by omega))
                      clear hz2
                      go_wp2
                      go_roundw
                      case rel => exact ⟨k + 1, true, by go_num, by omega, rfl, ⟨fun _ => HNX.out, fun _ => rfl⟩, H12.out⟩
                      case measure => first | (simp [intOf]; done) | (simp [intOf]; omega)
                    · have hzB : (z2 == 0) = false := by simp [hz2]
                      have HNX := hid (show (false = true ↔ ∀ j, j < k + 1 → ∃ l, Pth m 0 j l) from ⟨(fun e => by cases e), fun h => absurd (HIF.out.2 (h k (by omega))) hz2⟩)
                      clear hz2
                      go_wp2
                      go_roundw
                      case rel => exact ⟨k + 1, false, by go_num, by omega, rfl, HNX.out, H12.out⟩
                      case measure => first | (simp [intOf]; done) | (simp [intOf]; omega)
                · have hkI : decide ((k : Int) < (m.work.length : Int)) = false := decide_eq_false (by omega)
                  obtain rfl : k = m.work.length := by omega
                  have hE : ((La.length : Int) == 0) = bb := by
                    have h1 : La = [] ↔ bb = true := HAP.out.trans HBB.out.symm
                    cases bb with
                    | true => have := h1.2 rfl; rw [this]; rfl
                    | false =>
                      refine beq_eq_false_iff_ne.2 fun e => ?_
                      have := h1.1 (List.eq_nil_of_length_eq_zero (by omega))
                      cases this
                  cases bb
                  all_goals
                    go_wp2_with fail
                    refine (carried_y _).mono ?_
                    rintro e W12 ⟨rfl, hb⟩
                    have HE := hid (HW.out.1.trans (hb.mono HW.out.1.size))
                    clear hb
                    go_wp2
                    go_ret
                    exact ⟨rfl, HE.out⟩
            · have HOKP := hid hokp
              have hPL1 : 1 ≤ PL := by
                rw [← HPL.out]
                cases hps : ps with
                | nil => exact absurd hps HOKP.out.ne
                | cons => simp
              clear hokp
              have HNP := hid (show NN = PL by rw [← HNN.out]; omega)
              by_cases h4 : PL ≤ 4
              · have h4B : decide ((4 : Int) < (NN : Int)) = false := decide_eq_false (by have := HNP.out; omega)
                have HOX := hid (show OkM X by rw [← HX.out]; exact trv_ok OK.out hc0.1 (by omega) (by rw [HPL.out]; exact h4))
                have HAP := hid (show ∀ (k : Nat) (p : List Nat × List Nat), ps[k]? = some p → (∀ n ∈ p.1, n ∈ p.2) → (k : Int) ∉ apL X from fun k p hk hr => by rw [← HX.out]; exact trv_apart OK.out HOKP.out hk hr)
                have HDB := hid (show ∀ v ∈ smD X (ownL X) (car X), 0 ≤ v ∧ v ≤ 80000 by have h := HOX.out; rw [← HX.out] at h ⊢; exact trv_d h)
                have HSUM := hid (show (smD X (ownL X) (car X)).sum = cnt by have h := HOX.out; rw [← HX.out] at h ⊢; exact trv_sum h)
                have HDL := hid (show (smD X (ownL X) (car X)).length = PL by rw [zsmD_len, HNW.out]; have := HNP.out; omega)
                have KA := zapart_good HMI.out (okm_chk HOX.out)
                rw [HOL.out, HNW.out] at KA
                obtain ⟨La, hLa⟩ : ∃ La, apL X = La := ⟨_, rfl⟩
                rw [hLa] at KA HAP
                have KA := hid KA
                clear hLa
                go_wp2_with fail
                refine KA.out.mono ?_
                rintro e W9 ⟨⟨y1, y2⟩, rfl, hy, hb⟩
                have HYA := hid hy
                have H10 := hid (show Below w.heap.size w W9 from HBT.out.1.trans (hb.mono HBT.out.1.size))
                have H10b := hid (H9.out.bl.trans (hb.mono H9.out.bl.size))
                have KC := zcarry_good (HMI.out.at_ hb) (okm_chk HOX.out)
                rw [HOL.out, HNW.out] at KC
                unfold zGivesCar at KC
                obtain ⟨D, hD⟩ : ∃ D, smD X (ownL X) (car X) = D := ⟨_, rfl⟩
                rw [hD] at KC HDB HSUM HDL
                rw [HDL.out] at KC
                have KC := hid KC
                obtain ⟨d0, d1, d2, d3⟩ := (H9.out.bo.keep hb).c4
                clear hD KA c0 c1 c2' c3' t0 t1 hb hy
                go_wp2_with fail
                refine KC.out.mono ?_
                rintro e W10 ⟨⟨pa1, pa2⟩, ⟨pb1, pb2⟩, rfl, hpa, hpb, hb⟩
                have HPB := hid hpb
                have H11 := hid (H10.out.trans (hb.mono H10.out.size))
                have H11b := hid (H10b.out.trans (hb.mono H10b.out.size))
                have HYB := hid (HYA.out.at_ hb)
                have hpp : ((PL : Int) != (PL : Int)) = false := by simp
                have hpbl := hpb.2.1
                have hpbm := hpb.2.2
                rw [HDL.out] at hpbl
                have hc3l := HWK.out.2.1
                rw [HPL.out] at hc3l
                have hc3m := HWK.out.2.2
                unfold maxLen at hpbm hc3m
                clear KC d0 d1 d2 d3 hb hpa hpb HYA H10 H10b HBT H9 HMI
                go_wp2
                go_loopw [26, 27] (fun s i W => ∃ k : Nat, i = .int .i64 k ∧ k ≤ PL ∧ s = .int .i64 ((D.take k).sum) ∧ Below W10.heap.size W10 W) (fun _ i _ => PL - (intOf i).toNat)
                case atStart => exact ⟨0, rfl, Nat.zero_le _, by simp, Below.refl _ _⟩
                case round =>
                  obtain ⟨k, rfl, hk, rfl, hbk⟩ := hrel
                  have HBK := hid hbk
                  clear hbk
                  have hSb := sum_bound80 (D.take k) fun v hv => HDB.out v (List.mem_of_mem_take hv)
                  have hSl : ((D.take k).length : Int) ≤ 4 := by have : (D.take k).length ≤ k := List.length_take_le _ _; omega
                  obtain ⟨S, hS⟩ : ∃ S, (D.take k).sum = S := ⟨_, rfl⟩
                  rw [hS] at hSb ⊢
                  have HS := hid hS
                  clear hS
                  by_cases hlt : k < PL
                  · have hkI : (k : Int) < (PL : Int) := by omega
                    obtain ⟨x, hx⟩ : ∃ x, D[k]? = some x := ⟨_, List.getElem?_eq_getElem (by rw [HDL.out]; exact hlt)⟩
                    have hxb := HDB.out x (List.mem_of_getElem? hx)
                    obtain ⟨ab, eb, _, q1⟩ := (HPB.out.1.at_ HBK.out) k x hx
                    have hwS : IntKind.i64.wrap (S + x) = S + x := IntWalk.i64_in _ (by omega)
                    have HNS := hid (show (D.take (k + 1)).sum = S + x by rw [take_more hx, List.sum_append, HS.out]; simp)
                    obtain ⟨pp, hp⟩ : ∃ pp, ps[k]? = some pp := ⟨_, List.getElem?_eq_getElem (by rw [HPL.out]; exact hlt)⟩
                    obtain ⟨a3, _, _, _, _, e3, _⟩ := (HWK.out.1.at_ (H11b.out.trans (HBK.out.mono H11b.out.size))) k pp hp
                    obtain ⟨R, hR⟩ : ∃ R, pp.1.length = R := ⟨_, rfl⟩
                    have HR := hid hR
                    have HP := hid hp
                    cases eb
                    cases e3
                    obtain ⟨_, B', b', _, _, e3', _, w0', _, _, g2, g3, g4, _⟩ := (HWK.out.1.at_ (H11b.out.trans (HBK.out.mono H11b.out.size))) k pp hp
                    cases e3'
                    rw [hR] at w0' g2 g4
                    clear hx hp hR hxb
                    go_wp2
                    clear q1 w0' g2 g3
                    go_loopw [28, 29] (fun b i W => ∃ (j : Nat) (bb : Bool), i = .int .i64 j ∧ j ≤ R ∧ b = .bool bb ∧ (bb = true → ∀ n ∈ pp.1.take j, n ∈ pp.2) ∧ Below W10.heap.size W10 W) (fun _ i _ => R - (intOf i).toNat)
                    case atStart => exact ⟨0, true, rfl, Nat.zero_le _, rfl, (fun _ n hn => by simp at hn), HBK.out⟩
                    case round =>
                      clear HBK
                      obtain ⟨j, bb, rfl, hj, rfl, hbb, hbk⟩ := hrel
                      have HBK := hid hbk
                      have HBB := hid hbb
                      obtain ⟨_, B, b, B2, b2, e3, _, w0, w1, i1, i2, i3, i4, i5, i6, i7⟩ := (HWK.out.1.at_ (H11b.out.trans (HBK.out.mono H11b.out.size))) k pp HP.out
                      cases e3
                      rw [HR.out] at w0 i2 i4
                      have i3' := i3
                      unfold maxLen at i3'
                      clear hbk hbb i3
                      by_cases hlj : j < R
                      · have hjI : (j : Int) < (R : Int) := by omega
                        obtain ⟨n, hn⟩ : ∃ n, pp.1[j]? = some n := ⟨_, List.getElem?_eq_getElem (by rw [HR.out]; exact hlj)⟩
                        obtain ⟨an, en, _, qn⟩ := i1 j (n : Int) (by rw [show (intsN pp.1)[j]? = (pp.1[j]?).map (fun n : Nat => (n : Int)) from List.getElem?_map, hn]; rfl)
                        cases en
                        have HTK := hid (take_more hn)
                        have x0 := xt_cell w0
                        have x1 := xt_cell w1
                        have x2 := xt_cell qn
                        have KX := hid (fun x : Xt => rwhas_any B2 b2 (intsN pp.2) (n : Int) (xt wr x) (i5.at_ (below_xt wr x)) (by rw [intsN_len]; exact i6) i7)
                        rw [intsN_len] at KX
                        clear hn i1 i5 i6 i7
                        cases bb with
                        | false =>
                          go_wp2
                          clear w0 w1 qn KX
                          refine wp_region_quiet_xt (by kernel_rfl) (by kernel_rfl) ?_
                          repeat (go_big_quiet_step (fail))
                          refine wpQuiet_nil ?_
                          intro W3 hw3
                          have HN3 := hid (HBK.out.trans ((of_xt hw3).mono HBK.out.size))
                          clear hw3 x0 x1 x2 HBK
                          go_wp2
                          go_roundw
                          case rel => exact ⟨j + 1, false, by go_num, by omega, rfl, (fun e => by cases e), HN3.out⟩
                          case measure => first | (simp [intOf]; done) | (simp [intOf]; omega)
                        | true =>
                          by_cases hin : n ∈ pp.2
                          · rw [show decide ((n : Int) ∈ intsN pp.2) = true from decide_eq_true (mem_intsN.2 hin)] at KX
                            have HNX := hid (show ∀ q ∈ pp.1.take (j + 1), q ∈ pp.2 from fun q hq => by
                              rw [HTK.out, List.mem_append] at hq
                              rcases hq with hq | hq
                              · exact HBB.out rfl q hq
                              · simp at hq; rw [hq]; exact hin)
                            clear hin
                            go_wp2
                            clear w0 w1 qn
                            refine wp_region_quiet_xt (by kernel_rfl) (by kernel_rfl) ?_
                            repeat (go_big_quiet_step ((go_at_call 16; exact Calls.xt (Calls.same_below (KX.out _)))))
                            refine wpQuiet_nil ?_
                            intro W3 hw3
                            have HN3 := hid (HBK.out.trans ((of_xt hw3).mono HBK.out.size))
                            clear hw3 x0 x1 x2 KX HBK
                            go_wp2
                            go_roundw
                            case rel => exact ⟨j + 1, true, by go_num, by omega, rfl, (fun _ => HNX.out), HN3.out⟩
                            case measure => first | (simp [intOf]; done) | (simp [intOf]; omega)
                          · rw [show decide ((n : Int) ∈ intsN pp.2) = false from decide_eq_false (fun h => hin (mem_intsN.1 h))] at KX
                            clear hin
                            go_wp2
                            clear w0 w1 qn
                            refine wp_region_quiet_xt (by kernel_rfl) (by kernel_rfl) ?_
                            repeat (go_big_quiet_step ((go_at_call 16; exact Calls.xt (Calls.same_below (KX.out _)))))
                            refine wpQuiet_nil ?_
                            intro W3 hw3
                            have HN3 := hid (HBK.out.trans ((of_xt hw3).mono HBK.out.size))
                            clear hw3 x0 x1 x2 KX HBK
                            go_wp2
                            go_roundw
                            case rel => exact ⟨j + 1, false, by go_num, by omega, rfl, (fun e => by cases e), HN3.out⟩
                            case measure => first | (simp [intOf]; done) | (simp [intOf]; omega)
                      · have hjI : decide ((j : Int) < (R : Int)) = false := decide_eq_false (by omega)
                        clear i1 i5 i6 i7 w1
                        cases bb with
                        | false =>
                          go_wp2
                          clear w0
                          go_roundw
                          case rel => exact ⟨k + 1, by go_num, by omega, by rw [HNS.out], HBK.out⟩
                          case measure => first | (simp [intOf]; done) | (simp [intOf]; omega)
                        | true =>
                          have hno : (k : Int) ∉ La := HAP.out k pp HP.out (by have h := HBB.out rfl; rwa [List.take_of_length_le (by rw [HR.out]; omega)] at h)
                          have KH := rwhas_any y1 y2 La (k : Int) wr (HYB.out.1.at_ HBK.out) HYB.out.2.1 HYB.out.2.2
                          rw [show decide ((k : Int) ∈ La) = false from decide_eq_false hno] at KH
                          have KH := hid KH
                          clear hno
                          go_wp2_with fail
                          refine KH.out.mono ?_
                          rintro e w9 ⟨rfl, rfl⟩
                          clear w0 KH
                          go_wp2
                          go_roundw
                          case rel => exact ⟨k + 1, by go_num, by omega, by rw [HNS.out], HBK.out⟩
                          case measure => first | (simp [intOf]; done) | (simp [intOf]; omega)
                  · have hkI : decide ((k : Int) < (PL : Int)) = false := decide_eq_false (by omega)
                    have hSc : S = cnt := by
                      have h := HSUM.out
                      rw [← HS.out, List.take_of_length_le (by rw [HDL.out]; omega)]
                      exact h
                    have hscB : (S == cnt) = true := by simp [hSc]
                    obtain ⟨htm2, hwq2, hwc, hd10⟩ := HTM.out
                    clear hSc
                    go_wp2_with fail
                    refine (carried_y wr).mono ?_
                    rintro e W12 ⟨rfl, hb⟩
                    have HE := hid (H11.out.trans (HBK.out.trans (hb.mono HBK.out.size) |>.mono H11.out.size))
                    clear hb
                    go_wp2
                    go_ret
                    exact ⟨rfl, HE.out⟩
              · have h4B : decide ((4 : Int) < (NN : Int)) = true := decide_eq_true (by have := HNP.out; omega)
                go_wp2_with fail
                refine (carried_y wr).mono ?_
                rintro e W12 ⟨rfl, hb⟩
                have HE := hid (HBT.out.1.trans (hb.mono HBT.out.1.size))
                clear hb
                go_wp2
                go_ret
                exact ⟨rfl, HE.out⟩
  · have hzn : (z != 0) = true := by simpa using hz0
    clear hz hz0
    go_wp2_with fail
    refine (carried_y W2).mono ?_
    rintro e W3 ⟨rfl, hb⟩
    have H3 := hid (H2.out.1.trans (hb.mono H2.out.1.size))
    clear hb
    go_wp2
    go_ret
    exact ⟨rfl, H3.out⟩
end Go.Proofs.YtlnamjhgbdacbaaGreat
/- The last step of each statement's proof: a call that has only laid new memory leaves its arguments as they read. -/
namespace Go.Proofs.YtlnamjhgbdacbaaGreat
open Go.ChangeShapes Go.WideShapes Go.ChangeAt Go.RowKit

section
variable {H : Type} {enc : TypeId × Value → H}
/-- arguments read as they did -/
theorem trodAll_below {P : Program} (hl : laidOutB P = true) {W W' : World} (hb : Below W.heap.size W W') : ∀ {ts : List TypeId} {vs : List Value} {ds : List (DataW H)} {ps : List MemPlace},
    (ts.all fun t => P.readableRec t && decide (t < P.types.size)) = true → DataW.TrodAll enc P W 0 (fun _ => true) true ts vs ds ps → (∀ x ∈ ps, x.block < W.heap.size) →
    DataW.TrodAll enc P W' 0 (fun b => decide (b < W.heap.size)) true ts vs ds ps := by
  intro ts
  induction ts with
  | nil =>
    intro vs ds ps _ h _
    obtain ⟨rfl, rfl, rfl⟩ := trodAll_nil h
    exact trodAll_mk0
  | cons t ts ih =>
    intro vs ds ps ht h hp
    obtain ⟨v, vs', d, ds', p, p', rfl, rfl, rfl, h0, h1⟩ := trodAll_cons h
    simp only [List.all_cons, Bool.and_eq_true, decide_eq_true_eq] at ht
    exact trodAll_cons_mk (hb.trod hl ht.1.1 ht.1.2 h0 fun x hx => hp x (List.mem_append_left _ hx)) (ih ht.2 h1 fun x hx => hp x (List.mem_append_right _ hx))
theorem law_post {f : Func} {s : ChangeSpec} {W W' : World} {args : Array Value} {ds gs : List (DataW H)} {before : List MemPlace} (hl : laidOutB Tryz.prog = true) (hv : s.vars = [])
    (hr : f.resultTypes = #[4]) (hp : (f.params.toList.all fun t => Tryz.prog.readableRec t && decide (t < Tryz.prog.types.size)) = true)
    (hW : DataW.Whole enc Tryz.prog f.params.toList s.vars false W args.toList ds gs before) (hs : s.fn H (ds ++ gs) = { results := [.lit (.bool true)], args := ds }) (hb : Below W.heap.size W W') :
    s.post enc Tryz.prog f false true false false W args (.bool true) W' := by
  have hlt := hW.lt
  have hW' := hW
  obtain ⟨p, q, hA, hV, rfl, _, _⟩ := hW
  rw [hv] at hV
  obtain ⟨rfl, rfl⟩ := trodVars_none hV
  refine ⟨ds, [], p ++ [], [], p, [], hW', ?_, ?_, ?_, ?_, fun h => by cases h⟩
  · rw [hs, hr]
    exact trodAll_cons_mk (shut_bool Tryz.underlying4 _) trodAll_mk0
  · rw [hs]
    exact trodAll_below hl hb hp hA fun x hx => hlt x (by simpa using hx)
  · rw [hs, hv]; rfl
  · exact World.keptBut_mono (fun x hx => ⟨hx, .inr (.inl (by simpa using hx))⟩) (hb.frame (· ∈ p ++ []))
end
theorem own : ownKnob Tryz.prog.godebug = none := by kernel_rfl
theorem laid_out : laidOutB Tryz.prog = true := by kernel_rfl
end Go.Proofs.YtlnamjhgbdacbaaGreat
/- Opening an argument that is a list of numbers. -/
namespace Go.Proofs.YtlnamjhgbdacbaaGreat
open Go.ChangeShapes Go.WideShapes Go.ChangeAt Go.RowKit

section
variable {H : Type} {enc : TypeId × Value → H}
theorem of_slice {a b : Option Addr} {n m c d : Nat} {v : Value} (h : v = .slice a n c) (e : v.cells.toList = [.slice b m d]) : v = .slice b m d := by
  subst h
  simpa [Value.cells] using e
set_option maxRecDepth 100000 in
/-- a list of numbers of one kind, as an argument -/
theorem open_nums {W : World} {r : Reach} {b0 : Nat} {t e : TypeId} {k : IntKind} {v : Value} {d : DataW H} {ps : List MemPlace} (ht : Tryz.prog.underlying t = some (.slice e)) (he : Tryz.prog.underlying e = some (.int k)) (hc : Tryz.prog.cellsOf e = 1)
    (hval : Value.okWide Tryz.prog W r b0 t v) (hd : DataW.Trod enc Tryz.prog W 0 (fun _ => true) true t v d ps) :
    ∃ (A : Option Addr) (c : Nat) (xs : List Int), v = .slice A xs.length c ∧ xs.length ≤ c ∧ c ≤ maxLen ∧ (A = none → c = 0) ∧ (∀ x ∈ xs, k.min ≤ x ∧ x ≤ k.max) ∧
      ∀ i x, xs[i]? = some x → ∃ a, A = some a ∧ a.block < W.heap.size ∧ W.cell? (a.add i) = some (.int k x) := by
  obtain ⟨fuel, h⟩ := hd
  obtain ⟨a0, n0, c0, hv⟩ := okWide_slice ht hval
  rcases open_ints ht he hc h with ⟨e1, _⟩ | ⟨a, len, cap, zs, e1, _, hl, hm, hz, _, hcell, hwf⟩
  · have := of_slice hv e1
    subst this
    exact ⟨none, 0, [], rfl, Nat.le_refl 0, Nat.zero_le maxLen, fun _ => rfl, (fun x hx => by simp at hx), fun i x hx => by simp at hx⟩
  · have := of_slice hv e1
    subst this
    simp only [if_true] at hz
    have hlt : (zs.take len).length = len := by rw [List.length_take]; omega
    refine ⟨some a, cap, zs.take len, by rw [hlt], by omega, hm, (fun e => by cases e), (fun x hx => by simpa [Lit.wf] using hwf x (List.mem_of_mem_take hx)), fun i x hx => ?_⟩
    rw [List.getElem?_take] at hx
    split at hx
    · have hi := (List.getElem?_eq_some_iff.1 hx).1
      have hcl := hcell i hi
      rw [show zs.getD i 0 = x by simp [List.getD, hx]] at hcl
      exact ⟨a, rfl, by have := block_lt_of_cell hcl; rwa [block_of_add] at this, hcl⟩
    · cases hx
end
end Go.Proofs.YtlnamjhgbdacbaaGreat
/- Opening an argument that is a map. -/
namespace Go.Proofs.YtlnamjhgbdacbaaGreat
open Go.ChangeShapes Go.WideShapes Go.ChangeAt Go.RowKit Go.Deep Go.Joins

instance : Inhabited Stt := ⟨⟨0, 0, 0, 0, 0⟩⟩
instance : Inhabited Jn := ⟨⟨0, 0⟩⟩
section
variable {H : Type} {enc : TypeId × Value → H} {W : World} {n : Nat} {v : Value} {y : DataW H × List MemPlace}
set_option maxRecDepth 100000 in
theorem trod_ints (h : DataW.trod enc Tryz.prog W 0 (fun _ => true) true n 22 [v] = some y) :
    ∃ A c xs, v = .slice A (xs : List Int).length c ∧ IsInts W W.heap.size A xs ∧ xs.length ≤ c ∧ c ≤ maxLen ∧ (A = none → c = 0) := by
  rcases open_ints Tryz.underlying22 Tryz.underlying3 (by kernel_rfl) h with ⟨e, _⟩ | ⟨a, len, cap, zs, e, _, hl, hm, hz, _, hcell, _⟩
  · injection e with e
    subst e
    exact ⟨none, 0, [], rfl, (fun r xs hr => by simp at hr), Nat.le_refl 0, Nat.zero_le maxLen, fun _ => rfl⟩
  · injection e with e
    subst e
    simp only [if_true] at hz
    have hlt : (zs.take len).length = len := by rw [List.length_take]; omega
    refine ⟨some a, cap, zs.take len, by rw [hlt], fun i x hx => ?_, by omega, hm, fun e => by cases e⟩
    rw [List.getElem?_take] at hx
    split at hx
    · have hi := (List.getElem?_eq_some_iff.1 hx).1
      have hcl := hcell i hi
      rw [show zs.getD i 0 = x by simp [List.getD, hx]] at hcl
      exact ⟨a, rfl, by have := block_lt_of_cell hcl; rwa [block_of_add] at this, hcl⟩
    · cases hx
set_option maxRecDepth 100000 in
theorem trod_rng {cs : List Value} {x : DataW H × List MemPlace} (h : DataW.trod enc Tryz.prog W 0 (fun _ => true) true n 43 cs = some x) (hl : cs.length = 2) :
    ∃ lo hi : Int, cs = [.int .i64 lo, .int .i64 hi] := by
  obtain ⟨y0, y1, m, _, _, h0, h1⟩ := trod_struct2 Tryz.underlying43 h
  match cs, hl with
  | [c0, c1], _ =>
    have k : Tryz.prog.cellsOf 3 = 1 := by kernel_rfl
    simp only [k, List.drop_zero, List.drop_succ_cons, List.take_succ_cons, List.take_zero] at h0 h1
    obtain ⟨n0, e0, _, _⟩ := DataW.trod_int Tryz.underlying3 h0
    obtain ⟨n1, e1, _, _⟩ := DataW.trod_int Tryz.underlying3 h1
    injection e0 with e0
    injection e1 with e1
    subst e0 e1
    exact ⟨n0, n1, rfl⟩
set_option maxRecDepth 100000 in
theorem trod_stt {a : Addr} {cs : List Value} {x : DataW H × List MemPlace} (hc : W.cells? 0 a 5 = some cs) (h : DataW.trod enc Tryz.prog W 0 (fun _ => true) true n 45 cs = some x) :
    ∃ s : Stt, W.cell? a = some (.int .i64 s.o) ∧ W.cell? ⟨a.block, a.off + 1, none⟩ = some (.int .i64 s.n) ∧ W.cell? ⟨a.block, a.off + 2, none⟩ = some (.int .i64 s.wt) ∧ W.cell? ⟨a.block, a.off + 3, none⟩ = some (.int .i64 s.lo) ∧ W.cell? ⟨a.block, a.off + 4, none⟩ = some (.int .i64 s.hi) := by
  obtain ⟨y0, y1, y2, y3, m, _, hl, h0, h1, h2, h3⟩ := trod_struct4 Tryz.underlying45 h
  obtain ⟨_, hlen, hcell⟩ := World.cells?_some hc
  match cs, hlen with
  | [c0, c1, c2, c3, c4], _ =>
    have k : Tryz.prog.cellsOf 3 = 1 := by kernel_rfl
    have k2 : Tryz.prog.cellsOf 43 = 2 := by kernel_rfl
    simp only [k, k2, List.drop_zero, List.drop_succ_cons, List.take_succ_cons, List.take_zero] at h0 h1 h2 h3
    obtain ⟨n0, e0, _, _⟩ := DataW.trod_int Tryz.underlying3 h0
    obtain ⟨n1, e1, _, _⟩ := DataW.trod_int Tryz.underlying3 h1
    obtain ⟨n2, e2, _, _⟩ := DataW.trod_int Tryz.underlying3 h2
    obtain ⟨lo, hi, e3⟩ := trod_rng h3 rfl
    injection e0 with e0
    injection e1 with e1
    injection e2 with e2
    injection e3 with e3 e4
    injection e4 with e4
    subst e0 e1 e2 e3 e4
    refine ⟨⟨n0, n1, n2, lo, hi⟩, ?_, ?_, ?_, ?_, ?_⟩
    · have := hcell 0 (by omega); simpa [Addr.add] using this
    · have := hcell 1 (by omega); simpa [Addr.add] using this
    · have := hcell 2 (by omega); simpa [Addr.add] using this
    · have := hcell 3 (by omega); simpa [Addr.add] using this
    · have := hcell 4 (by omega); simpa [Addr.add] using this
set_option maxRecDepth 100000 in
theorem trod_jn {a : Addr} {cs : List Value} {x : DataW H × List MemPlace} (hc : W.cells? 0 a 2 = some cs) (h : DataW.trod enc Tryz.prog W 0 (fun _ => true) true n 84 cs = some x) :
    ∃ j : Jn, W.cell? a = some (.int .i64 j.a) ∧ W.cell? ⟨a.block, a.off + 1, none⟩ = some (.int .i64 j.b) := by
  obtain ⟨y0, y1, m, _, hl, h0, h1⟩ := trod_struct2 Tryz.underlying84 h
  obtain ⟨_, hlen, hcell⟩ := World.cells?_some hc
  match cs, hlen with
  | [c0, c1], _ =>
    have k : Tryz.prog.cellsOf 3 = 1 := by kernel_rfl
    simp only [k, List.drop_zero, List.drop_succ_cons, List.take_succ_cons, List.take_zero] at h0 h1
    obtain ⟨n0, e0, _, _⟩ := DataW.trod_int Tryz.underlying3 h0
    obtain ⟨n1, e1, _, _⟩ := DataW.trod_int Tryz.underlying3 h1
    injection e0 with e0
    injection e1 with e1
    subst e0 e1
    refine ⟨⟨n0, n1⟩, ?_, ?_⟩
    · have := hcell 0 (by omega); simpa [Addr.add] using this
    · have := hcell 1 (by omega); simpa [Addr.add] using this
set_option maxRecDepth 100000 in
theorem trod_stts (h : DataW.trod enc Tryz.prog W 0 (fun _ => true) true n 23 [v] = some y) :
    ∃ A c ss, v = .slice A (ss : List Stt).length c ∧ IsStts W W.heap.size A ss ∧ ss.length ≤ c ∧ c ≤ maxLen ∧ (A = none → c = 0) := by
  rcases open_slice Tryz.underlying23 h with ⟨e, _⟩ | ⟨a, len, cap, m, n', D, Pl, e, _, hl, hm, hmm, _, hr⟩
  · injection e with e
    subst e
    exact ⟨none, 0, [], rfl, (fun r xs hr => by simp at hr), Nat.le_refl 0, Nat.zero_le maxLen, fun _ => rfl⟩
  · injection e with e
    subst e
    simp only [if_true] at hmm
    have k : Tryz.prog.cellsOf 45 = 5 := by kernel_rfl
    obtain ⟨F, hF⟩ := choose_lt (α := Stt) (n := m) (p := fun i f => W.cell? (a.add (i * 5)) = some (.int .i64 f.o) ∧ W.cell? ⟨(a.add (i * 5)).block, (a.add (i * 5)).off + 1, none⟩ = some (.int .i64 f.n) ∧ W.cell? ⟨(a.add (i * 5)).block, (a.add (i * 5)).off + 2, none⟩ = some (.int .i64 f.wt) ∧ W.cell? ⟨(a.add (i * 5)).block, (a.add (i * 5)).off + 3, none⟩ = some (.int .i64 f.lo) ∧ W.cell? ⟨(a.add (i * 5)).block, (a.add (i * 5)).off + 4, none⟩ = some (.int .i64 f.hi)) (fun i hi => by
      obtain ⟨cs', h1, h2⟩ := hr i hi
      rw [k] at h1
      exact trod_stt h1 h2)
    refine ⟨some a, cap, (List.range len).map F, by simp, fun r f hx => ?_, by simpa using hl, hm, fun e => by cases e⟩
    rw [List.getElem?_map] at hx
    cases hrr : (List.range len)[r]? with
    | none => rw [hrr] at hx; cases hx
    | some r' =>
      obtain ⟨hrl, e⟩ := List.getElem?_eq_some_iff.1 hrr
      simp at hrl
      have : r' = r := by rw [← e]; simp
      subst this
      rw [hrr] at hx
      simp only [Option.map_some] at hx
      injection hx with hx
      subst hx
      obtain ⟨h0, h1, h2, h3, h4⟩ := hF r' (by omega)
      exact ⟨a, rfl, by have := block_lt_of_cell h0; rwa [block_of_add] at this, h0, h1, h2, h3, h4⟩
set_option maxRecDepth 100000 in
theorem trod_jns (h : DataW.trod enc Tryz.prog W 0 (fun _ => true) true n 24 [v] = some y) :
    ∃ A c js, v = .slice A (js : List Jn).length c ∧ IsJns W W.heap.size A js ∧ js.length ≤ c ∧ c ≤ maxLen ∧ (A = none → c = 0) := by
  rcases open_slice Tryz.underlying24 h with ⟨e, _⟩ | ⟨a, len, cap, m, n', D, Pl, e, _, hl, hm, hmm, _, hr⟩
  · injection e with e
    subst e
    exact ⟨none, 0, [], rfl, (fun r xs hr => by simp at hr), Nat.le_refl 0, Nat.zero_le maxLen, fun _ => rfl⟩
  · injection e with e
    subst e
    simp only [if_true] at hmm
    have k : Tryz.prog.cellsOf 84 = 2 := by kernel_rfl
    obtain ⟨F, hF⟩ := choose_lt (α := Jn) (n := m) (p := fun i f => W.cell? (a.add (i * 2)) = some (.int .i64 f.a) ∧ W.cell? ⟨(a.add (i * 2)).block, (a.add (i * 2)).off + 1, none⟩ = some (.int .i64 f.b)) (fun i hi => by
      obtain ⟨cs', h1, h2⟩ := hr i hi
      rw [k] at h1
      exact trod_jn h1 h2)
    refine ⟨some a, cap, (List.range len).map F, by simp, fun r f hx => ?_, by simpa using hl, hm, fun e => by cases e⟩
    rw [List.getElem?_map] at hx
    cases hrr : (List.range len)[r]? with
    | none => rw [hrr] at hx; cases hx
    | some r' =>
      obtain ⟨hrl, e⟩ := List.getElem?_eq_some_iff.1 hrr
      simp at hrl
      have : r' = r := by rw [← e]; simp
      subst this
      rw [hrr] at hx
      simp only [Option.map_some] at hx
      injection hx with hx
      subst hx
      obtain ⟨h0, h1⟩ := hF r' (by omega)
      exact ⟨a, rfl, by have := block_lt_of_cell h0; rwa [block_of_add] at this, h0, h1⟩
/-- a map's argument: its lists, and that a nil slice has no room -/
structure MArg (m : MapD) (A : Option Addr) (c : Nat) (A2 : Option Addr) (c2 : Nat) (A3 : Option Addr) (c3 : Nat) (w : World) : Prop extends MIn m A c A2 c2 A3 c3 w where
  z1 : A = none → c = 0
  z2 : A2 = none → c2 = 0
  z3 : A3 = none → c3 = 0
theorem MArg.at_ {m : MapD} {A : Option Addr} {c : Nat} {A2 : Option Addr} {c2 : Nat} {A3 : Option Addr} {c3 : Nat} {w w' : World} (h : MArg m A c A2 c2 A3 c3 w) (hb : Below w.heap.size w w') : MArg m A c A2 c2 A3 c3 w' := ⟨h.toMIn.at_ hb, h.z1, h.z2, h.z3⟩
set_option maxRecDepth 100000 in
/-- a map, as an argument -/
theorem open_map {r : Reach} {b0 : Nat} {d : DataW H} {ps : List MemPlace} (hval : Value.okWide Tryz.prog W r b0 26 v) (hd : DataW.Trod enc Tryz.prog W 0 (fun _ => true) true 26 v d ps) :
    ∃ (m : MapD) (A : Option Addr) (c : Nat) (A2 : Option Addr) (c2 : Nat) (A3 : Option Addr) (c3 : Nat), v = .agg #[.slice A m.old.length c, .int .i64 m.nw, .slice A2 m.ss.length c2, .slice A3 m.js.length c3] ∧ MArg m A c A2 c2 A3 c3 W := by
  obtain ⟨v0, v1, v2, v3, y0, y1, y2, y3, m, rfl, _, _, h0, h1, h2, h3⟩ := open_agg4 Tryz.underlying26 (by kernel_rfl) (by kernel_rfl) hval hd
  obtain ⟨A, c, xs, rfl, r1, r2, r3, r4⟩ := trod_ints h0
  obtain ⟨b, e0, _, _⟩ := DataW.trod_int Tryz.underlying3 h1
  injection e0 with e0
  subst e0
  obtain ⟨A2, c2, ss, rfl, s1, s2, s3, s4⟩ := trod_stts h2
  obtain ⟨A3, c3, js, rfl, f1, f2, f3, f4⟩ := trod_jns h3
  exact ⟨⟨xs, b, ss, js⟩, A, c, A2, c2, A3, c3, rfl, ⟨⟨r1, s1, f1, r2, r3, s2, s3, f2, f3⟩, r4, s4, f4⟩⟩
end
end Go.Proofs.YtlnamjhgbdacbaaGreat
/- Opening an argument that is a map of places and roads. -/
namespace Go.Proofs.YtlnamjhgbdacbaaGreat
open Go.ChangeShapes Go.WideShapes Go.ChangeAt Go.RowKit Go.Deep Go.Joins

instance : Inhabited Rd := ⟨⟨0, 0, 0, 0⟩⟩
section
variable {H : Type} {enc : TypeId × Value → H} {W : World} {n : Nat} {v : Value} {y : DataW H × List MemPlace}
set_option maxRecDepth 100000 in
theorem trod_wrng {cs : List Value} {x : DataW H × List MemPlace} (h : DataW.trod enc Tryz.prog W 0 (fun _ => true) true n 67 cs = some x) (hl : cs.length = 2) :
    ∃ lo hi : Int, cs = [.int .i64 lo, .int .i64 hi] := by
  obtain ⟨y0, y1, m, _, _, h0, h1⟩ := trod_struct2 Tryz.underlying67 h
  match cs, hl with
  | [c0, c1], _ =>
    have k : Tryz.prog.cellsOf 3 = 1 := by kernel_rfl
    simp only [k, List.drop_zero, List.drop_succ_cons, List.take_succ_cons, List.take_zero] at h0 h1
    obtain ⟨n0, e0, _, _⟩ := DataW.trod_int Tryz.underlying3 h0
    obtain ⟨n1, e1, _, _⟩ := DataW.trod_int Tryz.underlying3 h1
    injection e0 with e0
    injection e1 with e1
    subst e0 e1
    exact ⟨n0, n1, rfl⟩
set_option maxRecDepth 100000 in
theorem trod_wjn {a : Addr} {cs : List Value} {x : DataW H × List MemPlace} (hc : W.cells? 0 a 2 = some cs) (h : DataW.trod enc Tryz.prog W 0 (fun _ => true) true n 67 cs = some x) :
    ∃ j : Jn, W.cell? a = some (.int .i64 j.a) ∧ W.cell? ⟨a.block, a.off + 1, none⟩ = some (.int .i64 j.b) := by
  obtain ⟨_, hlen, hcell⟩ := World.cells?_some hc
  obtain ⟨lo, hi, rfl⟩ := trod_wrng h hlen
  refine ⟨⟨lo, hi⟩, ?_, ?_⟩
  · have := hcell 0 (by omega); simpa [Addr.add] using this
  · have := hcell 1 (by omega); simpa [Addr.add] using this
set_option maxRecDepth 100000 in
theorem trod_wrd {a : Addr} {cs : List Value} {x : DataW H × List MemPlace} (hc : W.cells? 0 a 4 = some cs) (h : DataW.trod enc Tryz.prog W 0 (fun _ => true) true n 75 cs = some x) :
    ∃ s : Rd, W.cell? a = some (.int .i64 s.a) ∧ W.cell? ⟨a.block, a.off + 1, none⟩ = some (.int .i64 s.b) ∧ W.cell? ⟨a.block, a.off + 2, none⟩ = some (.int .i64 s.lo) ∧ W.cell? ⟨a.block, a.off + 3, none⟩ = some (.int .i64 s.hi) := by
  obtain ⟨y0, y1, y2, m, _, hl, h0, h1, h2⟩ := trod_struct3 Tryz.underlying75 h
  obtain ⟨_, hlen, hcell⟩ := World.cells?_some hc
  match cs, hlen with
  | [c0, c1, c2, c3], _ =>
    have k : Tryz.prog.cellsOf 3 = 1 := by kernel_rfl
    have k2 : Tryz.prog.cellsOf 67 = 2 := by kernel_rfl
    simp only [k, k2, List.drop_zero, List.drop_succ_cons, List.take_succ_cons, List.take_zero] at h0 h1 h2
    obtain ⟨n0, e0, _, _⟩ := DataW.trod_int Tryz.underlying3 h0
    obtain ⟨n1, e1, _, _⟩ := DataW.trod_int Tryz.underlying3 h1
    obtain ⟨lo, hi, e2⟩ := trod_wrng h2 rfl
    injection e0 with e0
    injection e1 with e1
    injection e2 with e2 e3
    injection e3 with e3
    subst e0 e1 e2 e3
    refine ⟨⟨n0, n1, lo, hi⟩, ?_, ?_, ?_, ?_⟩
    · have := hcell 0 (by omega); simpa [Addr.add] using this
    · have := hcell 1 (by omega); simpa [Addr.add] using this
    · have := hcell 2 (by omega); simpa [Addr.add] using this
    · have := hcell 3 (by omega); simpa [Addr.add] using this
set_option maxRecDepth 100000 in
theorem trod_wjns (h : DataW.trod enc Tryz.prog W 0 (fun _ => true) true n 52 [v] = some y) :
    ∃ A c js, v = .slice A (js : List Jn).length c ∧ IsJns W W.heap.size A js ∧ js.length ≤ c ∧ c ≤ maxLen := by
  rcases open_slice Tryz.underlying52 h with ⟨e, _⟩ | ⟨a, len, cap, m, n', D, Pl, e, _, hl, hm, hmm, _, hr⟩
  · injection e with e
    subst e
    exact ⟨none, 0, [], rfl, (fun r xs hr => by simp at hr), Nat.le_refl 0, Nat.zero_le maxLen⟩
  · injection e with e
    subst e
    simp only [if_true] at hmm
    have k : Tryz.prog.cellsOf 67 = 2 := by kernel_rfl
    obtain ⟨F, hF⟩ := choose_lt (α := Jn) (n := m) (p := fun i f => W.cell? (a.add (i * 2)) = some (.int .i64 f.a) ∧ W.cell? ⟨(a.add (i * 2)).block, (a.add (i * 2)).off + 1, none⟩ = some (.int .i64 f.b)) (fun i hi => by
      obtain ⟨cs', h1, h2⟩ := hr i hi
      rw [k] at h1
      exact trod_wjn h1 h2)
    refine ⟨some a, cap, (List.range len).map F, by simp, fun r f hx => ?_, by simpa using hl, hm⟩
    rw [List.getElem?_map] at hx
    cases hrr : (List.range len)[r]? with
    | none => rw [hrr] at hx; cases hx
    | some r' =>
      obtain ⟨hrl, e⟩ := List.getElem?_eq_some_iff.1 hrr
      simp at hrl
      have : r' = r := by rw [← e]; simp
      subst this
      rw [hrr] at hx
      simp only [Option.map_some] at hx
      injection hx with hx
      subst hx
      obtain ⟨h0, h1⟩ := hF r' (by omega)
      exact ⟨a, rfl, by have := block_lt_of_cell h0; rwa [block_of_add] at this, h0, h1⟩
set_option maxRecDepth 100000 in
theorem trod_wrds (h : DataW.trod enc Tryz.prog W 0 (fun _ => true) true n 53 [v] = some y) :
    ∃ A c rs, v = .slice A (rs : List Rd).length c ∧ IsRds W W.heap.size A rs ∧ rs.length ≤ c ∧ c ≤ maxLen := by
  rcases open_slice Tryz.underlying53 h with ⟨e, _⟩ | ⟨a, len, cap, m, n', D, Pl, e, _, hl, hm, hmm, _, hr⟩
  · injection e with e
    subst e
    exact ⟨none, 0, [], rfl, (fun r xs hr => by simp at hr), Nat.le_refl 0, Nat.zero_le maxLen⟩
  · injection e with e
    subst e
    simp only [if_true] at hmm
    have k : Tryz.prog.cellsOf 75 = 4 := by kernel_rfl
    obtain ⟨F, hF⟩ := choose_lt (α := Rd) (n := m) (p := fun i f => W.cell? (a.add (i * 4)) = some (.int .i64 f.a) ∧ W.cell? ⟨(a.add (i * 4)).block, (a.add (i * 4)).off + 1, none⟩ = some (.int .i64 f.b) ∧ W.cell? ⟨(a.add (i * 4)).block, (a.add (i * 4)).off + 2, none⟩ = some (.int .i64 f.lo) ∧ W.cell? ⟨(a.add (i * 4)).block, (a.add (i * 4)).off + 3, none⟩ = some (.int .i64 f.hi)) (fun i hi => by
      obtain ⟨cs', h1, h2⟩ := hr i hi
      rw [k] at h1
      exact trod_wrd h1 h2)
    refine ⟨some a, cap, (List.range len).map F, by simp, fun r f hx => ?_, by simpa using hl, hm⟩
    rw [List.getElem?_map] at hx
    cases hrr : (List.range len)[r]? with
    | none => rw [hrr] at hx; cases hx
    | some r' =>
      obtain ⟨hrl, e⟩ := List.getElem?_eq_some_iff.1 hrr
      simp at hrl
      have : r' = r := by rw [← e]; simp
      subst this
      rw [hrr] at hx
      simp only [Option.map_some] at hx
      injection hx with hx
      subst hx
      obtain ⟨h0, h1, h2, h3⟩ := hF r' (by omega)
      exact ⟨a, rfl, by have := block_lt_of_cell h0; rwa [block_of_add] at this, h0, h1, h2, h3⟩
set_option maxRecDepth 100000 in
/-- a map of places, as an argument -/
theorem open_wmap {r : Reach} {b0 : Nat} {d : DataW H} {ps : List MemPlace} (hval : Value.okWide Tryz.prog W r b0 55 v) (hd : DataW.Trod enc Tryz.prog W 0 (fun _ => true) true 55 v d ps) :
    ∃ (m : WMD) (A : Option Addr) (c : Nat) (A2 : Option Addr) (c2 : Nat), v = .agg #[.slice A m.work.length c, .slice A2 m.roads.length c2] ∧ WIn m A c A2 c2 W := by
  obtain ⟨v0, v1, y0, y1, m, rfl, _, _, h0, h1⟩ := open_agg2 Tryz.underlying55 (by kernel_rfl) (by kernel_rfl) hval hd
  obtain ⟨A, c, xs, rfl, r1, r2, r3⟩ := trod_wjns h0
  obtain ⟨A2, c2, rs, rfl, s1, s2, s3⟩ := trod_wrds h1
  exact ⟨⟨xs, rs⟩, A, c, A2, c2, rfl, r1, s1, r2, r3, s2, s3⟩
end
end Go.Proofs.YtlnamjhgbdacbaaGreat
