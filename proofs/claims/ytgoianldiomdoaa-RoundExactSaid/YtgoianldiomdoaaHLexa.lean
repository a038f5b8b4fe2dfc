/- For every table, that of multiples of its base below its cells has one rounding, with no change: the statement RoundExact. No condition. -/
import Derived.Test.YtgoianldiomdoaaG12
namespace Go.Proofs.Ytgoianldiomdoaa
open Go.RowKit Go.Shelf

set_option maxRecDepth 100000 in
set_option maxHeartbeats 400000 in
theorem exact_not (b : Int) (A : Option Addr) (c : Nat) (cs : List (List Int)) (A2 : Option Addr) (c2 : Nat) (fs : List Fx) (w : World) (h : TIn A c cs A2 c2 fs w) (hr : readyB b cs fs = false) :
    Calls Try.prog 10 #[.agg #[.int .i64 b, .slice A cs.length c, .slice A2 fs.length c2]] w fun e w' => e = .returned (.bool true) ∧ Below w.heap.size w w' := by
  have hB := below_box (w := w) #[.int .i64 b, .slice A cs.length c, .slice A2 fs.length c2] 25
  have hT := Blk.new w 25 #[.int .i64 b, .slice A cs.length c, .slice A2 fs.length c2]
  have HB0 := hid hB
  have HT0 := hid hT
  have HH := hid h
  obtain ⟨t0, t1, t2⟩ := hT.c3
  clear h hB hT
  have HRD := hid hr
  clear hr
  go_enter Try.func10, Try.ntmps10
  have K1 := hid (ready_any b A c cs A2 c2 fs _ (HH.out.at_ HB0.out))
  rw [HRD.out] at K1
  go_wp2_with fail
  refine K1.out.mono ?_
  rintro e w1 ⟨rfl, hb⟩
  have HB1 := hid (HB0.out.trans (hb.mono HB0.out.size))
  have HT1 := hid (HT0.out.keep hb)
  clear hb K1 t0 t1 t2
  obtain ⟨t0, t1, t2⟩ := HT1.out.c3
  have K2 := hid (awake_any w1)
  go_wp2_with fail
  refine K2.out.mono ?_
  rintro e w2 ⟨rfl, hb⟩
  have HB2 := hid (HB1.out.trans (hb.mono HB1.out.size))
  have HT2 := hid (HT1.out.keep hb)
  clear hb K2 t0 t1 t2
  obtain ⟨t0, t1, t2⟩ := HT2.out.c3
  clear t0 t1 t2
  go_wp2
  go_ret
  exact ⟨rfl, HB2.out⟩

set_option maxRecDepth 100000 in
set_option maxHeartbeats 400000 in
theorem exact_ok (b : Int) (A : Option Addr) (c : Nat) (cs : List (List Int)) (A2 : Option Addr) (c2 : Nat) (fs : List Fx) (w : World) (h : TIn A c cs A2 c2 fs w) (hr : readyB b cs fs = true) :
    Calls Try.prog 10 #[.agg #[.int .i64 b, .slice A cs.length c, .slice A2 fs.length c2]] w fun e w' => e = .returned (.bool true) ∧ Below w.heap.size w w' := by
  have hB := below_box (w := w) #[.int .i64 b, .slice A cs.length c, .slice A2 fs.length c2] 25
  have hT := Blk.new w 25 #[.int .i64 b, .slice A cs.length c, .slice A2 fs.length c2]
  have HB0 := hid hB
  have HT0 := hid hT
  have HH := hid h
  obtain ⟨t0, t1, t2⟩ := hT.c3
  clear h hB hT
  have HRD := hid hr
  have HCK := hid (ready_chk hr)
  have OK := hid (chk_ok (ready_chk hr))
  have hn5 := OK.out.okc.n2
  have hn1 := OK.out.okc.n1
  have hc4 := OK.out.okc.c2
  have hf100 := OK.out.n
  have hb1 := OK.out.okc.b1
  have HCX := hid (fun (xs : List Int) (hx : xs ∈ cs) => show xs.length ≤ 1000 by have := OK.out.okc.row xs hx; omega)
  clear hr
  have hb2 := OK.out.okc.b2
  obtain ⟨X, hX⟩ : ∃ X, X = multOf b cs := ⟨_, rfl⟩
  have HXL := hid (show X.length = cs.length by rw [hX]; simp [multOf])
  have HXR := hid (show ∀ (k : Nat) (ys : List Int), cs[k]? = some ys → X[k]? = some (ys.map fun x => x - x % b) from fun k ys hk => by rw [hX]; unfold multOf; rw [List.getElem?_map, hk]; rfl)
  have HXK := hid (show chkE b X [] = 0 by rw [hX]; exact chk_exact HCK.out)
  have HXW := hid (show (spec b X [] X.length zeroS).ways = 1 ∧ (spec b X [] X.length zeroS).change = 0 by rw [hX]; exact ways_exact hb1 (mult_of b cs))
  have HXB := hid (show bestOf b X [] X.length zeroS = X by rw [hX]; exact best_exact hb1 (mult_of b cs))
  have HXC := hid (show ∀ xs ∈ X, xs.length ≤ 1000 from fun xs hx => by
    rw [hX] at hx
    obtain ⟨r, hr, rfl⟩ := List.mem_map.1 hx
    have := OK.out.okc.row r hr
    rw [List.length_map]; omega)
  clear hX
  have hm1 := HH.out.m1
  have hl1 := HH.out.l1
  unfold maxLen at hm1
  go_enter Try.func10, Try.ntmps10
  have K1 := hid (ready_any b A c cs A2 c2 fs _ (HH.out.at_ HB0.out))
  rw [HRD.out] at K1
  go_wp2_with fail
  refine K1.out.mono ?_
  rintro e w1 ⟨rfl, hb⟩
  have HB1 := hid (HB0.out.trans (hb.mono HB0.out.size))
  have HT1 := hid (HT0.out.keep hb)
  clear hb K1 t0 t1 t2
  obtain ⟨t0, t1, t2⟩ := HT1.out.c3
  go_wp2
  obtain ⟨Bx, hBx⟩ : ∃ Bx, Bx = w1.heap.size := ⟨_, rfl⟩
  refine gen (p := Code.wp _ _ _ _) (fun W => XI b A c cs A2 c2 fs Bx X 0 (.slice none 0 0) w W) ?_ ?_
  · have hb1' := (HB1.out).alloc HB1.out.size (.cells #[.int .i64 b, .slice none 0 0, .slice none 0 0] 25)
    have hx := Blk.new w1 25 #[.int .i64 b, .slice none 0 0, .slice none 0 0]
    rw [← hBx] at hx
    exact ⟨HT1.out.alloc _, hx, Rows_.zero, hb1', by have := HT1.out.lt; omega⟩
  rw [← hBx]
  have HBx := hid hBx
  clear hBx t0 t1 t2
  intro W0 hi
  have HI := hid hi
  clear hi
  go_loopw [4] (fun i wr => ∃ (k : Nat) (v : Value), k ≤ cs.length ∧ i = .int .i64 k ∧ XI b A c cs A2 c2 fs Bx X k v w wr) (fun i _ => cs.length - (intOf i).toNat)
  case atStart => exact ⟨0, _, Nat.zero_le _, rfl, HI.out⟩
  case round =>
    obtain ⟨k, v, hk, rfl, hi⟩ := hrel
    clear HI
    have HI := hid hi
    obtain ⟨t0, t1, t2⟩ := hi.tb.c3
    clear hi
    by_cases hlt : k < cs.length
    · have hkI : (k : Int) < (cs.length : Int) := by omega
      obtain ⟨ys, hys⟩ : ∃ ys, cs[k]? = some ys := ⟨_, List.getElem?_eq_getElem hlt⟩
      have hyl := OK.out.okc.row ys (List.mem_of_getElem? hys)
      have hyb := OK.out.okc.cell ys (List.mem_of_getElem? hys)
      obtain ⟨xs, hxs⟩ : ∃ xs, xs = ys.map fun x => x - x % b := ⟨_, rfl⟩
      have hxl : xs.length = ys.length := by rw [hxs, List.length_map]
      have HXS := hid (show X[k]? = some xs by rw [hxs]; exact HXR.out k ys hys)
      have hxg : ∀ (j : Nat) (y : Int), ys[j]? = some y → xs[j]? = some (y - y % b) := fun j y hj => by rw [hxs, List.getElem?_map, hj]; rfl
      have HXG := hid hxg
      have HYS := hid hys
      have HXL2 := hid hxl
      have hy4 : ys.length ≤ 4 := by omega
      clear hxs hxl hxg hys hyl
      go_wp2
      clear t0 t1 t2
      go_loopw [6, 5] (fun i u W => ∃ j : Nat, j ≤ ys.length ∧ i = .int .i64 j ∧ W.ownsRow wr.heap.size 3 1 u j ((xs.take j).map (Value.int .i64)) ∧ Below wr.heap.size wr W) (fun i _ _ => ys.length - (intOf i).toNat)
      case atStart => exact ⟨0, Nat.zero_le _, rfl, World.ownsRow_nil _ _ _ _, Below.refl _ _⟩
      case round =>
        obtain ⟨j, hj, rfl, ho, hbj⟩ := hrel
        have hbw := HI.out.below.trans (hbj.mono HI.out.below.size)
        obtain ⟨t0, t1, t2⟩ := (HI.out.tb.keep hbj).c3
        obtain ⟨a, A1, c1, rfl, p1, p2, p3, p4, p5⟩ := (HH.out.at_ hbw).ic k ys HYS.out
        unfold maxLen at p4
        by_cases hlj : j < ys.length
        · have hjI : (j : Int) < (ys.length : Int) := by omega
          obtain ⟨y, hy⟩ : ∃ y, ys[j]? = some y := ⟨_, List.getElem?_eq_getElem hlj⟩
          obtain ⟨ae, rfl, u1, u2⟩ := p5 j y hy
          obtain ⟨hy1, hy2⟩ := hyb y (List.mem_of_getElem? hy)
          obtain ⟨z, hz⟩ : ∃ z, z = y % b := ⟨_, rfl⟩
          have m1 := Int.emod_nonneg y (show b ≠ 0 by omega)
          have m2 := Int.emod_lt_of_pos y (show 0 < b by omega)
          rw [← hz] at m1 m2
          have hxj := HXG.out j y hy
          rw [← hz] at hxj
          have HXJ := hid hxj
          have hb0 : (b == 0) = false := by simp; omega
          have hb00 : ¬ b = 0 := by omega
          have htm : y.tmod b = z := by rw [Int.tmod_eq_emod_of_nonneg hy1]; exact hz.symm
          have hw1 : IntKind.i64.wrap z = z := IntWalk.i64_in _ (by omega)
          have hw2 : IntKind.i64.wrap (y - z) = y - z := IntWalk.i64_in _ (by omega)
          obtain ⟨i0, hi0, hz0, hz1, hz2⟩ := info_parts int_info
          have HO := hid ho
          have HBJ := hid hbj
          have hTB := HI.out.tb.keep hbj
          have HTB := hid (fun (W2 : World) (hW : Below wr.heap.size wr W2) => (hTB.keep hW).c3)
          have HC1 := hid (fun (W2 : World) (hW : Below wr.heap.size wr W2) => (hW.cell (by rw [block_of_add]; exact p1)).trans p2)
          have HC2 := hid (fun (W2 : World) (hW : Below wr.heap.size wr W2) => (hW.cell (by rw [block_of_add]; exact u1)).trans u2)
          have hkc2 : (k : Int) < (k : Int) + 1 := by omega
          clear ho hbj hTB p5 u2 hy hz hxj hbw
          go_wp2
          clear t0 t1 t2 p2
          refine (wpIn_wide (n := 0)).1 ?_
          refine wpIn_region_each 22 (fun i v W' => match i with | 0 => v = u5 | 1 => v = .pointer (some ⟨w.heap.size, 1, none⟩) | 2 => v = .slice (some a) cs.length c | 3 => v = .int .i64 (k : Int) | 4 => v = .pointer (some (a.add k)) | 5 => v = .slice (some ae) ys.length c1 | 6 => v = .int .i64 (j : Int) | 7 => v = .pointer (some (ae.add j)) | 8 => v = .int .i64 y | 9 => v = .pointer (some ⟨w.heap.size, 1, none⟩) | 10 => v = .slice (some a) cs.length c | 11 => v = .int .i64 (k : Int) | 12 => v = .pointer (some (a.add k)) | 13 => v = .slice (some ae) ys.length c1 | 14 => v = .int .i64 (j : Int) | 15 => v = .pointer (some (ae.add j)) | 16 => v = .int .i64 y | 17 => v = .pointer (some ⟨w.heap.size, 0, none⟩) | 18 => v = .int .i64 b | 19 => v = .int .i64 z | 20 => v = .int .i64 (y - z) | 21 => ∃ gl, v = .slice (some ⟨gl, 0, none⟩) 1 1 ∧ Blk W' gl 3 #[.int .i64 (y - z)] | _ => True) (fun A B => Below A.heap.size A B) (fun _ _ => True) (by kernel_rfl) (by kernel_rfl) ?_ (fun h k => h.trans (k.mono h.size)) ⟨rfl, rfl, rfl, Nat.le_refl _, fun _ _ => rfl⟩ trivial (by kernel_rfl) ?_ ?_
          · intro i v W1 W2 hb h
            match i, h with
            | 0, h => exact h
            | 1, h => exact h
            | 2, h => exact h
            | 3, h => exact h
            | 4, h => exact h
            | 5, h => exact h
            | 6, h => exact h
            | 7, h => exact h
            | 8, h => exact h
            | 9, h => exact h
            | 10, h => exact h
            | 11, h => exact h
            | 12, h => exact h
            | 13, h => exact h
            | 14, h => exact h
            | 15, h => exact h
            | 16, h => exact h
            | 17, h => exact h
            | 18, h => exact h
            | 19, h => exact h
            | 20, h => exact h
            | 21, h =>
              obtain ⟨gl, rfl, h1⟩ := h
              exact ⟨gl, rfl, h1.keep hb⟩
            | i + 22, h => trivial
          · refine ⟨?_, ?_, ?_, ?_, ?_, ?_, ?_, ?_, ?_, ?_, ?_, ?_, ?_, ?_, ?_, ?_, ?_, ?_, ?_, ?_, ?_, ?_, trivial⟩
            · -- 0
              intro li a1 W2 hA K hK
              have e5 := hA.par 5 (by kernel_rfl)
              refine opStep none 0 rfl rfl (fun c hc => by cases hc) ?_
              go_simp
              exact hK _ _ rfl (Below.refl _ _) trivial
            · -- 1
              intro li a1 W2 hA K hK
              have e1 := hA.par 1 (by kernel_rfl)
              refine opStep none 0 rfl rfl (fun c hc => by cases hc) ?_
              go_simp
              exact hK _ _ rfl (Below.refl _ _) trivial
            · -- 2
              intro li a1 W2 hA K hK
              have e37 : a1.tmps.getD 37 undef = .pointer (some ⟨w.heap.size, 1, none⟩) := hA.val 1 37 (by kernel_rfl) (by kernel_rfl)
              obtain ⟨_, q1, _⟩ := HTB.out W2 hA.st
              refine opStep none 0 rfl rfl (fun c hc => by cases hc) ?_
              go_simp
              exact hK _ _ rfl (Below.refl _ _) trivial
            · -- 3
              intro li a1 W2 hA K hK
              have e4 := hA.par 4 (by kernel_rfl)
              refine opStep none 0 rfl rfl (fun c hc => by cases hc) ?_
              go_simp
              exact hK _ _ rfl (Below.refl _ _) trivial
            · -- 4
              intro li a1 W2 hA K hK
              have e38 : a1.tmps.getD 38 undef = .slice (some a) cs.length c := hA.val 2 38 (by kernel_rfl) (by kernel_rfl)
              have e39 : a1.tmps.getD 39 undef = .int .i64 (k : Int) := hA.val 3 39 (by kernel_rfl) (by kernel_rfl)
              refine opStep none 0 rfl rfl (fun c hc => by cases hc) ?_
              go_simp
              exact hK _ _ (by first | rfl | exact congrArg (fun q => Value.pointer (some q)) (add_blk _ _)) (Below.refl _ _) trivial
            · -- 5
              intro li a1 W2 hA K hK
              have e40 : a1.tmps.getD 40 undef = .pointer (some (a.add k)) := hA.val 4 40 (by kernel_rfl) (by kernel_rfl)
              have q1 := HC1.out W2 hA.st
              refine opStep none 0 rfl rfl (fun c hc => by cases hc) ?_
              go_simp
              exact hK _ _ rfl (Below.refl _ _) trivial
            · -- 6
              intro li a1 W2 hA K hK
              have e6 := hA.par 6 (by kernel_rfl)
              refine opStep none 0 rfl rfl (fun c hc => by cases hc) ?_
              go_simp
              exact hK _ _ rfl (Below.refl _ _) trivial
            · -- 7
              intro li a1 W2 hA K hK
              have e41 : a1.tmps.getD 41 undef = .slice (some ae) ys.length c1 := hA.val 5 41 (by kernel_rfl) (by kernel_rfl)
              have e42 : a1.tmps.getD 42 undef = .int .i64 (j : Int) := hA.val 6 42 (by kernel_rfl) (by kernel_rfl)
              refine opStep none 0 rfl rfl (fun c hc => by cases hc) ?_
              go_simp
              exact hK _ _ (by first | rfl | exact congrArg (fun q => Value.pointer (some q)) (add_blk _ _)) (Below.refl _ _) trivial
            · -- 8
              intro li a1 W2 hA K hK
              have e43 : a1.tmps.getD 43 undef = .pointer (some (ae.add j)) := hA.val 7 43 (by kernel_rfl) (by kernel_rfl)
              have q1 := HC2.out W2 hA.st
              refine opStep none 0 rfl rfl (fun c hc => by cases hc) ?_
              go_simp
              exact hK _ _ rfl (Below.refl _ _) trivial
            · -- 9
              intro li a1 W2 hA K hK
              have e1 := hA.par 1 (by kernel_rfl)
              refine opStep none 0 rfl rfl (fun c hc => by cases hc) ?_
              go_simp
              exact hK _ _ rfl (Below.refl _ _) trivial
            · -- 10
              intro li a1 W2 hA K hK
              have e45 : a1.tmps.getD 45 undef = .pointer (some ⟨w.heap.size, 1, none⟩) := hA.val 9 45 (by kernel_rfl) (by kernel_rfl)
              obtain ⟨_, q1, _⟩ := HTB.out W2 hA.st
              refine opStep none 0 rfl rfl (fun c hc => by cases hc) ?_
              go_simp
              exact hK _ _ rfl (Below.refl _ _) trivial
            · -- 11
              intro li a1 W2 hA K hK
              have e4 := hA.par 4 (by kernel_rfl)
              refine opStep none 0 rfl rfl (fun c hc => by cases hc) ?_
              go_simp
              exact hK _ _ rfl (Below.refl _ _) trivial
            · -- 12
              intro li a1 W2 hA K hK
              have e46 : a1.tmps.getD 46 undef = .slice (some a) cs.length c := hA.val 10 46 (by kernel_rfl) (by kernel_rfl)
              have e47 : a1.tmps.getD 47 undef = .int .i64 (k : Int) := hA.val 11 47 (by kernel_rfl) (by kernel_rfl)
              refine opStep none 0 rfl rfl (fun c hc => by cases hc) ?_
              go_simp
              exact hK _ _ (by first | rfl | exact congrArg (fun q => Value.pointer (some q)) (add_blk _ _)) (Below.refl _ _) trivial
            · -- 13
              intro li a1 W2 hA K hK
              have e48 : a1.tmps.getD 48 undef = .pointer (some (a.add k)) := hA.val 12 48 (by kernel_rfl) (by kernel_rfl)
              have q1 := HC1.out W2 hA.st
              refine opStep none 0 rfl rfl (fun c hc => by cases hc) ?_
              go_simp
              exact hK _ _ rfl (Below.refl _ _) trivial
            · -- 14
              intro li a1 W2 hA K hK
              have e6 := hA.par 6 (by kernel_rfl)
              refine opStep none 0 rfl rfl (fun c hc => by cases hc) ?_
              go_simp
              exact hK _ _ rfl (Below.refl _ _) trivial
            · -- 15
              intro li a1 W2 hA K hK
              have e49 : a1.tmps.getD 49 undef = .slice (some ae) ys.length c1 := hA.val 13 49 (by kernel_rfl) (by kernel_rfl)
              have e50 : a1.tmps.getD 50 undef = .int .i64 (j : Int) := hA.val 14 50 (by kernel_rfl) (by kernel_rfl)
              refine opStep none 0 rfl rfl (fun c hc => by cases hc) ?_
              go_simp
              exact hK _ _ (by first | rfl | exact congrArg (fun q => Value.pointer (some q)) (add_blk _ _)) (Below.refl _ _) trivial
            · -- 16
              intro li a1 W2 hA K hK
              have e51 : a1.tmps.getD 51 undef = .pointer (some (ae.add j)) := hA.val 15 51 (by kernel_rfl) (by kernel_rfl)
              have q1 := HC2.out W2 hA.st
              refine opStep none 0 rfl rfl (fun c hc => by cases hc) ?_
              go_simp
              exact hK _ _ rfl (Below.refl _ _) trivial
            · -- 17
              intro li a1 W2 hA K hK
              have e1 := hA.par 1 (by kernel_rfl)
              refine opStep none 0 rfl rfl (fun c hc => by cases hc) ?_
              go_simp
              exact hK _ _ rfl (Below.refl _ _) trivial
            · -- 18
              intro li a1 W2 hA K hK
              have e53 : a1.tmps.getD 53 undef = .pointer (some ⟨w.heap.size, 0, none⟩) := hA.val 17 53 (by kernel_rfl) (by kernel_rfl)
              obtain ⟨q1, _, _⟩ := HTB.out W2 hA.st
              refine opStep none 0 rfl rfl (fun c hc => by cases hc) ?_
              go_simp
              exact hK _ _ rfl (Below.refl _ _) trivial
            · -- 19
              intro li a1 W2 hA K hK
              have e52 : a1.tmps.getD 52 undef = .int .i64 y := hA.val 16 52 (by kernel_rfl) (by kernel_rfl)
              have e54 : a1.tmps.getD 54 undef = .int .i64 b := hA.val 18 54 (by kernel_rfl) (by kernel_rfl)
              refine opStep none 0 rfl rfl (fun c hc => by cases hc) ?_
              go_simp
              exact hK _ _ (by first | rfl | exact congrArg (Value.int .i64) htm | (simp [htm])) (Below.refl _ _) trivial
            · -- 20
              intro li a1 W2 hA K hK
              have e44 : a1.tmps.getD 44 undef = .int .i64 y := hA.val 8 44 (by kernel_rfl) (by kernel_rfl)
              have e55 : a1.tmps.getD 55 undef = .int .i64 z := hA.val 19 55 (by kernel_rfl) (by kernel_rfl)
              refine opStep none 0 rfl rfl (fun c hc => by cases hc) ?_
              go_simp
              exact hK _ _ (by first | rfl | exact congrArg (Value.int .i64) hw2 | (simp [hw2])) (Below.refl _ _) trivial
            · -- 21
              intro li a1 W2 hA K hK
              have e56 : a1.tmps.getD 56 undef = .int .i64 (y - z) := hA.val 20 56 (by kernel_rfl) (by kernel_rfl)
              have e56' := e56
              rw [Array.getD_eq_getD_getElem?] at e56'
              refine opStep none 0 rfl rfl (fun c hc => by cases hc) ?_
              go_simp
              exact hK _ _ ⟨_, rfl, Blk.new _ _ _⟩ ((Below.refl _ _).alloc (Nat.le_refl _) _) trivial
          · intro li a1 W2 hD
            have e36 : a1.tmps.getD 36 undef = u5 := hD.val 0 36 (by kernel_rfl) (by kernel_rfl)
            obtain ⟨gl, e57, hgl⟩ := hD.val 21 57 (by kernel_rfl) (by kernel_rfl)
            have hst := hD.st
            have ho2 := row_kept (vo := .slice none 0 0) HO.out (grown_of_below hst _) (.inl rfl)
            have hs2 := hst.size
            have hbw2 := HBJ.out.trans (hst.mono HBJ.out.size)
            have hs3 := hbw2.size
            obtain ⟨v', w7, hrun, hr7, hg7, _, hf7⟩ := run_append_own_at (P := Try.prog) W2 _ 56 56 3 i0 (.int .i64 0) 1 8 Try.underlying56 hi0 hz0 hz1 hz2 rfl (by decide) u5 j _ ho2 ⟨gl, 0, none⟩ 1 1 [.int .i64 (y - z)] rfl (by intro q u hq; cases q with | zero => simp at hq; subst hq; exact hgl.c1 | succ q => simp at hq) (by intro u hu; simp at hu; subst hu; rfl) (by simp only [maxLen]; omega) (by omega) (by omega)
            rw [map_take_succ (Value.int .i64) HXJ.out] at hr7
            have hb7 := below_row' hbw2 ho2 (Nat.le_refl _) hg7 (by omega)
            have HN := hid (And.intro hr7 hb7)
            have hkp2 := hD.keeps (ds := [36, 37, 38, 39, 40, 41, 42, 43, 44, 45, 46, 47, 48, 49, 50, 51, 52, 53, 54, 55, 56, 57, 58, 5]) (by kernel_rfl)
            have hds := hD.size
            have hsz : a1.tmps.size = 101 := hD.size
            have hdd := hD.defers
            clear hst ho2 hr7 hg7 hf7 hb7 hgl hbw2
            refine tail_val (i := 22) (v := v') (W' := w7) none 0 rfl rfl rfl (fun c hc => by cases hc) (by simp [execOp, resolve, invoke, builtin, Act.eval, e36, e57, hrun, Result.andThen]) (by rw [hsz]; decide) ?_
            intro a3 s3 d3 f3 o3
            have hkp3 := keeps_then hkp2 o3 (by decide)
            refine tail_val (i := 23) (v := v') (W' := w7) none 0 rfl rfl rfl (fun c hc => by cases hc) (by go_simp) (by rw [s3, hsz]; decide) ?_
            intro a4 s4 d4 f4 o4
            have hkp4 := keeps_then hkp3 o4 (by decide)
            have e := act_mix [36, 37, 38, 39, 40, 41, 42, 43, 44, 45, 46, 47, 48, 49, 50, 51, 52, 53, 54, 55, 56, 57, 58, 5] (s4.trans (s3.trans hds)) (d4.trans (d3.trans hdd)) (fun i _ hc => hkp4 i hc)
            have f5 : (fun i => a4.tmps.getD i undef) 5 = v' := f4
            generalize (fun i => a4.tmps.getD i undef) = g' at e f5
            refine wpListIn_nil ?_
            rw [e]
            clear e hD hkp2 hkp3 hkp4 s3 s4 d3 d4 f3 f4 o3 o4 e36 e57 hds hdd hsz HO
            simp only [mix, List.contains_cons, List.contains_nil, Nat.reduceAdd, Nat.reduceBEq, Bool.or_false, Bool.or_true, cond_true, cond_false, f5]
            go_wp2
            go_roundw
            case rel => exact ⟨j + 1, by omega, by go_num, HN.out⟩
            case measure => first | (simp [intOf]; done) | (simp [intOf]; omega)
        · have hjI : decide ((j : Int) < (ys.length : Int)) = false := decide_eq_false (by omega)
          obtain rfl : j = ys.length := by omega
          rw [List.take_of_length_le (by have := HXL2.out; omega)] at ho
          have HXL3 := HXL2.out
          rw [← HXL3] at ho
          obtain ⟨A5, c5, rfl, hgd⟩ := own_row ho
          have HI2 := hid (HI.out.at_ hbj)
          obtain ⟨vs, hov, hvs⟩ := HI2.out.rows
          have hba : Below wr.heap.size wr (wr.alloc (.cells #[.slice A5 xs.length c5] 56)) := (Below.refl _ _).alloc (Nat.le_refl _) _
          have HBA := hid hba
          have HVS := hid (show ∀ i x, i < k → X[i]? = some x → ∃ A c, vs[i]? = some (.slice A x.length c) ∧ Good (fun _ => False) (wr.alloc (.cells #[.slice A5 xs.length c5] 56)) ⟨0, 0, x⟩ A c from fun i x hi hx => by
            obtain ⟨A', c', q1, q2⟩ := hvs i x hi hx
            exact ⟨A', c', q1, q2.below hba⟩)
          have HGD := hid hgd
          have HO := hid (hov.alloc (.cells #[.slice A5 xs.length c5] 56))
          have HBX := hid (HI2.out.bx.alloc (.cells #[.slice A5 xs.length c5] 56))
          obtain ⟨s0, s1, s2⟩ := HI2.out.bx.c3
          have hbxl := HI2.out.bx.lt
          have hws := HI2.out.below.size
          obtain ⟨i0, hi0, hz0, hz1, hz2⟩ := info_parts rows_info
          clear ho hbj hbw p5 hgd hov hvs hba HXL3
          go_wp2_with (at_builtin; refine wpList_append_own_at _ rfl _ _ 22 rfl w.heap.size 56 i0 (.slice none 0 0) 1 24 Try.underlying22 hi0 hz0 hz1 hz2 rfl (by decide) v k vs rfl HO.out ⟨wr.heap.size, 0, none⟩ 1 1 [.slice A5 xs.length c5] rfl rfl (by intro q u hq; cases q with | zero => simp at hq; subst hq; exact (World.cell?_alloc_new _ _ _ _) | succ q => simp at hq) (by intro u hu; simp at hu; subst hu; rfl) (by simp only [maxLen]; omega) (by omega) (by simp; omega) ?_; intro v' w6 hown' hgrow _ _; obtain ⟨g6, cap6, rfl⟩ := Go.ownsRow_succ hown'; have hio6 := HBX.out.row HO.out (by decide) hgrow; obtain ⟨_, w1c, _⟩ := hio6.c3; have wf1 := hio6.frozen 1; have wl1 := hio6.lt)
          have HN := hid (HI2.out.next HXS.out HGD.out HBA.out HO.out HVS.out hgrow hown')
          clear hio6 hown' hgrow HO HBX HVS HBA HGD w1c wf1 wl1 s0 s1 s2
          go_wp2
          go_roundw
          case rel => exact ⟨k + 1, _, by omega, by go_num, HN.out⟩
          case measure => first | (simp [intOf]; done) | (simp [intOf]; omega)
    · have hkI : decide ((k : Int) < (cs.length : Int)) = false := decide_eq_false (by omega)
      obtain rfl : k = cs.length := by omega
      have hrw := HI.out.rows
      rw [← HXL.out] at hrw
      obtain ⟨AX, cX, e1, r1, r2, r3, r4, r5⟩ := hrw.out
      rw [HXL.out] at e1 r2
      subst e1
      have HTX := hid (show TIn AX cX X none 0 [] wr from ⟨r1, (fun k f hk => by simp at hk), by rw [HXL.out]; exact r2, r3, Nat.le_refl 0, Nat.zero_le maxLen, by
        have hcol : colsOf X ≤ 1000 := by
          cases hX : X with
          | nil => simp [colsOf]
          | cons x l => exact HXC.out x (by rw [hX]; simp)
        have : (1000 : Nat) ≤ maxLen := by simp only [maxLen]; omega
        omega⟩)
      have HBW := hid HI.out.below
      have HTW := hid HI.out.tb
      clear hrw r1 r4 r5
      have XB0 := hid (HI.out.bx)
      obtain ⟨s0, s1, s2⟩ := XB0.out.c3
      have Z0 := hid (Below.refl wr.heap.size wr)
      have K2 := hid (table_any b AX cX X none 0 [] wr (HTX.out.at_ Z0.out) (by rw [HXL.out]; omega) HXC.out (by simp))
      unfold GivesTable at K2
      rw [HXL.out, List.length_nil] at K2
      go_wp2_with fail
      refine K2.out.mono ?_
      rintro e w2 ⟨P1, p1, Q1, q1, rfl, hti, hb⟩
      have HB2 := hid (HBW.out.trans (hb.mono HBW.out.size))
      have HT2 := hid (HTW.out.keep hb)
      have Z2 := hid (Z0.out.trans (hb.mono Z0.out.size))
      have XB2 := hid (XB0.out.keep hb)
      have TI1 := hid hti
      clear hti
      clear hb K2 t0 t1 t2 s0 s1 s2
      obtain ⟨t0, t1, t2⟩ := HT2.out.c3
      obtain ⟨s0, s1, s2⟩ := XB2.out.c3
      have KB := hid (best_any b P1 p1 X Q1 q1 [] w2 TI1.out)
      simp only [HXK.out, HXW.out.1, ne_eq, not_true_eq_false, if_false, Int.one_ne_zero] at KB
      unfold GivesBest at KB
      rw [HXB.out, HXW.out.2, HXL.out, List.length_nil] at KB
      have K3 := hid (KB.out)
      go_wp2_with fail
      refine K3.out.mono ?_
      rintro e w3 ⟨A5, c5, rfl, g1, g2, g3, g4, g5, hb⟩
      have HB3 := hid (HB2.out.trans (hb.mono HB2.out.size))
      have HT3 := hid (HT2.out.keep hb)
      have Z3 := hid (Z2.out.trans (hb.mono Z2.out.size))
      have XB3 := hid (XB2.out.keep hb)
      have HGL := hid (And.intro g1 (And.intro g2 g3))
      clear g1 g2 g3 g4 g5 KB
      clear hb K3 t0 t1 t2 s0 s1 s2
      obtain ⟨t0, t1, t2⟩ := HT3.out.c3
      obtain ⟨s0, s1, s2⟩ := XB3.out.c3
      have B0 := hid (Below.refl w3.heap.size w3)
      have K4 := hid (table_any b AX cX X none 0 [] w3 (HTX.out.at_ Z3.out) (by rw [HXL.out]; omega) HXC.out (by simp))
      unfold GivesTable at K4
      rw [HXL.out, List.length_nil] at K4
      go_wp2_with fail
      refine K4.out.mono ?_
      rintro e w4 ⟨P2, p2, Q2, q2, rfl, hti, hb⟩
      have HB4 := hid (HB3.out.trans (hb.mono HB3.out.size))
      have HT4 := hid (HT3.out.keep hb)
      have Z4 := hid (Z3.out.trans (hb.mono Z3.out.size))
      have B4 := hid (B0.out.trans (hb.mono B0.out.size))
      have XB4 := hid (XB3.out.keep hb)
      have TI2 := hid hti
      clear hti
      clear hb K4 t0 t1 t2 s0 s1 s2
      obtain ⟨t0, t1, t2⟩ := HT4.out.c3
      obtain ⟨s0, s1, s2⟩ := XB4.out.c3
      have KW := ways_any b P2 p2 X Q2 q2 [] w4 TI2.out
      rw [if_pos HXK.out, HXW.out.1, HXL.out, List.length_nil] at KW
      have KW := hid KW
      have K5 := hid (KW.out)
      go_wp2_with fail
      refine K5.out.mono ?_
      rintro e w5 ⟨rfl, hb⟩
      have HB5 := hid (HB4.out.trans (hb.mono HB4.out.size))
      have HT5 := hid (HT4.out.keep hb)
      have Z5 := hid (Z4.out.trans (hb.mono Z4.out.size))
      have B5 := hid (B4.out.trans (hb.mono B4.out.size))
      have XB5 := hid (XB4.out.keep hb)
      clear hb K5 t0 t1 t2 KW s0 s1 s2
      obtain ⟨t0, t1, t2⟩ := HT5.out.c3
      obtain ⟨s0, s1, s2⟩ := XB5.out.c3
      have KS := same_any A5 c5 X AX cX X w5 (HGL.out.1.at_ B5.out) (HTX.out.ic.at_ Z5.out) (by rw [HXL.out]; omega) (by rw [HXL.out]; omega)
      rw [show sameB X X = true by simp [sameB], HXL.out] at KS
      have KS := hid KS
      have K6 := hid (KS.out)
      go_wp2_with fail
      refine K6.out.mono ?_
      rintro e w6 ⟨rfl, hb⟩
      have HB6 := hid (HB5.out.trans (hb.mono HB5.out.size))
      have HT6 := hid (HT5.out.keep hb)
      have Z6 := hid (Z5.out.trans (hb.mono Z5.out.size))
      have B6 := hid (B5.out.trans (hb.mono B5.out.size))
      have XB6 := hid (XB5.out.keep hb)
      clear hb K6 t0 t1 t2 KS s0 s1 s2
      obtain ⟨t0, t1, t2⟩ := HT6.out.c3
      obtain ⟨s0, s1, s2⟩ := XB6.out.c3
      have K7 := hid (awake_any w6)
      go_wp2_with fail
      refine K7.out.mono ?_
      rintro e w7 ⟨rfl, hb⟩
      have HB7 := hid (HB6.out.trans (hb.mono HB6.out.size))
      have HT7 := hid (HT6.out.keep hb)
      have Z7 := hid (Z6.out.trans (hb.mono Z6.out.size))
      have B7 := hid (B6.out.trans (hb.mono B6.out.size))
      have XB7 := hid (XB6.out.keep hb)
      clear hb K7 t0 t1 t2 s0 s1 s2
      obtain ⟨t0, t1, t2⟩ := HT7.out.c3
      obtain ⟨s0, s1, s2⟩ := XB7.out.c3
      clear t0 t1 t2 s0 s1 s2
      go_wp2
      go_ret
      exact ⟨rfl, HB7.out⟩
theorem exact_any (b : Int) (A : Option Addr) (c : Nat) (cs : List (List Int)) (A2 : Option Addr) (c2 : Nat) (fs : List Fx) (w : World) (h : TIn A c cs A2 c2 fs w) :
    Calls Try.prog 10 #[.agg #[.int .i64 b, .slice A cs.length c, .slice A2 fs.length c2]] w fun e w' => e = .returned (.bool true) ∧ Below w.heap.size w w' := by
  cases hr : readyB b cs fs
  · exact exact_not b A c cs A2 c2 fs w h hr
  · exact exact_ok b A c cs A2 c2 fs w h hr

open Go.ChangeShapes Go.WideShapes Go.ChangeAt in
set_option maxRecDepth 100000 in
theorem exact_lifted (os : Os) (started : os.Started) (H : Type) (enc : TypeId × Value → H) :
    ReturnsInHanded {} Try.checked os 10 .any (Rows.roundExactSpec.pre6 enc Try.prog Try.f10 Rows.roundExactRow.domain false) (Rows.roundExactSpec.post enc Try.prog Try.f10 false true false false) := by
  refine returnsInHanded_of_change (C := Try.checked) own started (by kernel_rfl) Try.func10
    (ChangeSpec.witness6 (enc := enc) (C := Try.checked) false ⟨#[], #[.agg #[.int .i64 0, .slice none 0 0, .slice none 0 0]], []⟩ 8 (by kernel_rfl) (by kernel_rfl) (by kernel_rfl) (by kernel_rfl)) ?_
  intro W base args ds gs before hval0 hW hcnd _
  have hval : ∀ (j : Nat) t v, Try.f10.params[j]? = some t → args[j]? = some v → Value.okWide Try.prog W .any base t v := hval0
  have hW' := hW
  obtain ⟨p, q, hA0, hV, rfl, hfz, hnd⟩ := hW
  have hA : DataW.TrodAll enc Try.prog W 0 (fun _ => true) true Try.f10.params.toList args.toList ds p := hA0
  rw [Try.params10] at hA hval
  obtain ⟨v0, vs0, d0, ds0, p0, q0, hargs, rfl, rfl, h0, r0⟩ := trodAll_cons hA
  obtain ⟨rfl, rfl, rfl⟩ := trodAll_nil r0
  obtain rfl : args = #[v0] := by cases args; simp_all
  obtain ⟨rfl, rfl⟩ := trodVars_none hV
  obtain ⟨b0, A, c, cs, A2, c2, fs, rfl, ht⟩ := open_table (hval 0 25 v0 rfl rfl) h0
  refine (exact_any b0 A c cs A2 c2 fs W ht).mono fun e W' ⟨he, hb⟩ => ⟨_, he, ?_⟩
  exact law_post laid_out rfl rfl (by kernel_rfl) hW' rfl hb

theorem exact_over : Rows.roundExactRow.holds Try.pinned (OpenSpec.ofChange Rows.roundExactSpec) :=
  OpenClaim.holds_of_wide 10 Try.f10 rfl rfl rfl rfl rfl rfl rfl ⟨rfl, rfl, rfl, rfl, rfl⟩ rfl rfl rfl rfl rfl (by kernel_rfl) Try.func10 (by kernel_rfl)
    (of_decide_eq_true (by kernel_rfl)) (by unfold Func.isWrapper; first | (rw [if_pos (by decide +kernel)]; kernel_rfl) | (rw [if_neg (by decide +kernel)]; exact ⟨rfl, rfl⟩))
    (fun os started H enc _ => exact_lifted os started H enc)
/-- the statement -/
theorem round_exact : Rows.RoundExactSaid := exact_over
#print axioms round_exact
end Go.Proofs.Ytgoianldiomdoaa
