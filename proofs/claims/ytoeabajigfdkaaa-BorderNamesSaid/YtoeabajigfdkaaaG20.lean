/- The walks and the plain laws of this part of the program, part 20: what each computes. Conditions stand at each theorem. -/
import Derived.Test.YtoeabajigfdkaaaG9
import Derived.Test.YtoeabajigfdkaaaG10
import Derived.Test.YtoeabajigfdkaaaG18
import Derived.Test.YtoeabajigfdkaaaG19
/- The reference of layer 11: whether a list is smaller than another one. No condition beyond those that stand at the theorem. -/
namespace Go.Proofs.Ytoeabajigfdkaaa
open Go.RowKit Go.Shelf

def befB (xs ys : List Int) : Bool :=
  match (List.range (min xs.length ys.length)).find? (fun i => fnO xs i != fnO ys i) with
  | some k => decide (fnO xs k < fnO ys k)
  | none => false
theorem bef_at {xs ys : List Int} {k : Nat} (hk : k < min xs.length ys.length) (h : ∀ i, i < k → fnO xs i = fnO ys i) (hn : fnO xs k ≠ fnO ys k) : befB xs ys = decide (fnO xs k < fnO ys k) := by
  unfold befB
  rw [List.find?_range_eq_some.2 ⟨by simpa using hn, List.mem_range.2 hk, fun j hj => by simp [h j hj]⟩]
theorem bef_no {xs ys : List Int} (h : ∀ i, i < min xs.length ys.length → fnO xs i = fnO ys i) : befB xs ys = false := by
  unfold befB
  rw [List.find?_eq_none.2 fun i hi => by simp [h i (List.mem_range.1 hi)]]
set_option maxRecDepth 100000 in
set_option maxHeartbeats 4000000 in
theorem qbefore_any (Ax : Option Addr) (cx : Nat) (xs : List Int) (Ay : Option Addr) (cy : Nat) (ys : List Int) (w : World) (hx : IsInts w w.heap.size Ax xs) (hy : IsInts w w.heap.size Ay ys) (hxl : xs.length ≤ 1000) (hyl : ys.length ≤ 1000) :
    Calls Try.prog 44 #[.slice Ax xs.length cx, .slice Ay ys.length cy] w fun e w' => e = .returned (.bool (befB xs ys)) ∧ Below w.heap.size w w' := by
  have HX := hid hx
  have HY := hid hy
  clear hx hy
  go_enter Try.func44, Try.ntmps44
  go_wp2
  go_loopw [5] (fun i W => ∃ k : Nat, k ≤ min xs.length ys.length ∧ i = .int .i64 k ∧ (∀ i, i < k → fnO xs i = fnO ys i) ∧ Below w.heap.size w W) (fun i _ => xs.length - (intOf i).toNat)
  case atStart => exact ⟨0, Nat.zero_le _, rfl, fun i hi => by omega, Below.refl _ _⟩
  case round =>
    obtain ⟨k, hk, rfl, hall, hbr⟩ := hrel
    have HR := hid (And.intro hall hbr)
    clear hall hbr
    by_cases hlx : k < xs.length
    · have hkI : (k : Int) < (xs.length : Int) := by omega
      by_cases hly : k < ys.length
      · have hkJ : (k : Int) < (ys.length : Int) := by omega
        have hkm : k < min xs.length ys.length := by omega
        obtain ⟨x, hx⟩ : ∃ x, xs[k]? = some x := ⟨_, List.getElem?_eq_getElem hlx⟩
        obtain ⟨y, hy⟩ : ∃ y, ys[k]? = some y := ⟨_, List.getElem?_eq_getElem hly⟩
        obtain ⟨ax, ex, g1, f1⟩ := (HX.out.at_ HR.out.2) k x hx
        obtain ⟨ay, ey, g2, f2⟩ := (HY.out.at_ HR.out.2) k y hy
        have HXD := hid (And.intro (fnO_get hx) (fnO_get hy))
        subst ex ey
        have HF := hid f1
        have HF2 := hid f2
        clear hx hy g1 g2 f1 f2
        by_cases hq : x = y
        · have hqB : (x != y) = false := by simp [hq]
          have HNX := hid (show ∀ i, i < k + 1 → fnO xs i = fnO ys i from fun i hi => by
            rcases Nat.lt_succ_iff_lt_or_eq.1 hi with h | h
            · exact HR.out.1 i h
            · subst h; rw [HXD.out.1, HXD.out.2]; exact hq)
          clear hq
          go_wp2
          refine (wpIn_wide (n := 0)).1 ?_
          refine wpIn_region_each 8 (fun i v W' => match i with | 0 => v = .slice (some ax) xs.length cx | 1 => v = .int .i64 (k : Int) | 2 => v = .pointer (some (ax.add k)) | 3 => v = .int .i64 x | 4 => v = .slice (some ay) ys.length cy | 5 => v = .int .i64 (k : Int) | 6 => v = .pointer (some (ay.add k)) | 7 => v = .int .i64 y | _ => True) (fun A B => Below A.heap.size A B) (fun _ _ => True) (by kernel_rfl) (by kernel_rfl) ?_ (fun h k => h.trans (k.mono h.size)) ⟨rfl, rfl, rfl, Nat.le_refl _, fun _ _ => rfl⟩ trivial (by kernel_rfl) ?_ ?_
          · intro i v W1 W2 hb h
            match i, h with
            | 0, h => exact h
            | 1, h => exact h
            | 2, h => exact h
            | 3, h => exact h
            | 4, h => exact h
            | 5, h => exact h
            | 6, h => exact h
            | 7, h => exact h
            | i + 8, h => trivial
          · refine ⟨?_, ?_, ?_, ?_, ?_, ?_, ?_, ?_, trivial⟩
            · -- 0
              intro li a1 W2 hA K hK
              have e0 := hA.par 0 (by kernel_rfl)
              refine opStep none 0 rfl rfl (fun c hc => by cases hc) ?_
              go_simp
              exact hK _ _ rfl (Below.refl _ _) trivial
            · -- 1
              intro li a1 W2 hA K hK
              have e5 := hA.par 5 (by kernel_rfl)
              refine opStep none 0 rfl rfl (fun c hc => by cases hc) ?_
              go_simp
              exact hK _ _ rfl (Below.refl _ _) trivial
            · -- 2
              intro li a1 W2 hA K hK
              have e18 : a1.tmps.getD 18 undef = .slice (some ax) xs.length cx := hA.val 0 18 (by kernel_rfl) (by kernel_rfl)
              have e19 : a1.tmps.getD 19 undef = .int .i64 (k : Int) := hA.val 1 19 (by kernel_rfl) (by kernel_rfl)
              refine opStep none 0 rfl rfl (fun c hc => by cases hc) ?_
              go_simp
              exact hK _ _ (by first | rfl | exact congrArg (fun q => Value.pointer (some q)) (add_blk _ _)) (Below.refl _ _) trivial
            · -- 3
              intro li a1 W2 hA K hK
              have e20 : a1.tmps.getD 20 undef = .pointer (some (ax.add k)) := hA.val 2 20 (by kernel_rfl) (by kernel_rfl)
              have q1 := (hA.st.cell (World.block_lt_of_cell? _ _ HF.out)).trans HF.out
              refine opStep none 0 rfl rfl (fun c hc => by cases hc) ?_
              go_simp
              exact hK _ _ rfl (Below.refl _ _) trivial
            · -- 4
              intro li a1 W2 hA K hK
              have e1 := hA.par 1 (by kernel_rfl)
              refine opStep none 0 rfl rfl (fun c hc => by cases hc) ?_
              go_simp
              exact hK _ _ rfl (Below.refl _ _) trivial
            · -- 5
              intro li a1 W2 hA K hK
              have e5 := hA.par 5 (by kernel_rfl)
              refine opStep none 0 rfl rfl (fun c hc => by cases hc) ?_
              go_simp
              exact hK _ _ rfl (Below.refl _ _) trivial
            · -- 6
              intro li a1 W2 hA K hK
              have e22 : a1.tmps.getD 22 undef = .slice (some ay) ys.length cy := hA.val 4 22 (by kernel_rfl) (by kernel_rfl)
              have e23 : a1.tmps.getD 23 undef = .int .i64 (k : Int) := hA.val 5 23 (by kernel_rfl) (by kernel_rfl)
              refine opStep none 0 rfl rfl (fun c hc => by cases hc) ?_
              go_simp
              exact hK _ _ (by first | rfl | exact congrArg (fun q => Value.pointer (some q)) (add_blk _ _)) (Below.refl _ _) trivial
            · -- 7
              intro li a1 W2 hA K hK
              have e24 : a1.tmps.getD 24 undef = .pointer (some (ay.add k)) := hA.val 6 24 (by kernel_rfl) (by kernel_rfl)
              have q1 := (hA.st.cell (World.block_lt_of_cell? _ _ HF2.out)).trans HF2.out
              refine opStep none 0 rfl rfl (fun c hc => by cases hc) ?_
              go_simp
              exact hK _ _ rfl (Below.refl _ _) trivial
          · intro li a1 W2 hD
            have e21 : a1.tmps.getD 21 undef = .int .i64 x := hD.val 3 21 (by kernel_rfl) (by kernel_rfl)
            have e25 : a1.tmps.getD 25 undef = .int .i64 y := hD.val 7 25 (by kernel_rfl) (by kernel_rfl)
            have hkp2 := hD.keeps (ds := [18, 19, 20, 21, 22, 23, 24, 25, 26]) (by kernel_rfl)
            have hds := hD.size
            have hsz9 : a1.tmps.size = 36 := hD.size
            have hdd := hD.defers
            have hst := hD.st
            refine tail_val (i := 8) (v := .bool false) (W' := W2) none 0 rfl rfl rfl (fun c hc => by cases hc) (by go_simp) (by rw [hsz9]; decide) ?_
            intro a3 s3 d3 f3 o3
            have hkp3 := keeps_then hkp2 o3 (by decide)
            have e := act_mix [18, 19, 20, 21, 22, 23, 24, 25, 26] (s3.trans hds) (d3.trans hdd) (fun i _ hc => hkp3 i hc)
            have hg9 : (fun i => a3.tmps.getD i undef) 26 = .bool false := f3
            generalize (fun i => a3.tmps.getD i undef) = g' at e hg9
            refine wpListIn_nil ?_
            rw [e]
            clear e hD hkp2 hkp3 s3 d3 f3 o3 hds hdd hsz9 e21 e25
            simp only [mix, List.contains_cons, List.contains_nil, Nat.reduceAdd, Nat.reduceBEq, Bool.or_false, Bool.or_true, cond_true, cond_false, hg9]
            clear hg9
            have HN2 := hid (HR.out.2.trans (hst.mono HR.out.2.size))
            clear hst HF HF2 HR
            go_wp2
            go_roundw
            case rel => exact ⟨k + 1, by omega, by go_num, HNX.out, HN2.out⟩
            case measure => first | (simp [intOf]; done) | (simp [intOf]; omega)
        · have hqB : (x != y) = true := by simpa using hq
          have HRES := hid (show befB xs ys = decide (x < y) by
            have := bef_at hkm HR.out.1 (by rw [HXD.out.1, HXD.out.2]; exact hq)
            rwa [HXD.out.1, HXD.out.2] at this)
          clear hq
          go_wp2
          refine (wpIn_wide (n := 0)).1 ?_
          refine wpIn_region_each 8 (fun i v W' => match i with | 0 => v = .slice (some ax) xs.length cx | 1 => v = .int .i64 (k : Int) | 2 => v = .pointer (some (ax.add k)) | 3 => v = .int .i64 x | 4 => v = .slice (some ay) ys.length cy | 5 => v = .int .i64 (k : Int) | 6 => v = .pointer (some (ay.add k)) | 7 => v = .int .i64 y | _ => True) (fun A B => Below A.heap.size A B) (fun _ _ => True) (by kernel_rfl) (by kernel_rfl) ?_ (fun h k => h.trans (k.mono h.size)) ⟨rfl, rfl, rfl, Nat.le_refl _, fun _ _ => rfl⟩ trivial (by kernel_rfl) ?_ ?_
          · intro i v W1 W2 hb h
            match i, h with
            | 0, h => exact h
            | 1, h => exact h
            | 2, h => exact h
            | 3, h => exact h
            | 4, h => exact h
            | 5, h => exact h
            | 6, h => exact h
            | 7, h => exact h
            | i + 8, h => trivial
          · refine ⟨?_, ?_, ?_, ?_, ?_, ?_, ?_, ?_, trivial⟩
            · -- 0
              intro li a1 W2 hA K hK
              have e0 := hA.par 0 (by kernel_rfl)
              refine opStep none 0 rfl rfl (fun c hc => by cases hc) ?_
              go_simp
              exact hK _ _ rfl (Below.refl _ _) trivial
            · -- 1
              intro li a1 W2 hA K hK
              have e5 := hA.par 5 (by kernel_rfl)
              refine opStep none 0 rfl rfl (fun c hc => by cases hc) ?_
              go_simp
              exact hK _ _ rfl (Below.refl _ _) trivial
            · -- 2
              intro li a1 W2 hA K hK
              have e18 : a1.tmps.getD 18 undef = .slice (some ax) xs.length cx := hA.val 0 18 (by kernel_rfl) (by kernel_rfl)
              have e19 : a1.tmps.getD 19 undef = .int .i64 (k : Int) := hA.val 1 19 (by kernel_rfl) (by kernel_rfl)
              refine opStep none 0 rfl rfl (fun c hc => by cases hc) ?_
              go_simp
              exact hK _ _ (by first | rfl | exact congrArg (fun q => Value.pointer (some q)) (add_blk _ _)) (Below.refl _ _) trivial
            · -- 3
              intro li a1 W2 hA K hK
              have e20 : a1.tmps.getD 20 undef = .pointer (some (ax.add k)) := hA.val 2 20 (by kernel_rfl) (by kernel_rfl)
              have q1 := (hA.st.cell (World.block_lt_of_cell? _ _ HF.out)).trans HF.out
              refine opStep none 0 rfl rfl (fun c hc => by cases hc) ?_
              go_simp
              exact hK _ _ rfl (Below.refl _ _) trivial
            · -- 4
              intro li a1 W2 hA K hK
              have e1 := hA.par 1 (by kernel_rfl)
              refine opStep none 0 rfl rfl (fun c hc => by cases hc) ?_
              go_simp
              exact hK _ _ rfl (Below.refl _ _) trivial
            · -- 5
              intro li a1 W2 hA K hK
              have e5 := hA.par 5 (by kernel_rfl)
              refine opStep none 0 rfl rfl (fun c hc => by cases hc) ?_
              go_simp
              exact hK _ _ rfl (Below.refl _ _) trivial
            · -- 6
              intro li a1 W2 hA K hK
              have e22 : a1.tmps.getD 22 undef = .slice (some ay) ys.length cy := hA.val 4 22 (by kernel_rfl) (by kernel_rfl)
              have e23 : a1.tmps.getD 23 undef = .int .i64 (k : Int) := hA.val 5 23 (by kernel_rfl) (by kernel_rfl)
              refine opStep none 0 rfl rfl (fun c hc => by cases hc) ?_
              go_simp
              exact hK _ _ (by first | rfl | exact congrArg (fun q => Value.pointer (some q)) (add_blk _ _)) (Below.refl _ _) trivial
            · -- 7
              intro li a1 W2 hA K hK
              have e24 : a1.tmps.getD 24 undef = .pointer (some (ay.add k)) := hA.val 6 24 (by kernel_rfl) (by kernel_rfl)
              have q1 := (hA.st.cell (World.block_lt_of_cell? _ _ HF2.out)).trans HF2.out
              refine opStep none 0 rfl rfl (fun c hc => by cases hc) ?_
              go_simp
              exact hK _ _ rfl (Below.refl _ _) trivial
          · intro li a1 W2 hD
            have e21 : a1.tmps.getD 21 undef = .int .i64 x := hD.val 3 21 (by kernel_rfl) (by kernel_rfl)
            have e25 : a1.tmps.getD 25 undef = .int .i64 y := hD.val 7 25 (by kernel_rfl) (by kernel_rfl)
            have hkp2 := hD.keeps (ds := [18, 19, 20, 21, 22, 23, 24, 25, 26]) (by kernel_rfl)
            have hds := hD.size
            have hsz9 : a1.tmps.size = 36 := hD.size
            have hdd := hD.defers
            have hst := hD.st
            refine tail_val (i := 8) (v := .bool true) (W' := W2) none 0 rfl rfl rfl (fun c hc => by cases hc) (by go_simp) (by rw [hsz9]; decide) ?_
            intro a3 s3 d3 f3 o3
            have hkp3 := keeps_then hkp2 o3 (by decide)
            have e := act_mix [18, 19, 20, 21, 22, 23, 24, 25, 26] (s3.trans hds) (d3.trans hdd) (fun i _ hc => hkp3 i hc)
            have hg9 : (fun i => a3.tmps.getD i undef) 26 = .bool true := f3
            generalize (fun i => a3.tmps.getD i undef) = g' at e hg9
            refine wpListIn_nil ?_
            rw [e]
            clear e hD hkp2 hkp3 s3 d3 f3 o3 hds hdd hsz9 e21 e25
            simp only [mix, List.contains_cons, List.contains_nil, Nat.reduceAdd, Nat.reduceBEq, Bool.or_false, Bool.or_true, cond_true, cond_false, hg9]
            clear hg9
            have HF := hid ((hst.cell (World.block_lt_of_cell? _ _ HF.out)).trans HF.out)
            have HF2 := hid ((hst.cell (World.block_lt_of_cell? _ _ HF2.out)).trans HF2.out)
            have HR := hid (And.intro HR.out.1 (HR.out.2.trans (hst.mono HR.out.2.size)))
            clear hst
            generalize W2 = w5 at *
            go_wp2
            refine (wpIn_wide (n := 0)).1 ?_
            refine wpIn_region_each 8 (fun i v W' => match i with | 0 => v = .slice (some ax) xs.length cx | 1 => v = .int .i64 (k : Int) | 2 => v = .pointer (some (ax.add k)) | 3 => v = .int .i64 x | 4 => v = .slice (some ay) ys.length cy | 5 => v = .int .i64 (k : Int) | 6 => v = .pointer (some (ay.add k)) | 7 => v = .int .i64 y | _ => True) (fun A B => Below A.heap.size A B) (fun _ _ => True) (by kernel_rfl) (by kernel_rfl) ?_ (fun h k => h.trans (k.mono h.size)) ⟨rfl, rfl, rfl, Nat.le_refl _, fun _ _ => rfl⟩ trivial (by kernel_rfl) ?_ ?_
            · intro i v W1 W2 hb h
              match i, h with
              | 0, h => exact h
              | 1, h => exact h
              | 2, h => exact h
              | 3, h => exact h
              | 4, h => exact h
              | 5, h => exact h
              | 6, h => exact h
              | 7, h => exact h
              | i + 8, h => trivial
            · refine ⟨?_, ?_, ?_, ?_, ?_, ?_, ?_, ?_, trivial⟩
              · -- 0
                intro li a1 W2 hA K hK
                have e0 := hA.par 0 (by kernel_rfl)
                refine opStep none 0 rfl rfl (fun c hc => by cases hc) ?_
                go_simp
                exact hK _ _ rfl (Below.refl _ _) trivial
              · -- 1
                intro li a1 W2 hA K hK
                have e5 := hA.par 5 (by kernel_rfl)
                refine opStep none 0 rfl rfl (fun c hc => by cases hc) ?_
                go_simp
                exact hK _ _ rfl (Below.refl _ _) trivial
              · -- 2
                intro li a1 W2 hA K hK
                have e27 : a1.tmps.getD 27 undef = .slice (some ax) xs.length cx := hA.val 0 27 (by kernel_rfl) (by kernel_rfl)
                have e28 : a1.tmps.getD 28 undef = .int .i64 (k : Int) := hA.val 1 28 (by kernel_rfl) (by kernel_rfl)
                refine opStep none 0 rfl rfl (fun c hc => by cases hc) ?_
                go_simp
                exact hK _ _ (by first | rfl | exact congrArg (fun q => Value.pointer (some q)) (add_blk _ _)) (Below.refl _ _) trivial
              · -- 3
                intro li a1 W2 hA K hK
                have e29 : a1.tmps.getD 29 undef = .pointer (some (ax.add k)) := hA.val 2 29 (by kernel_rfl) (by kernel_rfl)
                have q1 := (hA.st.cell (World.block_lt_of_cell? _ _ HF.out)).trans HF.out
                refine opStep none 0 rfl rfl (fun c hc => by cases hc) ?_
                go_simp
                exact hK _ _ rfl (Below.refl _ _) trivial
              · -- 4
                intro li a1 W2 hA K hK
                have e1 := hA.par 1 (by kernel_rfl)
                refine opStep none 0 rfl rfl (fun c hc => by cases hc) ?_
                go_simp
                exact hK _ _ rfl (Below.refl _ _) trivial
              · -- 5
                intro li a1 W2 hA K hK
                have e5 := hA.par 5 (by kernel_rfl)
                refine opStep none 0 rfl rfl (fun c hc => by cases hc) ?_
                go_simp
                exact hK _ _ rfl (Below.refl _ _) trivial
              · -- 6
                intro li a1 W2 hA K hK
                have e31 : a1.tmps.getD 31 undef = .slice (some ay) ys.length cy := hA.val 4 31 (by kernel_rfl) (by kernel_rfl)
                have e32 : a1.tmps.getD 32 undef = .int .i64 (k : Int) := hA.val 5 32 (by kernel_rfl) (by kernel_rfl)
                refine opStep none 0 rfl rfl (fun c hc => by cases hc) ?_
                go_simp
                exact hK _ _ (by first | rfl | exact congrArg (fun q => Value.pointer (some q)) (add_blk _ _)) (Below.refl _ _) trivial
              · -- 7
                intro li a1 W2 hA K hK
                have e33 : a1.tmps.getD 33 undef = .pointer (some (ay.add k)) := hA.val 6 33 (by kernel_rfl) (by kernel_rfl)
                have q1 := (hA.st.cell (World.block_lt_of_cell? _ _ HF2.out)).trans HF2.out
                refine opStep none 0 rfl rfl (fun c hc => by cases hc) ?_
                go_simp
                exact hK _ _ rfl (Below.refl _ _) trivial
            · intro li a1 W2 hD
              have e30 : a1.tmps.getD 30 undef = .int .i64 x := hD.val 3 30 (by kernel_rfl) (by kernel_rfl)
              have e34 : a1.tmps.getD 34 undef = .int .i64 y := hD.val 7 34 (by kernel_rfl) (by kernel_rfl)
              have hst := hD.st
              have hds := hD.size
              have hsz9 : a1.tmps.size = 36 := hD.size
              have hdd := hD.defers
              have hkp2 := hD.keeps (ds := [27, 28, 29, 30, 31, 32, 33, 34, 35, 4]) (by kernel_rfl)
              refine tail_val (i := 8) (v := .bool (decide (x < y))) (W' := W2) none 0 rfl rfl rfl (fun c hc => by cases hc) (by go_simp) (by rw [hsz9]; decide) ?_
              intro a3 s3 d3 f3 o3
              have hkp3 := keeps_then hkp2 o3 (by decide)
              refine tail_val (i := 9) (v := .bool (decide (x < y))) (W' := W2) none 0 rfl rfl rfl (fun c hc => by cases hc) (by go_simp) (by rw [s3, hsz9]; decide) ?_
              intro a4 s4 d4 f4 o4
              have hkp4 := keeps_then hkp3 o4 (by decide)
              have e := act_mix [27, 28, 29, 30, 31, 32, 33, 34, 35, 4] (s4.trans (s3.trans hds)) (d4.trans (d3.trans hdd)) (fun i _ hc => hkp4 i hc)
              have hg9 : (fun i => a4.tmps.getD i undef) 4 = .bool (decide (x < y)) := f4
              generalize (fun i => a4.tmps.getD i undef) = g' at e hg9
              refine wpListIn_nil ?_
              rw [e]
              have HB := hid (HR.out.2.trans (hst.mono HR.out.2.size))
              clear e hD hkp2 hkp3 hkp4 s3 d3 f3 o3 s4 d4 f4 o4 hds hdd hsz9 e30 e34 hst HF HF2 HR
              simp only [mix, List.contains_cons, List.contains_nil, Nat.reduceAdd, Nat.reduceBEq, Bool.or_false, Bool.or_true, cond_true, cond_false, hg9]
              clear hg9
              go_wp2
              go_ret
              exact ⟨by rw [HRES.out]; rfl, HB.out⟩
      · have hkJ : decide ((k : Int) < (ys.length : Int)) = false := by simp; omega
        have HRES := hid (show befB xs ys = false from bef_no fun i hi => HR.out.1 i (by omega))
        go_wp2
        go_ret
        exact ⟨by rw [HRES.out]; rfl, HR.out.2⟩
    · have hkI : decide ((k : Int) < (xs.length : Int)) = false := by simp; omega
      have HRES := hid (show befB xs ys = false from bef_no fun i hi => HR.out.1 i (by omega))
      go_wp2
      go_ret
      exact ⟨by rw [HRES.out]; rfl, HR.out.2⟩
end Go.Proofs.Ytoeabajigfdkaaa
/- Best borders and right borders, in plain words. Conditions stand at each theorem. -/
namespace Go.Proofs.Ytoeabajigfdkaaa

def isB (m : MapD) (xs : List Int) (lo hi mv : Int) : Bool := areB m xs && (decide (movN m (fnO xs) m.ss.length ≤ mv) && rightB m (fnO xs) lo hi)
theorem areB_iff {m : MapD} {xs : List Int} : areB m xs = true ↔ xs.length = m.ss.length ∧ ∀ x ∈ xs, 0 ≤ x ∧ x ≤ m.nw - 1 := by
  unfold areB
  simp only [Bool.and_eq_true, decide_eq_true_eq, List.all_eq_true, inB_iff]
theorem areB_fn {m : MapD} {xs : List Int} (h : areB m xs = true) {i : Nat} (hi : i < m.ss.length) : 0 ≤ fnO xs i ∧ fnO xs i < m.nw := by
  obtain ⟨h1, h2⟩ := areB_iff.1 h
  have hx : xs[i]? = some xs[i] := List.getElem?_eq_getElem (by omega)
  rw [fnO_get hx]
  have := h2 xs[i] (List.getElem_mem _)
  omega
theorem are_right {m : MapD} {xs : List Int} {lo hi : Int} (h1 : areB m xs = true) (h2 : rightB m (fnO xs) lo hi = true) : RightAll m lo hi (fnO xs) := ⟨fun _ hi => areB_fn h1 hi, h2⟩
theorem areB_lst {m : MapD} {l : Nat → Int} (h : ∀ i, i < m.ss.length → 0 ≤ l i ∧ l i < m.nw) : areB m (lst m l) = true := by
  refine areB_iff.2 ⟨lst_len _ _, fun x hx => ?_⟩
  obtain ⟨i, hi, rfl⟩ := List.mem_map.1 hx
  have := h i (List.mem_range.1 hi)
  omega
theorem lex_bef {xs ys : List Int} {n : Nat} (hx : xs.length = n) (hy : ys.length = n) : ∀ f s, s + f = n → (∀ i, i < s → fnO xs i = fnO ys i) → lexle (fnO ys) (fnO xs) f s → befB xs ys = false
  | 0, s, hs, h, _ => bef_no fun i hi => h i (by omega)
  | f + 1, s, hs, h, hl => by
    rcases hl with hlt | ⟨heq, hr⟩
    · rw [bef_at (k := s) (by omega) h (by omega)]
      exact decide_eq_false (by omega)
    · exact lex_bef hx hy f (s + 1) (by omega) (fun i hi => by
        by_cases e : i = s
        · subst e; exact heq.symm
        · exact h i (by omega)) hr
theorem right_none {m : MapD} {lo hi : Int} (h : bestB m lo hi = none) (xs : List Int) (mv : Int) : isB m xs lo hi mv = false := by
  cases hb : isB m xs lo hi mv with
  | false => rfl
  | true =>
    unfold isB at hb
    simp only [Bool.and_eq_true] at hb
    exact absurd (are_right hb.1 hb.2.2) (best_none_iff h _)
theorem fn_lst_right {m : MapD} {lo hi : Int} {l : Nat → Int} : rightB m (fnO (lst m l)) lo hi = rightB m l lo hi := rightB_congr fun _ hi => fnO_lst hi
theorem fn_lst_mov {m : MapD} {l : Nat → Int} : movN m (fnO (lst m l)) m.ss.length = movN m l m.ss.length := movN_congr fun _ hi => fnO_lst hi
theorem mov_own (m : MapD) (k : Nat) : movN m (ownL m) k = 0 := sumN_null fun _ _ => if_pos rfl
theorem right_best {m : MapD} {lo hi : Int} {j : Nat} {l : Nat → Int} (h : bestB m lo hi = some (j, l)) : isB m (lst m l) lo hi j = true ∧ isB m (lst m l) lo hi ((j : Int) - 1) = false ∧ areB m (lst m l) = true ∧ movN m (fnO (lst m l)) m.ss.length = j := by
  obtain ⟨h1, h2, h3⟩ := best_some_iff h
  have ha := areB_lst h1.1
  refine ⟨?_, ?_, ha, by rw [fn_lst_mov]; exact h2⟩
  · unfold isB
    rw [ha, fn_lst_mov, fn_lst_right, h2, h1.2, decide_eq_true (Int.le_refl _)]; rfl
  · unfold isB
    rw [ha, fn_lst_mov, fn_lst_right, h2, h1.2, decide_eq_false (by omega)]; rfl
theorem right_own {m : MapD} (ok : OkM m) {lo hi : Int} {j : Nat} {l : Nat → Int} (h : bestB m lo hi = some (j, l)) : isB m (lst m (ownL m)) lo hi 0 = decide (j = 0) := by
  obtain ⟨h1, h2, h3⟩ := best_some_iff h
  have hin : ∀ i, i < m.ss.length → 0 ≤ ownL m i ∧ ownL m i < m.nw := fun i hi => by have := ok.sAt hi; unfold ownL; omega
  unfold isB
  rw [areB_lst hin, fn_lst_mov, fn_lst_right, mov_own, decide_eq_true (Int.le_refl _)]
  by_cases e : j = 0
  · subst e
    rw [decide_eq_true rfl]
    have hag : ∀ i, i < m.ss.length → ownL m i = l i := fun i hi => by
      by_cases e : l i = (m.S i).n
      · exact e.symm
      · exfalso
        have h5 := sumN_mono (f := fun i => if l i = (m.S i).n then (0 : Int) else 1) (show i + 1 ≤ m.ss.length by omega) (fun i _ => by split <;> omega)
        have h6 : sumN (fun i => if l i = (m.S i).n then (0 : Int) else 1) (i + 1) = movN m l i + 1 := by
          rw [sumN_succ, if_neg e]; rfl
        have h7 := movN_bounds m l i
        have h8 : movN m l m.ss.length = sumN (fun i => if l i = (m.S i).n then (0 : Int) else 1) m.ss.length := rfl
        omega
    rw [rightB_congr hag, h1.2]; rfl
  · rw [decide_eq_false e]
    cases hr : rightB m (ownL m) lo hi with
    | false => rfl
    | true =>
      exfalso
      rcases h3 _ ⟨hin, hr⟩ with h4 | h4
      · rw [mov_own] at h4; omega
      · rw [mov_own] at h4; omega
theorem right_con {m : MapD} {lo hi : Int} {l : Nat → Int} (h : rightB m l lo hi = true) {d : Nat} (hd : (d : Int) < m.nw) : conB m l (d : Int) = true := by
  unfold rightB rightTo at h
  rw [List.all_eq_true] at h
  have := h d (List.mem_range.2 (by omega))
  simp only [Bool.and_eq_true] at this
  exact this.2.2
theorem right_conn {m : MapD} {lo hi : Int} {j : Nat} {l : Nat → Int} (h : bestB m lo hi = some (j, l)) {d : Nat} (hd : (d : Int) < m.nw) : conB m (fnO (lst m l)) (d : Int) = true := by
  rw [conB_congr (l' := l) fun i hi => fnO_lst hi]
  exact right_con (best_some_iff h).1.2 hd
theorem right_is {m : MapD} {lo hi mv : Int} {j : Nat} {l : Nat → Int} (h : bestB m lo hi = some (j, l)) {xs : List Int} (hx : isB m xs lo hi mv = true) : xs.length = m.ss.length ∧ ((j : Int) < movN m (fnO xs) xs.length ∨ (movN m (fnO xs) xs.length = j ∧ befB xs (lst m l) = false)) := by
  unfold isB at hx
  simp only [Bool.and_eq_true] at hx
  obtain ⟨a1, _, a3⟩ := hx
  have hl := (areB_iff.1 a1).1
  refine ⟨hl, ?_⟩
  rw [hl]
  rcases (best_some_iff h).2.2 _ (are_right a1 a3) with h4 | ⟨h4, h5⟩
  · exact .inl h4
  · refine .inr ⟨h4.symm, lex_bef (n := m.ss.length) hl (lst_len _ _) m.ss.length 0 (by omega) (fun i hi => by omega) ?_⟩
    exact lexle_congr (l := l) (l' := fnO xs) m.ss.length 0 (fun i _ hi => (fnO_lst (by omega)).symm) (fun _ _ _ => rfl) h5
end Go.Proofs.Ytoeabajigfdkaaa
/- Words for the statements about best borders: the reference's Best, whether borders are right, limits as an argument. Conditions stand at each theorem. -/
namespace Go.Proofs.Ytoeabajigfdkaaa
open Go.RowKit Go.Shelf Go.ChangeShapes Go.WideShapes Go.ChangeAt Go.Deep Go.Joins

section
variable {m : MapD} {A : Option Addr} {c : Nat} {A2 : Option Addr} {c2 : Nat} {A3 : Option Addr} {c3 : Nat} {w : World} {lo hi : Int}
theorem qbest_no (h : MIn m A c A2 c2 A3 c3 w) (ok : OkM m) (hb : bestB m lo hi = none) : Calls Try.prog 43 #[.agg #[.slice A m.old.length c, .int .i64 m.nw, .slice A2 m.ss.length c2, .slice A3 m.js.length c3], .agg #[.int .i64 lo, .int .i64 hi]] w fun e w' => ∃ y : Option Addr × Nat, e = .returned (.tuple #[.slice y.1 0 y.2, .bool false]) ∧ Below w.heap.size w w' :=
  (qbest_any m A c A2 c2 A3 c3 lo hi w h ok).mono fun e w' ⟨y, h1, _, h3⟩ => ⟨y, by rw [h1, best_ref_none ok hb]; rfl, h3⟩
theorem qbest_yes (h : MIn m A c A2 c2 A3 c3 w) (ok : OkM m) {j : Nat} {l : Nat → Int} (hb : bestB m lo hi = some (j, l)) : Calls Try.prog 43 #[.agg #[.slice A m.old.length c, .int .i64 m.nw, .slice A2 m.ss.length c2, .slice A3 m.js.length c3], .agg #[.int .i64 lo, .int .i64 hi]] w fun e w' => ∃ y : Option Addr × Nat, e = .returned (.tuple #[.slice y.1 (lst m l).length y.2, .bool true]) ∧ IntsAt y (lst m l) w' ∧ Below w.heap.size w w' := by
  obtain ⟨q, h1, h2⟩ := best_ref_some ok hb
  have hs1 := ok.s1
  refine (qbest_any m A c A2 c2 A3 c3 lo hi w h ok).mono fun e w' ⟨y, h3, h4, h5⟩ => ?_
  have e9 : bqL m (bqT m lo hi (m.nw.toNat ^ m.ss.length)) = lst m l := by rw [h1]; exact h2
  rw [e9] at h3 h4
  refine ⟨y, ?_, h4, h5⟩
  rw [h3, decide_eq_true (show 0 < (lst m l).length by rw [lst_len]; omega)]
theorem pb_bad {Ax : Option Addr × Nat} {xs : List Int} {mv : Int} (h : MIn m A c A2 c2 A3 c3 w) (hx : IntsAt Ax xs w) (he : askE m lo hi ≠ 0) : Calls Try.prog 37 #[.agg #[.slice A m.old.length c, .int .i64 m.nw, .slice A2 m.ss.length c2, .slice A3 m.js.length c3], .slice Ax.1 xs.length Ax.2, .agg #[.int .i64 lo, .int .i64 hi], .int .i64 mv] w fun e w' => e = .returned (.bool false) ∧ Below w.heap.size w w' :=
  pborders_bad m A c A2 c2 A3 c3 Ax.1 Ax.2 xs lo hi mv w h hx.1 hx.2.1 hx.2.2 he
theorem pb_is {Ax : Option Addr × Nat} {xs : List Int} {mv : Int} (h : MIn m A c A2 c2 A3 c3 w) (hx : IntsAt Ax xs w) (he : askE m lo hi = 0) : Calls Try.prog 37 #[.agg #[.slice A m.old.length c, .int .i64 m.nw, .slice A2 m.ss.length c2, .slice A3 m.js.length c3], .slice Ax.1 xs.length Ax.2, .agg #[.int .i64 lo, .int .i64 hi], .int .i64 mv] w fun e w' => e = .returned (.bool (isB m xs lo hi mv)) ∧ Below w.heap.size w w' :=
  pborders_ok m A c A2 c2 A3 c3 Ax.1 Ax.2 xs lo hi mv w h hx.1 hx.2.1 hx.2.2 he
theorem qare {y : Option Addr × Nat} {xs : List Int} (h : MIn m A c A2 c2 A3 c3 w) (ok : OkM m) (hx : IntsAt y xs w) (hl : xs.length ≤ 1000) : Calls Try.prog 40 #[.agg #[.slice A m.old.length c, .int .i64 m.nw, .slice A2 m.ss.length c2, .slice A3 m.js.length c3], .slice y.1 xs.length y.2] w fun e w' => e = .returned (.bool (areB m xs)) ∧ Below w.heap.size w w' :=
  qareb_any m A c A2 c2 A3 c3 y.1 y.2 xs w h hx.1 hl ok.n1 ok.n4
theorem qrgt {y : Option Addr × Nat} {xs : List Int} (h : MIn m A c A2 c2 A3 c3 w) (ok : OkM m) (hx : IntsAt y xs w) (hl : xs.length = m.ss.length) : Calls Try.prog 41 #[.agg #[.slice A m.old.length c, .int .i64 m.nw, .slice A2 m.ss.length c2, .slice A3 m.js.length c3], .slice y.1 xs.length y.2, .agg #[.int .i64 lo, .int .i64 hi]] w fun e w' => e = .returned (.bool (rightB m (fnO xs) lo hi)) ∧ Below w.heap.size w w' :=
  qright_any m A c A2 c2 A3 c3 y.1 y.2 xs lo hi w h ok hx.1 hl hx.2.1 hx.2.2
theorem qmov {y : Option Addr × Nat} {xs : List Int} (h : MIn m A c A2 c2 A3 c3 w) (ok : OkM m) (hx : IntsAt y xs w) (hl : xs.length = m.ss.length) : Calls Try.prog 42 #[.agg #[.slice A m.old.length c, .int .i64 m.nw, .slice A2 m.ss.length c2, .slice A3 m.js.length c3], .slice y.1 xs.length y.2] w fun e w' => e = .returned (.int .i64 (movN m (fnO xs) xs.length)) ∧ Below w.heap.size w w' :=
  qmoved_any m A c A2 c2 A3 c3 y.1 y.2 xs w h hx.1 (by omega) (by have := ok.s8; omega)
end
theorem qin_b (n lo hi : Int) (w : World) : Calls Try.prog 39 #[.int .i64 n, .int .i64 lo, .int .i64 hi] w fun e w' => e = .returned (.bool (inB n lo hi)) ∧ Below w.heap.size w w' :=
  (qin_any n lo hi w).mono fun _ _ h => ⟨h.1, h.2 ▸ Below.refl _ _⟩
section
variable {H : Type} {enc : TypeId × Value → H} {W : World} {v : Value}
set_option maxRecDepth 100000 in
theorem open_lim {r : Reach} {b0 : Nat} {d : DataW H} {ps : List MemPlace} (hval : Value.okWide Try.prog W r b0 43 v) (hd : DataW.Trod enc Try.prog W 0 (fun _ => true) true 43 v d ps) :
    ∃ lo hi : Int, v = .agg #[.int .i64 lo, .int .i64 hi] := by
  obtain ⟨v0, v1, y0, y1, m, rfl, _, _, h0, h1⟩ := open_agg2 Try.underlying43 (by kernel_rfl) (by kernel_rfl) hval hd
  obtain ⟨n0, e0, _, _⟩ := DataW.trod_int Try.underlying3 h0
  obtain ⟨n1, e1, _, _⟩ := DataW.trod_int Try.underlying3 h1
  injection e0 with e0
  injection e1 with e1
  subst e0 e1
  exact ⟨n0, n1, rfl⟩
end
end Go.Proofs.Ytoeabajigfdkaaa
