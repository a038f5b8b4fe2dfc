/- The walks and the plain laws of this part of the program, part 9: what each computes. Conditions stand at each theorem. -/
import Derived.RangeFuncNested
import Derived.RangeFuncLeaves
import Derived.DeepKeys3
import Derived.Test.YtlnamjhgbdacbaaGreatK8
/- choose, at a row that is not whole: the smaller number, then the greater one. -/
namespace Go.Proofs.YtlnamjhgbdacbaaGreat
open Go.RowKit Go.Shelf

theorem LB.owns {W : World} {y m : Nat} {pre : List Int} (h : LB W y m pre) (h1 : pre.length ≤ m) (h2 : m ≤ maxLen) : W.ownsRow y 3 1 (.slice (some ⟨y, 0, none⟩) pre.length m) pre.length (pre.map (Value.int .i64)) := by
  obtain ⟨arr, hb, hs, hc⟩ := h
  refine ⟨by simp, .inr ⟨y, m, arr, rfl, Nat.le_refl _, hb, h1, h2, by omega, ?_⟩⟩
  apply List.ext_getElem?
  intro i
  rw [List.getElem?_take, List.getElem?_map]
  by_cases hi : i < pre.length
  · rw [if_pos (by omega), List.getElem?_eq_getElem hi]
    simpa using hc i pre[i] (List.getElem?_eq_getElem hi)
  · rw [if_neg (by omega), List.getElem?_eq_none (by omega)]; rfl
theorem LB.of_owns {W : World} {y m n : Nat} {pre : List Int} (h : W.ownsRow y 3 1 (.slice (some ⟨y, 0, none⟩) n m) n (pre.map (Value.int .i64))) : LB W y m pre := by
  have hl := h.1
  rcases h.2 with ⟨h', _⟩ | ⟨g, cap, cur, h', _, hb, h1, h2, h3, h4⟩
  · simp at h'
  · simp only [Value.slice.injEq, Option.some.injEq, Addr.mk.injEq, and_true, true_and] at h'
    obtain ⟨rfl, rfl⟩ := h'
    refine ⟨cur, hb, by omega, fun k x hk => ?_⟩
    have hk1 := (List.getElem?_eq_some_iff.1 hk).1
    have : (cur.toList.take (n * 1))[k]? = some (.int .i64 x) := by rw [h4, List.getElem?_map, hk]; rfl
    rw [List.getElem?_take, if_pos (by simp at hl; omega)] at this
    simpa using this
set_option maxHeartbeats 400000 in
theorem append_lb {W : World} {y m : Nat} {pre : List Int} {x : Int} {g : Nat} (h : LB W y m pre) (h1 : pre.length < m) (h2 : m ≤ maxLen) (hg : W.cell? ⟨g, 0, none⟩ = some (.int .i64 x)) :
    ∃ W', (Builtin.append_ #[22, 22] 22 #[.slice (some ⟨y, 0, none⟩) pre.length m, .slice (some ⟨g, 0, none⟩) 1 1]).run Tryz.prog W = .ok (.slice (some ⟨y, 0, none⟩) (pre.length + 1) m) W' ∧ LB W' y m (pre ++ [x]) ∧ W.grownBy W' (some y) := by
  obtain ⟨i0, hi0, hz0, hz1, hz2⟩ := info_parts int_info
  obtain ⟨W', hr, ho, hg2⟩ := run_append_fits (P := Tryz.prog) W y 22 22 3 i0 1 Tryz.underlying22 hi0 hz1 y pre.length m _ (h.owns (by omega) h2) ⟨g, 0, none⟩ 1 1 [.int .i64 x] rfl (fun j u hj => by
    match j, hj with
    | 0, hj => simp at hj; subst hj; exact hg) (fun u hu => by simp at hu; subst hu; rfl) (by omega)
  exact ⟨W', hr, LB.of_owns (n := pre.length + 1) (by simpa using ho), hg2⟩

/-- where the statement stands: what its two lists are, how many were yielded -/
structure Ph (Z : Nat → Prop) (E : World → Prop) (J : Nat → World → Prop) (y m : Nat) (pre : List Int) (lo hi : Int) (k ka kb : Nat) (same : Bool) (listed : Array Bool) (W : World) : Prop where
  env : E W
  lb : LB W y m pre
  lo : listed.getD 4 false = true → listed.getD 5 false = false → LB W y m (pre ++ [lo])
  hi : same = false → listed.getD 15 false = true → listed.getD 16 false = false → LB W y m (pre ++ [hi])
  j0 : listed.getD 5 false = false → J k W
  j1 : listed.getD 5 false = true → (same = true ∨ listed.getD 16 false = false) → J ka W
  j2 : same = false → listed.getD 16 false = true → J kb W
section
variable {Z : Nat → Prop} {E : World → Prop} {J : Nat → World → Prop} {y m : Nat} {pre : List Int} {lo hi : Int} {k ka kb : Nat} {same : Bool} {listed : Array Bool} {W W' : World}
theorem Ph.other (h : Ph Z E J y m pre lo hi k ka kb same listed W) {i : Nat} (h4 : i ≠ 4) (h5 : i ≠ 5) (h15 : i ≠ 15) (h16 : i ≠ 16) : Ph Z E J y m pre lo hi k ka kb same (listed.setIfInBounds i true) W :=
  ⟨h.env, h.lb, by rw [getD_set_oth h4, getD_set_oth h5]; exact h.lo, by rw [getD_set_oth h15, getD_set_oth h16]; exact h.hi, by rw [getD_set_oth h5]; exact h.j0, by rw [getD_set_oth h5, getD_set_oth h16]; exact h.j1, by rw [getD_set_oth h16]; exact h.j2⟩
theorem Ph.skip (h : Ph Z E J y m pre lo hi k ka kb true listed W) {i : Nat} (h4 : i ≠ 4) (h5 : i ≠ 5) : Ph Z E J y m pre lo hi k ka kb true (listed.setIfInBounds i true) W :=
  ⟨h.env, h.lb, by rw [getD_set_oth h4, getD_set_oth h5]; exact h.lo, (fun e => by cases e), by rw [getD_set_oth h5]; exact h.j0, by rw [getD_set_oth h5]; exact fun g _ => h.j1 g (.inl rfl), fun e => by cases e⟩
theorem Ph.below (h : Ph Z E J y m pre lo hi k ka kb same listed W) (hE : ∀ W1 W2, E W1 → Keep Z W1 W2 → E W2) (hJ : ∀ k W1 W2, J k W1 → W1.grownBy W2 (some y) → J k W2) (hb : Below W.heap.size W W') : Ph Z E J y m pre lo hi k ka kb same listed W' :=
  ⟨hE _ _ h.env (Keep.of_below _ hb), h.lb.below hb, fun a b => (h.lo a b).below hb, fun s a b => (h.hi s a b).below hb, fun a => hJ _ _ _ (h.j0 a) (grown_of_below hb _), fun a b => hJ _ _ _ (h.j1 a b) (grown_of_below hb _), fun s a => hJ _ _ _ (h.j2 s a) (grown_of_below hb _)⟩
theorem Ph.app_lo (h : Ph Z E J y m pre lo hi k ka kb same listed W) (h15 : listed.getD 15 false = false) (hE : ∀ W1 W2, E W1 → Keep Z W1 W2 → E W2) (hJ : ∀ k W1 W2, J k W1 → W1.grownBy W2 (some y) → J k W2) (hZ : Z y) (hg : W.grownBy W' (some y)) (hl : LB W' y m (pre ++ [lo])) : Ph Z E J y m pre lo hi k ka kb same (listed.setIfInBounds 4 true) W' :=
  ⟨hE _ _ h.env (Keep.of_grown hg hZ), hl.shrink, fun _ _ => hl, (by rw [getD_set_oth (by decide), h15]; intro _ e; cases e), by rw [getD_set_oth (by decide)]; exact fun a => hJ _ _ _ (h.j0 a) hg, by rw [getD_set_oth (by decide), getD_set_oth (by decide)]; exact fun a b => hJ _ _ _ (h.j1 a b) hg, by rw [getD_set_oth (by decide)]; exact fun s a => hJ _ _ _ (h.j2 s a) hg⟩
theorem Ph.app_hi (h : Ph Z E J y m pre lo hi k ka kb same listed W) (h5 : listed.getD 5 false = true) (hE : ∀ W1 W2, E W1 → Keep Z W1 W2 → E W2) (hJ : ∀ k W1 W2, J k W1 → W1.grownBy W2 (some y) → J k W2) (hZ : Z y) (hg : W.grownBy W' (some y)) (hl : LB W' y m (pre ++ [hi])) : Ph Z E J y m pre lo hi k ka kb same (listed.setIfInBounds 15 true) W' :=
  ⟨hE _ _ h.env (Keep.of_grown hg hZ), hl.shrink, (by rw [getD_set_oth (i := 15) (j := 5) (by decide), h5]; intro _ e; cases e), fun _ _ _ => hl, by rw [getD_set_oth (by decide)]; exact fun a => hJ _ _ _ (h.j0 a) hg, by rw [getD_set_oth (by decide), getD_set_oth (by decide)]; exact fun a b => hJ _ _ _ (h.j1 a b) hg, by rw [getD_set_oth (by decide)]; exact fun s a => hJ _ _ _ (h.j2 s a) hg⟩
theorem Ph.call_lo (_h : Ph Z E J y m pre lo hi k ka kb same listed W) (hs : 5 < listed.size) (h15 : listed.getD 15 false = false) (h16 : listed.getD 16 false = false) (he : E W') (hl : LB W' y m pre) (hj : J ka W') : Ph Z E J y m pre lo hi k ka kb same (listed.setIfInBounds 5 true) W' :=
  ⟨he, hl, (by rw [getD_set_eq hs]; intro _ e; cases e), (by rw [getD_set_oth (i := 5) (j := 15) (by decide), h15]; intro _ e; cases e), (by rw [getD_set_eq hs]; intro e; cases e), fun _ _ => hj, by rw [getD_set_oth (by decide), h16]; intro _ e; cases e⟩
theorem Ph.call_hi (_h : Ph Z E J y m pre lo hi k ka kb false listed W) (hs : 16 < listed.size) (h5 : listed.getD 5 false = true) (he : E W') (hl : LB W' y m pre) (hj : J kb W') : Ph Z E J y m pre lo hi k ka kb false (listed.setIfInBounds 16 true) W' :=
  ⟨he, hl, (by rw [getD_set_oth (i := 16) (j := 5) (by decide), h5]; intro _ e; cases e), (by rw [getD_set_eq hs]; intro _ _ e; cases e), (by rw [getD_set_oth (by decide), h5]; intro e; cases e), (by rw [getD_set_eq hs]; intro _ e; rcases e with e | e <;> cases e), fun _ _ => hj⟩
end


set_option maxRecDepth 100000 in
set_option maxHeartbeats 4000000 in
theorem choose_one {Bc Bw Br By Bh P l n : Nat} {A0 : Option Addr} {c0 : Nat} {cells : List Int} {row b : Int} {At : Option Addr} {ct nt : Nat} {Af : Option Addr} {cf : Nat} {fs : List Fx} {mp : Value}
    {y m : Nat} {pre : List Int} {W : World} {n0 lo hi : Int} {Z : Nat → Prop} {J : Nat → World → Prop} {k ka kb : Nat}
    (he : Env Bc Bw Br By Bh P l n A0 c0 cells row b At ct nt Af cf fs mp W) (hn : n ≤ W.heap.size) (hlb : LB W y m pre) (hnx : cells[pre.length]? = some n0) (hm : pre.length < m ∧ m ≤ maxLen) (ok : RowOk cells b fs)
    (hlo : lowOf b n0 = lo) (hhi : highOf b n0 = hi) (hsame : (lo == hi) = true) (hZ : Z y) (hX : ∀ g, W.heap.size ≤ g → ¬ Z g)
    (hE : ∀ W1 W2, (Env Bc Bw Br By Bh P l n A0 c0 cells row b At ct nt Af cf fs mp W1 ∧ W.heap.size ≤ W1.heap.size) → Keep Z W1 W2 → (Env Bc Bw Br By Bh P l n A0 c0 cells row b At ct nt Af cf fs mp W2 ∧ W.heap.size ≤ W2.heap.size)) (hJ : ∀ k W1 W2, J k W1 → W1.grownBy W2 (some y) → J k W2) (hj : J k W)
    (hLo : ∀ W1, Keep Z W W1 → (Env Bc Bw Br By Bh P l n A0 c0 cells row b At ct nt Af cf fs mp W1 ∧ W.heap.size ≤ W1.heap.size) → LB W1 y m (pre ++ [lo]) → J k W1 → Calls Tryz.prog 96 #[.slice (some ⟨y, 0, none⟩) (pre.length + 1) m, .pointer (some ⟨Bc, 0, none⟩), .pointer (some ⟨Bw, 0, none⟩), .pointer (some ⟨Br, 0, none⟩), .pointer (some ⟨By, 0, none⟩), .pointer (some ⟨Bh, 0, none⟩)] W1 fun e W2 => e = .returned (.bool true) ∧ J ka W2 ∧ LB W2 y m (pre ++ [lo]) ∧ (Env Bc Bw Br By Bh P l n A0 c0 cells row b At ct nt Af cf fs mp W2 ∧ W.heap.size ≤ W2.heap.size) ∧ Keep Z W1 W2) :
    Calls Tryz.prog 96 #[.slice (some ⟨y, 0, none⟩) pre.length m, .pointer (some ⟨Bc, 0, none⟩), .pointer (some ⟨Bw, 0, none⟩), .pointer (some ⟨Br, 0, none⟩), .pointer (some ⟨By, 0, none⟩), .pointer (some ⟨Bh, 0, none⟩)] W fun e W' => e = .returned (.bool true) ∧ J ka W' ∧ LB W' y m pre ∧ Env Bc Bw Br By Bh P l n A0 c0 cells row b At ct nt Af cf fs mp W' ∧ Keep Z W W' := by
  have hpl := (List.getElem?_eq_some_iff.1 hnx).1
  have hmem : n0 ∈ cells := List.mem_of_getElem? hnx
  obtain ⟨x0, x1⟩ := ok.cell n0 hmem
  have hb1 := ok.b1
  have hb2 := ok.b2
  have k := he.reads
  obtain ⟨k1, k2, k3, k4, k5, k6, k7, k8⟩ := k
  obtain ⟨a0, ha0, ha1, ha2⟩ := he.ic pre.length n0 hnx
  rw [ha0] at k1
  have T1 := hid (show ∀ q, _ from fun q => below_any b n0 (.slice At nt ct) (.slice Af fs.length cf) (xt W q) hb1 hb2 x0 (by omega))
  have T2 := hid (show ∀ q, _ from fun q => above_any b n0 (.slice At nt ct) (.slice Af fs.length cf) (xt W q) hb1 hb2 x0 (by omega))
  rw [hlo] at T1
  rw [hhi] at T2
  have hL : ((pre.length : Int) == (cells.length : Int)) = false := by simp; omega
  have hpi : (pre.length : Int) < (cells.length : Int) := by omega
  have HQ := hid (show ∀ q, _ from fun q => (he.below (below_xt W q) hn).reads)
  have c2 : ∀ q, (xt W q).cell? ⟨Bw, 0, none⟩ = some (.pointer (some ⟨P, 0, none⟩)) := fun q => (HQ.out q).2.1
  have c6 : ∀ q, (xt W q).cell? ⟨P, 0, none⟩ = some (.int .i64 b) := fun q => (HQ.out q).2.2.2.2.2.1
  have c7 : ∀ q, (xt W q).cell? ⟨P, 1, none⟩ = some (.slice At nt ct) := fun q => (HQ.out q).2.2.2.2.2.2.1
  have c8 : ∀ q, (xt W q).cell? ⟨P, 2, none⟩ = some (.slice Af fs.length cf) := fun q => (HQ.out q).2.2.2.2.2.2.2
  have HF := hid (show ∀ W1, (Env Bc Bw Br By Bh P l n A0 c0 cells row b At ct nt Af cf fs mp W1 ∧ W.heap.size ≤ W1.heap.size) → _ from fun W1 h => h.1.reads)
  have HM := hid hm
  have HE := hid hE; have HJ := hid hJ; have HX := hid hX; have HLo := hid hLo
  have H0 := hid (And.intro (And.intro he hn) (And.intro hlb (And.intro hj (And.intro hsame hZ))))
  clear he hn hlb hj hZ hX hE hJ hLo ok hlo hhi hsame hm HQ hnx hmem 
  go_enter Tryz.func96, Tryz.ntmps96
  go_wp2
  refine wp_region_quiet_xt (by kernel_rfl) (by kernel_rfl) ?_
  repeat (go_big_quiet_step ((first | (go_at_call 98; with_reducible exact Calls.xt (T1.out _)) | (go_at_call 99; with_reducible exact Calls.xt (T2.out _)))))
  refine wpQuiet_nil ?_
  intro W3 hw3
  replace hw3 := of_xt hw3
  clear ha0 c2 c6 c7 c8 k1 k2 k3 k4 k5 k6 k7 k8 T1 T2 ha1 ha2
  go_wp2
  have hS3 := Keep.of_below Z hw3
  have HP := hid (show Ph Z (fun W1 => Env Bc Bw Br By Bh P l n A0 c0 cells row b At ct nt Af cf fs mp W1 ∧ W.heap.size ≤ W1.heap.size) J y m pre lo hi k ka kb true (Array.replicate 20 false) { W3 with drawn := W3.drawn + 1 } from
    Ph.below (W := W) ⟨⟨H0.out.1.1, Nat.le_refl _⟩, H0.out.2.1, (fun e => by simp at e), (fun _ e => by simp at e), fun _ => H0.out.2.2.1, (fun e => by simp at e), (fun _ e => by simp at e)⟩ HE.out HJ.out (hw3.trans ⟨rfl, rfl, rfl, Nat.le_refl _, fun _ _ => rfl⟩))
  have HS := hid (H0.out.2.2.2.1)
  have HZ := hid (H0.out.2.2.2.2)
  have HSZ := hid hw3.size
  have HLq := hid (fun W1 h => HLo.out W1 (hS3.trans h))
  have HS3 := hid hS3
  clear hw3 H0 HLo hS3 hL hpi hpl
  refine (wpIn_wide (n := 0)).1 ?_
  refine wpIn_region_each 19 (fun i v W' => match i with | 0 => v = .func (.func 96) #[] #[.pointer (some ⟨Bc, 0, none⟩), .pointer (some ⟨Bw, 0, none⟩), .pointer (some ⟨Br, 0, none⟩), .pointer (some ⟨By, 0, none⟩), .pointer (some ⟨Bh, 0, none⟩)] | 1 => v = .slice (some ⟨y, 0, none⟩) pre.length m | 2 => v = .int .i64 lo | 4 => v = .slice (some ⟨y, 0, none⟩) (pre.length + 1) m | 5 => v = .bool true | 6 => v = .bool true | 7 => v = .int .i64 lo | 8 => v = .int .i64 hi | 9 => v = .bool true | 10 => v = .bool true | 17 => v = .bool true | 18 => v = .bool true | 3 => ∃ g, v = .slice (some ⟨g, 0, none⟩) 1 1 ∧ W.heap.size ≤ g ∧ Blk W' g 3 #[.int .i64 lo] | _ => True) (fun W1 W2 => Keep Z W1 W2) (Ph Z (fun W1 => Env Bc Bw Br By Bh P l n A0 c0 cells row b At ct nt Af cf fs mp W1 ∧ W.heap.size ≤ W1.heap.size) J y m pre lo hi k ka kb true) (by kernel_rfl) (by kernel_rfl) ?_ (fun h k => h.trans k) (Keep.of_below Z ⟨rfl, rfl, rfl, Nat.le_refl _, fun _ _ => rfl⟩) HP.out (by kernel_rfl) ?_ ?_
  · intro i v W1 W2 hb h
    match i, h with
    | 0, h => exact h
    | 1, h => exact h
    | 2, h => exact h
    | 3, h =>
      obtain ⟨g, rfl, h1, h2⟩ := h
      exact ⟨g, rfl, h1, hb.blk h2 (HX.out g h1)⟩
    | 4, h => exact h
    | 5, h => exact h
    | 6, h => exact h
    | 7, h => exact h
    | 8, h => exact h
    | 9, h => exact h
    | 10, h => exact h
    | 11, h => trivial
    | 12, h => trivial
    | 13, h => trivial
    | 14, h => trivial
    | 15, h => trivial
    | 16, h => trivial
    | 17, h => exact h
    | 18, h => exact h
    | i + 19, h => trivial
  · refine ⟨?_, ?_, ?_, ?_, ?_, ?_, ?_, ?_, ?_, ?_, ?_, ?_, ?_, ?_, ?_, ?_, ?_, ?_, ?_, trivial⟩
    · -- 0: Op.load 118 t5
      intro li a1 W1 hA K hK
      have e5 := hA.par 5 (by kernel_rfl)
      obtain ⟨q1, q2, q3, q4, q5, q6, q7, q8⟩ := HF.out W1 hA.ph.env
      refine opStep none 0 rfl rfl (fun c hc => by cases hc) ?_
      go_simp
      exact hK _ _ rfl (Keep.refl _ _) (hA.ph.other (by decide) (by decide) (by decide) (by decide))
    · -- 1: Op.move t0
      intro li a1 W1 hA K hK
      have e0 := hA.par 0 (by kernel_rfl)
      obtain ⟨q1, q2, q3, q4, q5, q6, q7, q8⟩ := HF.out W1 hA.ph.env
      refine opStep none 0 rfl rfl (fun c hc => by cases hc) ?_
      go_simp
      exact hK _ _ rfl (Keep.refl _ _) (hA.ph.other (by decide) (by decide) (by decide) (by decide))
    · -- 2: Op.move t9
      intro li a1 W1 hA K hK
      have e9 := hA.par 9 (by kernel_rfl)
      obtain ⟨q1, q2, q3, q4, q5, q6, q7, q8⟩ := HF.out W1 hA.ph.env
      refine opStep none 0 rfl rfl (fun c hc => by cases hc) ?_
      go_simp
      exact hK _ _ rfl (Keep.refl _ _) (hA.ph.other (by decide) (by decide) (by decide) (by decide))
    · -- 3: Op.buildSlice 56 1 #[(0, t61)]
      intro li a1 W1 hA K hK
      have e61 : a1.tmps.getD 61 undef = .int .i64 lo := hA.val 2 61 (by kernel_rfl) (by kernel_rfl)
      obtain ⟨q1, q2, q3, q4, q5, q6, q7, q8⟩ := HF.out W1 hA.ph.env
      refine opStep none 0 rfl rfl (fun c hc => by cases hc) ?_
      have e61' := e61
      rw [Array.getD_eq_getD_getElem?] at e61'
      go_simp
      refine hK _ _ ⟨_, rfl, Nat.le_trans HSZ.out hA.st.size, Blk.new _ _ _⟩ (Keep.of_below _ ((Below.refl _ _).alloc (Nat.le_refl _) _)) ?_
      exact (hA.ph.other (by decide) (by decide) (by decide) (by decide)).below HE.out HJ.out ((Below.refl _ _).alloc (Nat.le_refl _) _)
    · -- 4: Op.call { builtin append, args := #[t60, t62], argTypes := #[56, 56] }
      intro li a1 W1 hA K hK
      have e60 : a1.tmps.getD 60 undef = .slice (some ⟨y, 0, none⟩) pre.length m := hA.val 1 60 (by kernel_rfl) (by kernel_rfl)
      have e62 := hA.val 3 62 (by kernel_rfl) (by kernel_rfl)
      obtain ⟨q1, q2, q3, q4, q5, q6, q7, q8⟩ := HF.out W1 hA.ph.env
      -- raw
      obtain ⟨g, e62, hg1, hg2⟩ := hA.val 3 62 (by kernel_rfl) (by kernel_rfl)
      obtain ⟨W2, hr, hl2, hg3⟩ := append_lb (hA.ph.lb) HM.out.1 HM.out.2 hg2.c1
      refine opValue (v := .slice (some ⟨y, 0, none⟩) (pre.length + 1) m) none 0 rfl rfl (fun c hc => by cases hc) (W' := W2) (by simp [execOp, resolve, invoke, builtin, Act.eval, e60, e62, hr, Result.andThen]) ?_
      refine hK _ _ rfl (Keep.of_grown hg3 HZ.out) ?_
      have h10 : li.getD 10 false = false := by
        cases h : li.getD 10 false with
        | false => rfl
        | true => have := hA.past (hA.past (hA.past h 6 (by kernel_rfl)) 5 (by kernel_rfl)) 4 (by kernel_rfl); rw [hA.new] at this; cases this
      have h15 : li.getD 15 false = false := by
        cases h : li.getD 15 false with
        | false => rfl
        | true => have := hA.past h 10 (by kernel_rfl); rw [h10] at this; cases this
      exact hA.ph.app_lo h15 HE.out HJ.out HZ.out hg3 hl2
    · -- 5: Op.call { value t59, args := #[t63], argTypes := #[56] }
      intro li a1 W1 hA K hK
      have e59 : a1.tmps.getD 59 undef = .func (.func 96) #[] #[.pointer (some ⟨Bc, 0, none⟩), .pointer (some ⟨Bw, 0, none⟩), .pointer (some ⟨Br, 0, none⟩), .pointer (some ⟨By, 0, none⟩), .pointer (some ⟨Bh, 0, none⟩)] := hA.val 0 59 (by kernel_rfl) (by kernel_rfl)
      have e63 : a1.tmps.getD 63 undef = .slice (some ⟨y, 0, none⟩) (pre.length + 1) m := hA.val 4 63 (by kernel_rfl) (by kernel_rfl)
      obtain ⟨q1, q2, q3, q4, q5, q6, q7, q8⟩ := HF.out W1 hA.ph.env
      refine opStep none 0 rfl rfl (fun c hc => by cases hc) ?_
      have h10 : li.getD 10 false = false := by
        cases h : li.getD 10 false with
        | false => rfl
        | true => have := hA.past (hA.past h 6 (by kernel_rfl)) 5 (by kernel_rfl); rw [hA.new] at this; cases this
      have h15 : li.getD 15 false = false := by
        cases h : li.getD 15 false with
        | false => rfl
        | true => have := hA.past h 10 (by kernel_rfl); rw [h10] at this; cases this
      have h16 : li.getD 16 false = false := by
        cases h : li.getD 16 false with
        | false => rfl
        | true => have := hA.past h 10 (by kernel_rfl); rw [h10] at this; cases this
      have h4 := hA.has 4 (by kernel_rfl)
      have h5 := hA.new
      go_simp
      refine (HLq.out W1 hA.st hA.ph.env (hA.ph.lo h4 h5) (hA.ph.j0 h5)).mono ?_
      rintro e W2 ⟨rfl, j2, l2, v2, s2⟩
      exact hK _ _ rfl s2 (hA.ph.call_lo (by rw [hA.lsize]; decide) h15 h16 v2 l2.shrink j2)
    · -- 6: Op.move t64
      intro li a1 W1 hA K hK
      have e64 : a1.tmps.getD 64 undef = .bool true := hA.val 5 64 (by kernel_rfl) (by kernel_rfl)
      obtain ⟨q1, q2, q3, q4, q5, q6, q7, q8⟩ := HF.out W1 hA.ph.env
      refine opStep none 0 rfl rfl (fun c hc => by cases hc) ?_
      go_simp
      exact hK _ _ rfl (Keep.refl _ _) (hA.ph.other (by decide) (by decide) (by decide) (by decide))
    · -- 7: Op.move t9
      intro li a1 W1 hA K hK
      have e9 := hA.par 9 (by kernel_rfl)
      obtain ⟨q1, q2, q3, q4, q5, q6, q7, q8⟩ := HF.out W1 hA.ph.env
      refine opStep none 0 rfl (wanted_yes rfl (show dstB _ 6 65 = true by kernel_rfl) (hA.val 6 65 (by kernel_rfl) (by kernel_rfl))) (fun c hc => by cases hc) ?_
      go_simp
      exact hK _ _ rfl (Keep.refl _ _) (hA.ph.other (by decide) (by decide) (by decide) (by decide))
    · -- 8: Op.move t10
      intro li a1 W1 hA K hK
      have e10 := hA.par 10 (by kernel_rfl)
      obtain ⟨q1, q2, q3, q4, q5, q6, q7, q8⟩ := HF.out W1 hA.ph.env
      refine opStep none 0 rfl (wanted_yes rfl (show dstB _ 6 65 = true by kernel_rfl) (hA.val 6 65 (by kernel_rfl) (by kernel_rfl))) (fun c hc => by cases hc) ?_
      go_simp
      exact hK _ _ rfl (Keep.refl _ _) (hA.ph.other (by decide) (by decide) (by decide) (by decide))
    · -- 9: Op.binOp BinOp.eql 3 t66 t67 3
      intro li a1 W1 hA K hK
      have e66 : a1.tmps.getD 66 undef = .int .i64 lo := hA.val 7 66 (by kernel_rfl) (by kernel_rfl)
      have e67 : a1.tmps.getD 67 undef = .int .i64 hi := hA.val 8 67 (by kernel_rfl) (by kernel_rfl)
      obtain ⟨q1, q2, q3, q4, q5, q6, q7, q8⟩ := HF.out W1 hA.ph.env
      refine opStep none 0 rfl (wanted_yes rfl (show dstB _ 6 65 = true by kernel_rfl) (hA.val 6 65 (by kernel_rfl) (by kernel_rfl))) (fun c hc => by cases hc) ?_
      have hsm := HS.out
      go_simp
      exact hK _ _ rfl (Keep.refl _ _) (hA.ph.other (by decide) (by decide) (by decide) (by decide))
    · -- 10: Op.move t68
      intro li a1 W1 hA K hK
      have e68 : a1.tmps.getD 68 undef = .bool true := hA.val 9 68 (by kernel_rfl) (by kernel_rfl)
      obtain ⟨q1, q2, q3, q4, q5, q6, q7, q8⟩ := HF.out W1 hA.ph.env
      refine opStep none 0 rfl (wanted_yes rfl (show dstB _ 6 65 = true by kernel_rfl) (hA.val 6 65 (by kernel_rfl) (by kernel_rfl))) (fun c hc => by cases hc) ?_
      go_simp
      exact hK _ _ rfl (Keep.refl _ _) (hA.ph.other (by decide) (by decide) (by decide) (by decide))
    · -- 11: Op.load 118 t5
      intro li a1 W1 hA K hK
      refine opSkip none 0 rfl (wanted_no rfl (show dstB _ 10 69 = true by kernel_rfl) (hA.val 10 69 (by kernel_rfl) (by kernel_rfl)) (by decide)) ?_
      exact hK _ _ trivial (Keep.refl _ _) (hA.ph.other (by decide) (by decide) (by decide) (by decide))
    · -- 12: Op.move t0
      intro li a1 W1 hA K hK
      refine opSkip none 0 rfl (wanted_no rfl (show dstB _ 10 69 = true by kernel_rfl) (hA.val 10 69 (by kernel_rfl) (by kernel_rfl)) (by decide)) ?_
      exact hK _ _ trivial (Keep.refl _ _) (hA.ph.other (by decide) (by decide) (by decide) (by decide))
    · -- 13: Op.move t10
      intro li a1 W1 hA K hK
      refine opSkip none 0 rfl (wanted_no rfl (show dstB _ 10 69 = true by kernel_rfl) (hA.val 10 69 (by kernel_rfl) (by kernel_rfl)) (by decide)) ?_
      exact hK _ _ trivial (Keep.refl _ _) (hA.ph.other (by decide) (by decide) (by decide) (by decide))
    · -- 14: Op.buildSlice 56 1 #[(0, t72)]
      intro li a1 W1 hA K hK
      refine opSkip none 0 rfl (wanted_no rfl (show dstB _ 10 69 = true by kernel_rfl) (hA.val 10 69 (by kernel_rfl) (by kernel_rfl)) (by decide)) ?_
      exact hK _ _ trivial (Keep.refl _ _) (hA.ph.other (by decide) (by decide) (by decide) (by decide))
    · -- 15: Op.call { builtin append, args := #[t71, t73], argTypes := #[56, 56] }
      intro li a1 W1 hA K hK
      refine opSkip none 0 rfl (wanted_no rfl (show dstB _ 10 69 = true by kernel_rfl) (hA.val 10 69 (by kernel_rfl) (by kernel_rfl)) (by decide)) ?_
      exact hK _ _ trivial (Keep.refl _ _) (hA.ph.skip (by decide) (by decide))
    · -- 16: Op.call { value t70, args := #[t74], argTypes := #[56] }
      intro li a1 W1 hA K hK
      refine opSkip none 0 rfl (wanted_no rfl (show dstB _ 10 69 = true by kernel_rfl) (hA.val 10 69 (by kernel_rfl) (by kernel_rfl)) (by decide)) ?_
      exact hK _ _ trivial (Keep.refl _ _) (hA.ph.skip (by decide) (by decide))
    · -- 17: Op.pick t69 (const (Value.bool true)) t75
      intro li a1 W1 hA K hK
      have e69 : a1.tmps.getD 69 undef = .bool true := hA.val 10 69 (by kernel_rfl) (by kernel_rfl)
      have e75 := hA.val 16 75 (by kernel_rfl) (by kernel_rfl)
      obtain ⟨q1, q2, q3, q4, q5, q6, q7, q8⟩ := HF.out W1 hA.ph.env
      refine opStep none 0 rfl (wanted_yes rfl (show dstB _ 6 65 = true by kernel_rfl) (hA.val 6 65 (by kernel_rfl) (by kernel_rfl))) (fun c hc => by cases hc) ?_
      go_simp
      exact hK _ _ rfl (Keep.refl _ _) (hA.ph.other (by decide) (by decide) (by decide) (by decide))
    · -- 18: Op.pick t65 t76 (const (Value.bool false))
      intro li a1 W1 hA K hK
      have e65 : a1.tmps.getD 65 undef = .bool true := hA.val 6 65 (by kernel_rfl) (by kernel_rfl)
      have e76 : a1.tmps.getD 76 undef = .bool true := hA.val 17 76 (by kernel_rfl) (by kernel_rfl)
      obtain ⟨q1, q2, q3, q4, q5, q6, q7, q8⟩ := HF.out W1 hA.ph.env
      refine opStep none 0 rfl rfl (fun c hc => by cases hc) ?_
      go_simp
      exact hK _ _ rfl (Keep.refl _ _) (hA.ph.other (by decide) (by decide) (by decide) (by decide))
  · intro li a1 W1 hD
    have e77 : a1.tmps.getD 77 undef = .bool true := hD.val 18 77 (by kernel_rfl) (by kernel_rfl)
    have hs : a1.tmps.size = 78 := hD.size
    have hd : a1.defers = [] := hD.defers
    have HR := hid (show J ka W1 ∧ LB W1 y m pre ∧ Env Bc Bw Br By Bh P l n A0 c0 cells row b At ct nt Af cf fs mp W1 ∧ Keep Z W W1 from ⟨hD.ph.j1 (hD.all 5 (by decide)) (.inl rfl), hD.ph.lb, hD.ph.env.1, HS3.out.trans hD.st⟩)
    clear hD HF HE HJ HX HLq HP HS HZ HM HS3 HSZ
    refine tail_val (i := 19) (W' := W1) (v := .bool true) none 0 rfl rfl rfl (fun c hc => by cases hc) (by go_simp) (by rw [hs]; decide) ?_
    intro a4 s4 d4 f7 _
    replace hd := d4.trans hd
    clear s4 d4 hs e77
    refine wpListIn_nil ?_
    go_wp2
    exact bodyPost_ret (v := .bool true) ((results_tmp Tryz.results96 _ _ _).trans (by rw [f7])) hd ⟨rfl, HR.out⟩

set_option maxRecDepth 100000 in
set_option maxHeartbeats 4000000 in
theorem choose_two {Bc Bw Br By Bh P l n : Nat} {A0 : Option Addr} {c0 : Nat} {cells : List Int} {row b : Int} {At : Option Addr} {ct nt : Nat} {Af : Option Addr} {cf : Nat} {fs : List Fx} {mp : Value}
    {y m : Nat} {pre : List Int} {W : World} {n0 lo hi : Int} {Z : Nat → Prop} {J : Nat → World → Prop} {k ka kb : Nat}
    (he : Env Bc Bw Br By Bh P l n A0 c0 cells row b At ct nt Af cf fs mp W) (hn : n ≤ W.heap.size) (hlb : LB W y m pre) (hnx : cells[pre.length]? = some n0) (hm : pre.length < m ∧ m ≤ maxLen) (ok : RowOk cells b fs)
    (hlo : lowOf b n0 = lo) (hhi : highOf b n0 = hi) (hsame : (lo == hi) = false) (hZ : Z y) (hX : ∀ g, W.heap.size ≤ g → ¬ Z g)
    (hE : ∀ W1 W2, (Env Bc Bw Br By Bh P l n A0 c0 cells row b At ct nt Af cf fs mp W1 ∧ W.heap.size ≤ W1.heap.size) → Keep Z W1 W2 → (Env Bc Bw Br By Bh P l n A0 c0 cells row b At ct nt Af cf fs mp W2 ∧ W.heap.size ≤ W2.heap.size)) (hJ : ∀ k W1 W2, J k W1 → W1.grownBy W2 (some y) → J k W2) (hj : J k W)
    (hLo : ∀ W1, Keep Z W W1 → (Env Bc Bw Br By Bh P l n A0 c0 cells row b At ct nt Af cf fs mp W1 ∧ W.heap.size ≤ W1.heap.size) → LB W1 y m (pre ++ [lo]) → J k W1 → Calls Tryz.prog 96 #[.slice (some ⟨y, 0, none⟩) (pre.length + 1) m, .pointer (some ⟨Bc, 0, none⟩), .pointer (some ⟨Bw, 0, none⟩), .pointer (some ⟨Br, 0, none⟩), .pointer (some ⟨By, 0, none⟩), .pointer (some ⟨Bh, 0, none⟩)] W1 fun e W2 => e = .returned (.bool true) ∧ J ka W2 ∧ LB W2 y m (pre ++ [lo]) ∧ (Env Bc Bw Br By Bh P l n A0 c0 cells row b At ct nt Af cf fs mp W2 ∧ W.heap.size ≤ W2.heap.size) ∧ Keep Z W1 W2)
    (hHi : ∀ W1, Keep Z W W1 → (Env Bc Bw Br By Bh P l n A0 c0 cells row b At ct nt Af cf fs mp W1 ∧ W.heap.size ≤ W1.heap.size) → LB W1 y m (pre ++ [hi]) → J ka W1 → Calls Tryz.prog 96 #[.slice (some ⟨y, 0, none⟩) (pre.length + 1) m, .pointer (some ⟨Bc, 0, none⟩), .pointer (some ⟨Bw, 0, none⟩), .pointer (some ⟨Br, 0, none⟩), .pointer (some ⟨By, 0, none⟩), .pointer (some ⟨Bh, 0, none⟩)] W1 fun e W2 => e = .returned (.bool true) ∧ J kb W2 ∧ LB W2 y m (pre ++ [hi]) ∧ (Env Bc Bw Br By Bh P l n A0 c0 cells row b At ct nt Af cf fs mp W2 ∧ W.heap.size ≤ W2.heap.size) ∧ Keep Z W1 W2) :
    Calls Tryz.prog 96 #[.slice (some ⟨y, 0, none⟩) pre.length m, .pointer (some ⟨Bc, 0, none⟩), .pointer (some ⟨Bw, 0, none⟩), .pointer (some ⟨Br, 0, none⟩), .pointer (some ⟨By, 0, none⟩), .pointer (some ⟨Bh, 0, none⟩)] W fun e W' => e = .returned (.bool true) ∧ J kb W' ∧ LB W' y m pre ∧ Env Bc Bw Br By Bh P l n A0 c0 cells row b At ct nt Af cf fs mp W' ∧ Keep Z W W' := by
  have hpl := (List.getElem?_eq_some_iff.1 hnx).1
  have hmem : n0 ∈ cells := List.mem_of_getElem? hnx
  obtain ⟨x0, x1⟩ := ok.cell n0 hmem
  have hb1 := ok.b1
  have hb2 := ok.b2
  have k := he.reads
  obtain ⟨k1, k2, k3, k4, k5, k6, k7, k8⟩ := k
  obtain ⟨a0, ha0, ha1, ha2⟩ := he.ic pre.length n0 hnx
  rw [ha0] at k1
  have T1 := hid (show ∀ q, _ from fun q => below_any b n0 (.slice At nt ct) (.slice Af fs.length cf) (xt W q) hb1 hb2 x0 (by omega))
  have T2 := hid (show ∀ q, _ from fun q => above_any b n0 (.slice At nt ct) (.slice Af fs.length cf) (xt W q) hb1 hb2 x0 (by omega))
  rw [hlo] at T1
  rw [hhi] at T2
  have hL : ((pre.length : Int) == (cells.length : Int)) = false := by simp; omega
  have hpi : (pre.length : Int) < (cells.length : Int) := by omega
  have HQ := hid (show ∀ q, _ from fun q => (he.below (below_xt W q) hn).reads)
  have c2 : ∀ q, (xt W q).cell? ⟨Bw, 0, none⟩ = some (.pointer (some ⟨P, 0, none⟩)) := fun q => (HQ.out q).2.1
  have c6 : ∀ q, (xt W q).cell? ⟨P, 0, none⟩ = some (.int .i64 b) := fun q => (HQ.out q).2.2.2.2.2.1
  have c7 : ∀ q, (xt W q).cell? ⟨P, 1, none⟩ = some (.slice At nt ct) := fun q => (HQ.out q).2.2.2.2.2.2.1
  have c8 : ∀ q, (xt W q).cell? ⟨P, 2, none⟩ = some (.slice Af fs.length cf) := fun q => (HQ.out q).2.2.2.2.2.2.2
  have HF := hid (show ∀ W1, (Env Bc Bw Br By Bh P l n A0 c0 cells row b At ct nt Af cf fs mp W1 ∧ W.heap.size ≤ W1.heap.size) → _ from fun W1 h => h.1.reads)
  have HM := hid hm
  have HE := hid hE; have HJ := hid hJ; have HX := hid hX; have HLo := hid hLo; have HHi := hid hHi
  have H0 := hid (And.intro (And.intro he hn) (And.intro hlb (And.intro hj (And.intro hsame hZ))))
  clear he hn hlb hj hZ hX hE hJ hLo ok hlo hhi hsame hm HQ hnx hmem hHi
  go_enter Tryz.func96, Tryz.ntmps96
  go_wp2
  refine wp_region_quiet_xt (by kernel_rfl) (by kernel_rfl) ?_
  repeat (go_big_quiet_step ((first | (go_at_call 98; with_reducible exact Calls.xt (T1.out _)) | (go_at_call 99; with_reducible exact Calls.xt (T2.out _)))))
  refine wpQuiet_nil ?_
  intro W3 hw3
  replace hw3 := of_xt hw3
  clear ha0 c2 c6 c7 c8 k1 k2 k3 k4 k5 k6 k7 k8 T1 T2 ha1 ha2
  go_wp2
  have hS3 := Keep.of_below Z hw3
  have HP := hid (show Ph Z (fun W1 => Env Bc Bw Br By Bh P l n A0 c0 cells row b At ct nt Af cf fs mp W1 ∧ W.heap.size ≤ W1.heap.size) J y m pre lo hi k ka kb false (Array.replicate 20 false) { W3 with drawn := W3.drawn + 1 } from
    Ph.below (W := W) ⟨⟨H0.out.1.1, Nat.le_refl _⟩, H0.out.2.1, (fun e => by simp at e), (fun _ e => by simp at e), fun _ => H0.out.2.2.1, (fun e => by simp at e), (fun _ e => by simp at e)⟩ HE.out HJ.out (hw3.trans ⟨rfl, rfl, rfl, Nat.le_refl _, fun _ _ => rfl⟩))
  have HS := hid (H0.out.2.2.2.1)
  have HZ := hid (H0.out.2.2.2.2)
  have HSZ := hid hw3.size
  have HLq := hid (fun W1 h => HLo.out W1 (hS3.trans h))
  have HHq := hid (fun W1 h => HHi.out W1 (hS3.trans h))
  have HS3 := hid hS3
  clear hw3 H0 HLo hS3 hL hpi hpl HHi
  refine (wpIn_wide (n := 0)).1 ?_
  refine wpIn_region_each 19 (fun i v W' => match i with | 0 => v = .func (.func 96) #[] #[.pointer (some ⟨Bc, 0, none⟩), .pointer (some ⟨Bw, 0, none⟩), .pointer (some ⟨Br, 0, none⟩), .pointer (some ⟨By, 0, none⟩), .pointer (some ⟨Bh, 0, none⟩)] | 1 => v = .slice (some ⟨y, 0, none⟩) pre.length m | 2 => v = .int .i64 lo | 4 => v = .slice (some ⟨y, 0, none⟩) (pre.length + 1) m | 5 => v = .bool true | 6 => v = .bool true | 7 => v = .int .i64 lo | 8 => v = .int .i64 hi | 9 => v = .bool false | 10 => v = .bool false | 11 => v = .func (.func 96) #[] #[.pointer (some ⟨Bc, 0, none⟩), .pointer (some ⟨Bw, 0, none⟩), .pointer (some ⟨Br, 0, none⟩), .pointer (some ⟨By, 0, none⟩), .pointer (some ⟨Bh, 0, none⟩)] | 12 => v = .slice (some ⟨y, 0, none⟩) pre.length m | 13 => v = .int .i64 hi | 15 => v = .slice (some ⟨y, 0, none⟩) (pre.length + 1) m | 16 => v = .bool true | 17 => v = .bool true | 18 => v = .bool true | 3 => ∃ g, v = .slice (some ⟨g, 0, none⟩) 1 1 ∧ W.heap.size ≤ g ∧ Blk W' g 3 #[.int .i64 lo] | 14 => ∃ g, v = .slice (some ⟨g, 0, none⟩) 1 1 ∧ W.heap.size ≤ g ∧ Blk W' g 3 #[.int .i64 hi] | _ => True) (fun W1 W2 => Keep Z W1 W2) (Ph Z (fun W1 => Env Bc Bw Br By Bh P l n A0 c0 cells row b At ct nt Af cf fs mp W1 ∧ W.heap.size ≤ W1.heap.size) J y m pre lo hi k ka kb false) (by kernel_rfl) (by kernel_rfl) ?_ (fun h k => h.trans k) (Keep.of_below Z ⟨rfl, rfl, rfl, Nat.le_refl _, fun _ _ => rfl⟩) HP.out (by kernel_rfl) ?_ ?_
  · intro i v W1 W2 hb h
    match i, h with
    | 0, h => exact h
    | 1, h => exact h
    | 2, h => exact h
    | 3, h =>
      obtain ⟨g, rfl, h1, h2⟩ := h
      exact ⟨g, rfl, h1, hb.blk h2 (HX.out g h1)⟩
    | 4, h => exact h
    | 5, h => exact h
    | 6, h => exact h
    | 7, h => exact h
    | 8, h => exact h
    | 9, h => exact h
    | 10, h => exact h
    | 11, h => exact h
    | 12, h => exact h
    | 13, h => exact h
    | 14, h =>
      obtain ⟨g, rfl, h1, h2⟩ := h
      exact ⟨g, rfl, h1, hb.blk h2 (HX.out g h1)⟩
    | 15, h => exact h
    | 16, h => exact h
    | 17, h => exact h
    | 18, h => exact h
    | i + 19, h => trivial
  · refine ⟨?_, ?_, ?_, ?_, ?_, ?_, ?_, ?_, ?_, ?_, ?_, ?_, ?_, ?_, ?_, ?_, ?_, ?_, ?_, trivial⟩
    · -- 0: Op.load 118 t5
      intro li a1 W1 hA K hK
      have e5 := hA.par 5 (by kernel_rfl)
      obtain ⟨q1, q2, q3, q4, q5, q6, q7, q8⟩ := HF.out W1 hA.ph.env
      refine opStep none 0 rfl rfl (fun c hc => by cases hc) ?_
      go_simp
      exact hK _ _ rfl (Keep.refl _ _) (hA.ph.other (by decide) (by decide) (by decide) (by decide))
    · -- 1: Op.move t0
      intro li a1 W1 hA K hK
      have e0 := hA.par 0 (by kernel_rfl)
      obtain ⟨q1, q2, q3, q4, q5, q6, q7, q8⟩ := HF.out W1 hA.ph.env
      refine opStep none 0 rfl rfl (fun c hc => by cases hc) ?_
      go_simp
      exact hK _ _ rfl (Keep.refl _ _) (hA.ph.other (by decide) (by decide) (by decide) (by decide))
    · -- 2: Op.move t9
      intro li a1 W1 hA K hK
      have e9 := hA.par 9 (by kernel_rfl)
      obtain ⟨q1, q2, q3, q4, q5, q6, q7, q8⟩ := HF.out W1 hA.ph.env
      refine opStep none 0 rfl rfl (fun c hc => by cases hc) ?_
      go_simp
      exact hK _ _ rfl (Keep.refl _ _) (hA.ph.other (by decide) (by decide) (by decide) (by decide))
    · -- 3: Op.buildSlice 56 1 #[(0, t61)]
      intro li a1 W1 hA K hK
      have e61 : a1.tmps.getD 61 undef = .int .i64 lo := hA.val 2 61 (by kernel_rfl) (by kernel_rfl)
      obtain ⟨q1, q2, q3, q4, q5, q6, q7, q8⟩ := HF.out W1 hA.ph.env
      refine opStep none 0 rfl rfl (fun c hc => by cases hc) ?_
      have e61' := e61
      rw [Array.getD_eq_getD_getElem?] at e61'
      go_simp
      refine hK _ _ ⟨_, rfl, Nat.le_trans HSZ.out hA.st.size, Blk.new _ _ _⟩ (Keep.of_below _ ((Below.refl _ _).alloc (Nat.le_refl _) _)) ?_
      exact (hA.ph.other (by decide) (by decide) (by decide) (by decide)).below HE.out HJ.out ((Below.refl _ _).alloc (Nat.le_refl _) _)
    · -- 4: Op.call { builtin append, args := #[t60, t62], argTypes := #[56, 56] }
      intro li a1 W1 hA K hK
      have e60 : a1.tmps.getD 60 undef = .slice (some ⟨y, 0, none⟩) pre.length m := hA.val 1 60 (by kernel_rfl) (by kernel_rfl)
      have e62 := hA.val 3 62 (by kernel_rfl) (by kernel_rfl)
      obtain ⟨q1, q2, q3, q4, q5, q6, q7, q8⟩ := HF.out W1 hA.ph.env
      -- raw
      obtain ⟨g, e62, hg1, hg2⟩ := hA.val 3 62 (by kernel_rfl) (by kernel_rfl)
      obtain ⟨W2, hr, hl2, hg3⟩ := append_lb (hA.ph.lb) HM.out.1 HM.out.2 hg2.c1
      refine opValue (v := .slice (some ⟨y, 0, none⟩) (pre.length + 1) m) none 0 rfl rfl (fun c hc => by cases hc) (W' := W2) (by simp [execOp, resolve, invoke, builtin, Act.eval, e60, e62, hr, Result.andThen]) ?_
      refine hK _ _ rfl (Keep.of_grown hg3 HZ.out) ?_
      have h10 : li.getD 10 false = false := by
        cases h : li.getD 10 false with
        | false => rfl
        | true => have := hA.past (hA.past (hA.past h 6 (by kernel_rfl)) 5 (by kernel_rfl)) 4 (by kernel_rfl); rw [hA.new] at this; cases this
      have h15 : li.getD 15 false = false := by
        cases h : li.getD 15 false with
        | false => rfl
        | true => have := hA.past h 10 (by kernel_rfl); rw [h10] at this; cases this
      exact hA.ph.app_lo h15 HE.out HJ.out HZ.out hg3 hl2
    · -- 5: Op.call { value t59, args := #[t63], argTypes := #[56] }
      intro li a1 W1 hA K hK
      have e59 : a1.tmps.getD 59 undef = .func (.func 96) #[] #[.pointer (some ⟨Bc, 0, none⟩), .pointer (some ⟨Bw, 0, none⟩), .pointer (some ⟨Br, 0, none⟩), .pointer (some ⟨By, 0, none⟩), .pointer (some ⟨Bh, 0, none⟩)] := hA.val 0 59 (by kernel_rfl) (by kernel_rfl)
      have e63 : a1.tmps.getD 63 undef = .slice (some ⟨y, 0, none⟩) (pre.length + 1) m := hA.val 4 63 (by kernel_rfl) (by kernel_rfl)
      obtain ⟨q1, q2, q3, q4, q5, q6, q7, q8⟩ := HF.out W1 hA.ph.env
      refine opStep none 0 rfl rfl (fun c hc => by cases hc) ?_
      have h10 : li.getD 10 false = false := by
        cases h : li.getD 10 false with
        | false => rfl
        | true => have := hA.past (hA.past h 6 (by kernel_rfl)) 5 (by kernel_rfl); rw [hA.new] at this; cases this
      have h15 : li.getD 15 false = false := by
        cases h : li.getD 15 false with
        | false => rfl
        | true => have := hA.past h 10 (by kernel_rfl); rw [h10] at this; cases this
      have h16 : li.getD 16 false = false := by
        cases h : li.getD 16 false with
        | false => rfl
        | true => have := hA.past h 10 (by kernel_rfl); rw [h10] at this; cases this
      have h4 := hA.has 4 (by kernel_rfl)
      have h5 := hA.new
      go_simp
      refine (HLq.out W1 hA.st hA.ph.env (hA.ph.lo h4 h5) (hA.ph.j0 h5)).mono ?_
      rintro e W2 ⟨rfl, j2, l2, v2, s2⟩
      exact hK _ _ rfl s2 (hA.ph.call_lo (by rw [hA.lsize]; decide) h15 h16 v2 l2.shrink j2)
    · -- 6: Op.move t64
      intro li a1 W1 hA K hK
      have e64 : a1.tmps.getD 64 undef = .bool true := hA.val 5 64 (by kernel_rfl) (by kernel_rfl)
      obtain ⟨q1, q2, q3, q4, q5, q6, q7, q8⟩ := HF.out W1 hA.ph.env
      refine opStep none 0 rfl rfl (fun c hc => by cases hc) ?_
      go_simp
      exact hK _ _ rfl (Keep.refl _ _) (hA.ph.other (by decide) (by decide) (by decide) (by decide))
    · -- 7: Op.move t9
      intro li a1 W1 hA K hK
      have e9 := hA.par 9 (by kernel_rfl)
      obtain ⟨q1, q2, q3, q4, q5, q6, q7, q8⟩ := HF.out W1 hA.ph.env
      refine opStep none 0 rfl (wanted_yes rfl (show dstB _ 6 65 = true by kernel_rfl) (hA.val 6 65 (by kernel_rfl) (by kernel_rfl))) (fun c hc => by cases hc) ?_
      go_simp
      exact hK _ _ rfl (Keep.refl _ _) (hA.ph.other (by decide) (by decide) (by decide) (by decide))
    · -- 8: Op.move t10
      intro li a1 W1 hA K hK
      have e10 := hA.par 10 (by kernel_rfl)
      obtain ⟨q1, q2, q3, q4, q5, q6, q7, q8⟩ := HF.out W1 hA.ph.env
      refine opStep none 0 rfl (wanted_yes rfl (show dstB _ 6 65 = true by kernel_rfl) (hA.val 6 65 (by kernel_rfl) (by kernel_rfl))) (fun c hc => by cases hc) ?_
      go_simp
      exact hK _ _ rfl (Keep.refl _ _) (hA.ph.other (by decide) (by decide) (by decide) (by decide))
    · -- 9: Op.binOp BinOp.eql 3 t66 t67 3
      intro li a1 W1 hA K hK
      have e66 : a1.tmps.getD 66 undef = .int .i64 lo := hA.val 7 66 (by kernel_rfl) (by kernel_rfl)
      have e67 : a1.tmps.getD 67 undef = .int .i64 hi := hA.val 8 67 (by kernel_rfl) (by kernel_rfl)
      obtain ⟨q1, q2, q3, q4, q5, q6, q7, q8⟩ := HF.out W1 hA.ph.env
      refine opStep none 0 rfl (wanted_yes rfl (show dstB _ 6 65 = true by kernel_rfl) (hA.val 6 65 (by kernel_rfl) (by kernel_rfl))) (fun c hc => by cases hc) ?_
      have hsm := HS.out
      go_simp
      exact hK _ _ rfl (Keep.refl _ _) (hA.ph.other (by decide) (by decide) (by decide) (by decide))
    · -- 10: Op.move t68
      intro li a1 W1 hA K hK
      have e68 : a1.tmps.getD 68 undef = .bool false := hA.val 9 68 (by kernel_rfl) (by kernel_rfl)
      obtain ⟨q1, q2, q3, q4, q5, q6, q7, q8⟩ := HF.out W1 hA.ph.env
      refine opStep none 0 rfl (wanted_yes rfl (show dstB _ 6 65 = true by kernel_rfl) (hA.val 6 65 (by kernel_rfl) (by kernel_rfl))) (fun c hc => by cases hc) ?_
      go_simp
      exact hK _ _ rfl (Keep.refl _ _) (hA.ph.other (by decide) (by decide) (by decide) (by decide))
    · -- 11: Op.load 118 t5
      intro li a1 W1 hA K hK
      have e5 := hA.par 5 (by kernel_rfl)
      obtain ⟨q1, q2, q3, q4, q5, q6, q7, q8⟩ := HF.out W1 hA.ph.env
      refine opStep none 0 rfl (wanted_yes rfl (show dstB _ 10 69 = true by kernel_rfl) (hA.val 10 69 (by kernel_rfl) (by kernel_rfl))) (fun c hc => by cases hc) ?_
      go_simp
      exact hK _ _ rfl (Keep.refl _ _) (hA.ph.other (by decide) (by decide) (by decide) (by decide))
    · -- 12: Op.move t0
      intro li a1 W1 hA K hK
      have e0 := hA.par 0 (by kernel_rfl)
      obtain ⟨q1, q2, q3, q4, q5, q6, q7, q8⟩ := HF.out W1 hA.ph.env
      refine opStep none 0 rfl (wanted_yes rfl (show dstB _ 10 69 = true by kernel_rfl) (hA.val 10 69 (by kernel_rfl) (by kernel_rfl))) (fun c hc => by cases hc) ?_
      go_simp
      exact hK _ _ rfl (Keep.refl _ _) (hA.ph.other (by decide) (by decide) (by decide) (by decide))
    · -- 13: Op.move t10
      intro li a1 W1 hA K hK
      have e10 := hA.par 10 (by kernel_rfl)
      obtain ⟨q1, q2, q3, q4, q5, q6, q7, q8⟩ := HF.out W1 hA.ph.env
      refine opStep none 0 rfl (wanted_yes rfl (show dstB _ 10 69 = true by kernel_rfl) (hA.val 10 69 (by kernel_rfl) (by kernel_rfl))) (fun c hc => by cases hc) ?_
      go_simp
      exact hK _ _ rfl (Keep.refl _ _) (hA.ph.other (by decide) (by decide) (by decide) (by decide))
    · -- 14: Op.buildSlice 56 1 #[(0, t72)]
      intro li a1 W1 hA K hK
      have e72 : a1.tmps.getD 72 undef = .int .i64 hi := hA.val 13 72 (by kernel_rfl) (by kernel_rfl)
      obtain ⟨q1, q2, q3, q4, q5, q6, q7, q8⟩ := HF.out W1 hA.ph.env
      refine opStep none 0 rfl (wanted_yes rfl (show dstB _ 10 69 = true by kernel_rfl) (hA.val 10 69 (by kernel_rfl) (by kernel_rfl))) (fun c hc => by cases hc) ?_
      have e72' := e72
      rw [Array.getD_eq_getD_getElem?] at e72'
      go_simp
      refine hK _ _ ⟨_, rfl, Nat.le_trans HSZ.out hA.st.size, Blk.new _ _ _⟩ (Keep.of_below _ ((Below.refl _ _).alloc (Nat.le_refl _) _)) ?_
      exact (hA.ph.other (by decide) (by decide) (by decide) (by decide)).below HE.out HJ.out ((Below.refl _ _).alloc (Nat.le_refl _) _)
    · -- 15: Op.call { builtin append, args := #[t71, t73], argTypes := #[56, 56] }
      intro li a1 W1 hA K hK
      have e71 : a1.tmps.getD 71 undef = .slice (some ⟨y, 0, none⟩) pre.length m := hA.val 12 71 (by kernel_rfl) (by kernel_rfl)
      have e73 := hA.val 14 73 (by kernel_rfl) (by kernel_rfl)
      obtain ⟨q1, q2, q3, q4, q5, q6, q7, q8⟩ := HF.out W1 hA.ph.env
      -- raw
      obtain ⟨g, e73, hg1, hg2⟩ := hA.val 14 73 (by kernel_rfl) (by kernel_rfl)
      obtain ⟨W2, hr, hl2, hg3⟩ := append_lb (hA.ph.lb) HM.out.1 HM.out.2 hg2.c1
      refine opValue (v := .slice (some ⟨y, 0, none⟩) (pre.length + 1) m) none 0 rfl (wanted_yes rfl (show dstB _ 10 69 = true by kernel_rfl) (hA.val 10 69 (by kernel_rfl) (by kernel_rfl))) (fun c hc => by cases hc) (W' := W2) (by simp [execOp, resolve, invoke, builtin, Act.eval, e71, e73, hr, Result.andThen]) ?_
      refine hK _ _ rfl (Keep.of_grown hg3 HZ.out) ?_
      have h5 := hA.past (hA.past (hA.has 10 (by kernel_rfl)) 6 (by kernel_rfl)) 5 (by kernel_rfl)
      exact hA.ph.app_hi h5 HE.out HJ.out HZ.out hg3 hl2
    · -- 16: Op.call { value t70, args := #[t74], argTypes := #[56] }
      intro li a1 W1 hA K hK
      have e70 : a1.tmps.getD 70 undef = .func (.func 96) #[] #[.pointer (some ⟨Bc, 0, none⟩), .pointer (some ⟨Bw, 0, none⟩), .pointer (some ⟨Br, 0, none⟩), .pointer (some ⟨By, 0, none⟩), .pointer (some ⟨Bh, 0, none⟩)] := hA.val 11 70 (by kernel_rfl) (by kernel_rfl)
      have e74 : a1.tmps.getD 74 undef = .slice (some ⟨y, 0, none⟩) (pre.length + 1) m := hA.val 15 74 (by kernel_rfl) (by kernel_rfl)
      obtain ⟨q1, q2, q3, q4, q5, q6, q7, q8⟩ := HF.out W1 hA.ph.env
      refine opStep none 0 rfl (wanted_yes rfl (show dstB _ 10 69 = true by kernel_rfl) (hA.val 10 69 (by kernel_rfl) (by kernel_rfl))) (fun c hc => by cases hc) ?_
      have h5 := hA.past (hA.past (hA.has 10 (by kernel_rfl)) 6 (by kernel_rfl)) 5 (by kernel_rfl)
      have h15 := hA.has 15 (by kernel_rfl)
      have h16 := hA.new
      go_simp
      refine (HHq.out W1 hA.st hA.ph.env (hA.ph.hi rfl h15 h16) (hA.ph.j1 h5 (.inr h16))).mono ?_
      rintro e W2 ⟨rfl, j2, l2, v2, s2⟩
      exact hK _ _ rfl s2 (hA.ph.call_hi (by rw [hA.lsize]; decide) h5 v2 l2.shrink j2)
    · -- 17: Op.pick t69 (const (Value.bool true)) t75
      intro li a1 W1 hA K hK
      have e69 : a1.tmps.getD 69 undef = .bool false := hA.val 10 69 (by kernel_rfl) (by kernel_rfl)
      have e75 : a1.tmps.getD 75 undef = .bool true := hA.val 16 75 (by kernel_rfl) (by kernel_rfl)
      obtain ⟨q1, q2, q3, q4, q5, q6, q7, q8⟩ := HF.out W1 hA.ph.env
      refine opStep none 0 rfl (wanted_yes rfl (show dstB _ 6 65 = true by kernel_rfl) (hA.val 6 65 (by kernel_rfl) (by kernel_rfl))) (fun c hc => by cases hc) ?_
      go_simp
      exact hK _ _ rfl (Keep.refl _ _) (hA.ph.other (by decide) (by decide) (by decide) (by decide))
    · -- 18: Op.pick t65 t76 (const (Value.bool false))
      intro li a1 W1 hA K hK
      have e65 : a1.tmps.getD 65 undef = .bool true := hA.val 6 65 (by kernel_rfl) (by kernel_rfl)
      have e76 : a1.tmps.getD 76 undef = .bool true := hA.val 17 76 (by kernel_rfl) (by kernel_rfl)
      obtain ⟨q1, q2, q3, q4, q5, q6, q7, q8⟩ := HF.out W1 hA.ph.env
      refine opStep none 0 rfl rfl (fun c hc => by cases hc) ?_
      go_simp
      exact hK _ _ rfl (Keep.refl _ _) (hA.ph.other (by decide) (by decide) (by decide) (by decide))
  · intro li a1 W1 hD
    have e77 : a1.tmps.getD 77 undef = .bool true := hD.val 18 77 (by kernel_rfl) (by kernel_rfl)
    have hs : a1.tmps.size = 78 := hD.size
    have hd : a1.defers = [] := hD.defers
    have HR := hid (show J kb W1 ∧ LB W1 y m pre ∧ Env Bc Bw Br By Bh P l n A0 c0 cells row b At ct nt Af cf fs mp W1 ∧ Keep Z W W1 from ⟨hD.ph.j2 rfl (hD.all 16 (by decide)), hD.ph.lb, hD.ph.env.1, HS3.out.trans hD.st⟩)
    clear hD HF HE HJ HX HLq HP HS HZ HM HS3 HSZ HHq
    refine tail_val (i := 19) (W' := W1) (v := .bool true) none 0 rfl rfl rfl (fun c hc => by cases hc) (by go_simp) (by rw [hs]; decide) ?_
    intro a4 s4 d4 f7 _
    replace hd := d4.trans hd
    clear s4 d4 hs e77
    refine wpListIn_nil ?_
    go_wp2
    exact bodyPost_ret (v := .bool true) ((results_tmp Tryz.results96 _ _ _).trans (by rw [f7])) hd ⟨rfl, HR.out⟩
end Go.Proofs.YtlnamjhgbdacbaaGreat
/- choose, whole: what it yields, in which order. -/
namespace Go.Proofs.YtlnamjhgbdacbaaGreat
open Go.RowKit Go.Shelf

theorem lowOf_bound {b n : Int} (hb : 2 ≤ b) (hn : 0 ≤ n) : 0 ≤ lowOf b n ∧ lowOf b n ≤ n := by
  have h1 := Int.emod_nonneg n (show b ≠ 0 by omega)
  have h2 : n % b ≤ n := by
    have := Int.emod_add_mul_ediv n b
    have h3 : 0 ≤ n / b := Int.ediv_nonneg hn (by omega)
    have h4 : 0 ≤ b * (n / b) := Int.mul_nonneg (by omega) h3
    omega
  unfold lowOf
  omega
theorem highOf_bound {b n : Int} (hb : 2 ≤ b) (hn : 0 ≤ n) : 0 ≤ highOf b n ∧ highOf b n ≤ n + b - 1 := lowOf_bound hb (by omega)

theorem yield_mono {F : Fence} {m : Nat} {P : Program} {l : Nat} {args : Array Value} {W : World} {R R' : Ending → World → Prop} (h : YieldAt F m P l args W R) (hr : ∀ e w, R e w → R' e w) : YieldAt F m P l args W R' := by
  obtain ⟨fn, tmps, assign, body, h1, h2⟩ := h
  exact ⟨fn, tmps, assign, body, h1, h2.mono hr⟩

theorem choose_all {Bc Bw Br By Bh P l n : Nat} {A0 : Option Addr} {c0 : Nat} {cells : List Int} {row b : Int} {At : Option Addr} {ct nt : Nat} {Af : Option Addr} {cf : Nat} {fs : List Fx} {mp : Value}
    {y base : Nat} {X : Nat → Prop} {J : Nat → World → Prop} (all : List (List Int)) (ok : RowOk cells b fs) (hyb : y < base) (hny : n ≤ y)
    (hX : ∀ k, X k → n ≤ k ∧ k < base ∧ k ≠ Bc ∧ k ≠ Bw ∧ k ≠ Br ∧ k ≠ By ∧ k ≠ Bh ∧ k ≠ P ∧ k ≠ y) (hyy : y ≠ Bc ∧ y ≠ Bw ∧ y ≠ Br ∧ y ≠ By ∧ y ≠ Bh ∧ y ≠ P)
    (hJ : ∀ k W1 W2, J k W1 → W1.grownBy W2 (some y) → J k W2)
    (hy : ∀ k x A c W1, base ≤ W1.heap.size → all[k]? = some x → J k W1 → IsInts W1 W1.heap.size A x → (∀ a, A = some a → base ≤ a.block ∧ ∃ cs, Blk W1 a.block 3 cs) → x.length ≤ c → c ≤ maxLen → (A = none → c = 0) →
      YieldAt (FW none) 0 Tryz.prog l #[.slice A x.length c] W1 fun e W2 => e = .returned (.bool true) ∧ J (k + 1) W2 ∧ Keep X W1 W2) :
    ∀ (rest pre : List Int) (k : Nat) (W : World), cells.drop pre.length = rest → pre.length + rest.length = cells.length → (∀ x ∈ pre, 0 ≤ x ∧ x ≤ 10100) → base ≤ W.heap.size →
      Env Bc Bw Br By Bh P l n A0 c0 cells row b At ct nt Af cf fs mp W → LB W y cells.length pre → J k W → (∀ i x, (outs b cells fs row pre rest)[i]? = some x → all[k + i]? = some x) →
      Calls Tryz.prog 96 #[.slice (some ⟨y, 0, none⟩) pre.length cells.length, .pointer (some ⟨Bc, 0, none⟩), .pointer (some ⟨Bw, 0, none⟩), .pointer (some ⟨Br, 0, none⟩), .pointer (some ⟨By, 0, none⟩), .pointer (some ⟨Bh, 0, none⟩)] W fun e W' =>
        e = .returned (.bool true) ∧ J (k + (outs b cells fs row pre rest).length) W' ∧ LB W' y cells.length pre ∧ Env Bc Bw Br By Bh P l n A0 c0 cells row b At ct nt Af cf fs mp W' ∧ Keep (fun k => X k ∨ k = y) W W' := by
  have hZenv : ∀ (Z : Nat → Prop), (∀ k, Z k → X k ∨ k = y) → ∀ W1 W2, Env Bc Bw Br By Bh P l n A0 c0 cells row b At ct nt Af cf fs mp W1 → Keep Z W1 W2 → Env Bc Bw Br By Bh P l n A0 c0 cells row b At ct nt Af cf fs mp W2 := by
    intro Z hz W1 W2 he hk
    have hne : ∀ g, (g = Bc ∨ g = Bw ∨ g = Br ∨ g = By ∨ g = Bh ∨ g = P) → ¬ Z g := by
      intro g hg hzg
      rcases hz g hzg with h | rfl
      · have := hX g h; omega
      · omega
    exact he.keep hk (hne _ (by simp)) (hne _ (by simp)) (hne _ (by simp)) (hne _ (by simp)) (hne _ (by simp)) (hne _ (by simp)) (fun k hk => by
      rcases hz k hk with h | rfl
      · exact (hX k h).1
      · exact hny)
  intro rest
  induction rest with
  | nil =>
    intro pre k W hdrop hlen hpre hbW he hlb hj hall
    have hlen' : pre.length = cells.length := by simpa using hlen
    rw [outs_nil] at hall ⊢
    cases ht : testB b cells fs row pre with
    | true =>
      rw [ht] at hall
      simp only [if_true] at hall ⊢
      have h12 : nearB b pre.sum cells.sum = true ∧ holdsB fs row pre = true := by simpa [testB] using ht
      refine choose_take he (by omega) hlb hlen' ok hpre h12.1 h12.2 ?_
      intro A c W1 hb1 hi ha hc1 hc2 hc3
      refine yield_mono (hy k pre A c W1 (by have := hb1.size; omega) (by simpa using hall 0 pre rfl) (hJ _ _ _ hj (grown_of_below hb1 _)) hi (fun a e => ⟨Nat.le_trans hbW (ha a e).1, (ha a e).2⟩) hc1 hc2 hc3) ?_
      rintro e W2 ⟨rfl, hj2, hk2⟩
      have hk3 : Keep (fun k => X k ∨ k = y) W W2 := (Keep.of_below _ hb1).trans (hk2.mono fun _ h => .inl h)
      exact ⟨rfl, rfl, hj2, (hlb.below hb1).keep hk2 (fun h => absurd rfl (hX y h).2.2.2.2.2.2.2.2), hZenv _ (fun _ h => h) _ _ he hk3, hk3⟩
    | false =>
      simp only [Bool.false_eq_true, if_false]
      refine (choose_drop he (by omega) hlb hlen' ok hpre ht).mono ?_
      rintro e W2 ⟨rfl, hb2⟩
      exact ⟨rfl, hJ _ _ _ hj (grown_of_below hb2 _), hlb.below hb2, he.below hb2 (by omega), Keep.of_below _ hb2⟩
  | cons n0 ns ih =>
    intro pre k W hdrop hlen hpre hbW he hlb hj hall
    simp only [List.length_cons] at hlen
    have hn0 : cells[pre.length]? = some n0 := by
      have : (cells.drop pre.length)[0]? = some n0 := by rw [hdrop]; rfl
      simpa using this
    have hdrop' : ∀ v : Int, cells.drop (pre ++ [v]).length = ns := fun v => by
      rw [List.length_append, List.length_singleton, ← List.drop_drop, hdrop]; rfl
    have hlen' : ∀ v : Int, (pre ++ [v]).length + ns.length = cells.length := fun v => by simp; omega
    obtain ⟨x0, x1⟩ := ok.cell n0 (List.mem_of_getElem? hn0)
    have hb1 := ok.b1
    have hb2 := ok.b2
    have hpre' : ∀ v : Int, 0 ≤ v → v ≤ 10100 → ∀ x ∈ pre ++ [v], 0 ≤ x ∧ x ≤ 10100 := fun v v1 v2 x hx => by
      rcases List.mem_append.1 hx with h | h
      · exact hpre x h
      · obtain rfl := List.mem_singleton.1 h; exact ⟨v1, v2⟩
    have bl := lowOf_bound hb1 x0
    have bh := highOf_bound hb1 x0
    have l2 := ok.l2
    have hml : pre.length < cells.length ∧ cells.length ≤ maxLen := ⟨by omega, by simp only [maxLen]; omega⟩
    have hXg : ∀ g, W.heap.size ≤ g → ¬ (X g ∨ g = y) := by
      intro g hg h
      rcases h with h | rfl
      · have := hX g h; omega
      · omega
    have hEE : ∀ W1 W2, (Env Bc Bw Br By Bh P l n A0 c0 cells row b At ct nt Af cf fs mp W1 ∧ W.heap.size ≤ W1.heap.size) → Keep (fun k => X k ∨ k = y) W1 W2 → (Env Bc Bw Br By Bh P l n A0 c0 cells row b At ct nt Af cf fs mp W2 ∧ W.heap.size ≤ W2.heap.size) :=
      fun W1 W2 h1 h2 => ⟨hZenv _ (fun _ h => h) _ _ h1.1 h2, Nat.le_trans h1.2 h2.size⟩
    rw [outs_cons] at hall ⊢
    have hLow : ∀ W1, Keep (fun k => X k ∨ k = y) W W1 → (Env Bc Bw Br By Bh P l n A0 c0 cells row b At ct nt Af cf fs mp W1 ∧ W.heap.size ≤ W1.heap.size) → LB W1 y cells.length (pre ++ [lowOf b n0]) → J k W1 → _ :=
      fun W1 hk1 he1 hl1 hj1 => ih (pre ++ [lowOf b n0]) k W1 (hdrop' _) (hlen' _) (hpre' _ bl.1 (by omega)) (Nat.le_trans hbW he1.2) he1.1 hl1 hj1 (fun i x hi => hall i x (by rw [List.getElem?_append_left (List.getElem?_eq_some_iff.1 hi).1]; exact hi))
    rw [List.length_append, List.length_singleton] at hLow
    cases hsm : (lowOf b n0 == highOf b n0) with
    | true =>
      rw [hsm] at hall
      simp only [if_true, List.append_nil] at hall ⊢
      refine choose_one (ka := k + (outs b cells fs row (pre ++ [lowOf b n0]) ns).length) (kb := 0) (Z := fun k => X k ∨ k = y) he (by omega) hlb hn0 hml ok rfl rfl hsm (.inr rfl) hXg hEE hJ hj ?_
      intro W1 hk1 he1 hl1 hj1
      refine (hLow W1 hk1 he1 hl1 hj1).mono ?_
      rintro e W2 ⟨rfl, hj2, hl2, he2, hk2⟩
      exact ⟨rfl, hj2, hl2, ⟨he2, Nat.le_trans he1.2 hk2.size⟩, hk2⟩
    | false =>
      rw [hsm] at hall
      simp only [Bool.false_eq_true, if_false] at hall ⊢
      rw [List.length_append, ← Nat.add_assoc]
      refine choose_two (ka := k + (outs b cells fs row (pre ++ [lowOf b n0]) ns).length) (kb := k + (outs b cells fs row (pre ++ [lowOf b n0]) ns).length + (outs b cells fs row (pre ++ [highOf b n0]) ns).length) (Z := fun k => X k ∨ k = y) he (by omega) hlb hn0 hml ok rfl rfl hsm (.inr rfl) hXg hEE hJ hj ?_ ?_
      · intro W1 hk1 he1 hl1 hj1
        refine (hLow W1 hk1 he1 hl1 hj1).mono ?_
        rintro e W2 ⟨rfl, hj2, hl2, he2, hk2⟩
        exact ⟨rfl, hj2, hl2, ⟨he2, Nat.le_trans he1.2 hk2.size⟩, hk2⟩
      · intro W1 hk1 he1 hl1 hj1
        have := ih (pre ++ [highOf b n0]) (k + (outs b cells fs row (pre ++ [lowOf b n0]) ns).length) W1 (hdrop' _) (hlen' _) (hpre' _ bh.1 (by omega)) (Nat.le_trans hbW he1.2) he1.1 hl1 hj1 (fun i x hi => by
          rw [Nat.add_assoc]
          refine hall _ x ?_
          rw [List.getElem?_append_right (by omega), Nat.add_sub_cancel_left]
          exact hi)
        rw [List.length_append, List.length_singleton] at this
        refine this.mono ?_
        rintro e W2 ⟨rfl, hj2, hl2, he2, hk2⟩
        exact ⟨rfl, hj2, hl2, ⟨he2, Nat.le_trans he1.2 hk2.size⟩, hk2⟩
end Go.Proofs.YtlnamjhgbdacbaaGreat
/- choices: the iterator's contract. -/
namespace Go.Proofs.YtlnamjhgbdacbaaGreat
open Go.RowKit Go.Shelf

theorem Keep.old {X : Nat → Prop} {y : Nat} {W W5 W' : World} (hb : Below W.heap.size W W5) (h : Keep (fun k => X k ∨ k = y) W5 W') (hy : W.heap.size ≤ y) : Keep X W W' :=
  ⟨h.os.trans hb.os, h.tape.trans hb.tape, h.output.trans hb.output, Nat.le_trans hb.size h.size, fun k cs t fr hk hx => h.cells k cs t fr ((hb.block k (Array.getElem?_eq_some_iff.1 hk).1).trans hk) (fun e => by
    rcases e with e | e
    · exact hx e
    · have := (Array.getElem?_eq_some_iff.1 hk).1; omega)⟩

set_option maxRecDepth 100000 in
set_option maxHeartbeats 4000000 in
theorem choices1_any {Gw Gr P n : Nat} {b : Int} {At : Option Addr} {ct : Nat} {Af : Option Addr} {cf : Nat} {fs : List Fx} {mp : Value} {cs : List (List Int)} {r : Nat} {cells : List Int} {X : Nat → Prop} {w0 : World}
    (hw : Blk w0 Gw 94 #[.pointer (some ⟨P, 0, none⟩)]) (hr : Blk w0 Gr 3 #[.int .i64 r]) (hp : Blk w0 P 143 #[.int .i64 b, .slice At cs.length ct, .slice Af fs.length cf, mp])
    (hn : n ≤ w0.heap.size) (hc : IsRows w0 n At cs) (hf : IsFixes w0 n Af fs) (hrow : cs[r]? = some cells) (ok : RowOk cells b fs) (hX : ∀ k, X k → n ≤ k ∧ k < w0.heap.size ∧ k ≠ Gw ∧ k ≠ Gr ∧ k ≠ P) :
    SeqC 95 #[.pointer (some ⟨Gw, 0, none⟩), .pointer (some ⟨Gr, 0, none⟩)] (outs b cells fs r [] cells) X w0 := by
  intro l J W hb hJ hy hj
  refine callsFW none 0 ?_
  have hw' := hw.keep hb; have hr' := hr.keep hb; have hp' := hp.keep hb
  have hc' := hc.below (hb.mono hn); have hf' := hf.below (hb.mono hn)
  obtain ⟨a, A', c, rfl, ha1, ha2, ha3, ha4, ha5⟩ := hc' r cells hrow
  have hrl := (List.getElem?_eq_some_iff.1 hrow).1
  have hri : (r : Int) < (cs.length : Int) := by omega
  have k1 := hw'.c1; have k2 := hr'.c1
  obtain ⟨p0, p1, p2, p3⟩ := hp'.c4
  have hlt1 := hw'.lt; have hlt2 := hr'.lt; have hlt3 := hp'.lt
  have hlt4 : a.block < W.heap.size := by have := hb.size; omega
  have hBS := hid hb.size
  have H := hid (And.intro hw' (And.intro hr' (And.intro hp' (And.intro ha5 (And.intro hf' (And.intro hJ (And.intro hy (And.intro hj (And.intro hX (And.intro ok hn))))))))))
  clear hw hr hp hw' hr' hp' ha5 hf' hJ hy hj hX ok hc hf hc' hb ha1 hn hrow
  go_enter Tryz.func95, Tryz.ntmps95
  go_wp2
  have q1 : ∀ o, (W.alloc o).cell? (a.add r) = some (.slice A' cells.length c) := fun o => (((Below.refl _ _).alloc (Nat.le_refl _) _).cell (by rw [block_of_add]; exact hlt4)).trans ha2
  have q2 : ∀ o o', ((W.alloc o).alloc o').cell? (a.add r) = some (.slice A' cells.length c) := fun o o' => ((((Below.refl _ _).alloc (Nat.le_refl _) _).alloc (by simp) _).cell (by rw [block_of_add]; exact hlt4)).trans ha2
  go_region
  refine gen (p := Exit.then _ _ .normal _) (fun W1 => Below W.heap.size W W1 ∧ Blk W1 W.heap.size 129 #[.func (.yield l) #[] #[]] ∧ Blk W1 (W.heap.size + 1) 22 #[.slice A' cells.length c]) ⟨?_, ?_, ?_⟩ ?_
  · exact (((Below.refl _ _).alloc (Nat.le_refl _) _).alloc (by simp) _).drew
  · exact ((Blk.new _ _ _).alloc _).drew
  · have := (Blk.new (W.alloc (.cells #[.func (.yield l) #[] #[]] 129)) 22 #[.slice A' cells.length c]).drew
    rwa [World.size_alloc] at this
  rintro W1 ⟨hb1, hy1, hc1⟩
  clear q1 q2 ha2 ha3 ha4 p0 p1 p2 p3 k1 k2 hlt4 hri
  have hz1 := hc1.lt
  go_wp2
  refine gen (p := Code.wp _ _ _ _) (fun W4 => Below W1.heap.size W1 W4 ∧ Blk W4 W1.heap.size 129 #[.func (.func 96) #[] #[.pointer (some ⟨W.heap.size + 1, 0, none⟩), .pointer (some ⟨Gw, 0, none⟩), .pointer (some ⟨Gr, 0, none⟩), .pointer (some ⟨W.heap.size, 0, none⟩), .pointer (some ⟨W1.heap.size, 0, none⟩)]]) ⟨(Below.refl _ _).alloc (Nat.le_refl _) _, Blk.new _ _ _⟩ ?_
  rintro W4 ⟨hb4, hh4⟩
  have hy4 := hy1.keep hb4
  have hc4 := hc1.keep hb4
  have hbw := hb1.trans (hb4.mono hb1.size)
  have hlh := hh4.lt
  obtain ⟨Bw, Br, Bp, Bi, Bf, hJ, hy, hj, hX, ok, hn⟩ := H.out
  have hBSo := hBS.out
  have hEnv : Env (W.heap.size + 1) Gw Gr W.heap.size W1.heap.size P l n A' c cells r b (some a) ct cs.length Af cf fs mp W4 :=
    ⟨hc4, Bw.keep hbw, Br.keep hbw, hy4, hh4, Bp.keep hbw, Bi.below (hbw.mono (by omega)), Bf.below (hbw.mono (by omega))⟩
  have HE := hid hEnv
  have HB := hid hbw
  have HZ := hid (And.intro hz1 (And.intro hlh (And.intro hlt1 (And.intro hlt2 hlt3))))
  have HK := hid (And.intro hJ (And.intro hy (And.intro hj (And.intro hX (And.intro ok hn)))))
  obtain ⟨i0, hi0, hz0, hz01, hz02⟩ := info_parts int_info
  have HI := hid (And.intro hi0 (And.intro hz0 (And.intro hz01 hz02)))
  clear hb4 hh4 hy4 hc4 hbw hlh Bw Br Bp Bi Bf hJ hy hj hX ok hn hEnv hz1 hlt1 hlt2 hlt3 H hb1 hy1 hc1 hi0 hz0 hz01 hz02 hrl hBSo
  refine (wpIn_wide (n := 0)).1 ?_
  refine wpIn_region_each 4 (fun i v W' => match i with
      | 0 => v = .func (.func 96) #[] #[.pointer (some ⟨W.heap.size + 1, 0, none⟩), .pointer (some ⟨Gw, 0, none⟩), .pointer (some ⟨Gr, 0, none⟩), .pointer (some ⟨W.heap.size, 0, none⟩), .pointer (some ⟨W1.heap.size, 0, none⟩)]
      | 1 => v = .slice A' cells.length c
      | 2 => v = .int .i64 cells.length
      | 3 => ∃ y, v = .slice (some ⟨y, 0, none⟩) 0 cells.length ∧ W4.heap.size ≤ y ∧ LB W' y cells.length []
      | _ => True) (fun W1 W2 => Below W1.heap.size W1 W2) (fun _ _ => True) (by kernel_rfl) (by kernel_rfl) ?_ (fun h k => h.trans (k.mono h.size)) ⟨rfl, rfl, rfl, Nat.le_refl _, fun _ _ => rfl⟩ trivial (by kernel_rfl) ?_ ?_
  · intro i v W1 W2 hb h
    match i, h with
    | 0, h => exact h
    | 1, h => exact h
    | 2, h => exact h
    | 3, h =>
      obtain ⟨y, rfl, h1, h2⟩ := h
      exact ⟨y, rfl, h1, h2.below hb⟩
    | i + 4, h => trivial
  · refine ⟨?_, ?_, ?_, ?_, trivial⟩
    · intro li a1 W5 hA K hK
      have e5 := hA.par 5 (by kernel_rfl)
      have q := ((HE.out.bh).keep hA.st).c1
      refine opStep none 0 rfl rfl (fun c hc => by cases hc) ?_
      go_simp
      exact hK _ _ rfl (Below.refl _ _) trivial
    · intro li a1 W5 hA K hK
      have e5 := hA.par 4 (by kernel_rfl)
      have q := ((HE.out.bc).keep hA.st).c1
      refine opStep none 0 rfl rfl (fun c hc => by cases hc) ?_
      go_simp
      exact hK _ _ rfl (Below.refl _ _) trivial
    · intro li a1 W5 hA K hK
      have e16 : a1.tmps.getD 16 undef = .slice A' cells.length c := hA.val 1 16 (by kernel_rfl) (by kernel_rfl)
      refine opStep none 0 rfl rfl (fun c hc => by cases hc) ?_
      go_simp
      exact hK _ _ rfl (Below.refl _ _) trivial
    · intro li a1 W5 hA K hK
      have e17 : a1.tmps.getD 17 undef = .int .i64 cells.length := hA.val 2 17 (by kernel_rfl) (by kernel_rfl)
      have hl2 := HK.out.2.2.2.2.1.l2
      obtain ⟨W6, hr, ho, hg⟩ := run_make_own (P := Tryz.prog) W5 W5.heap.size 22 3 i0 (.int .i64 0) 1 Tryz.underlying22 HI.out.1 HI.out.2.1 HI.out.2.2.1 .i64 .i64 cells.length (by rw [HI.out.2.2.2]; omega) (by simp only [maxLen]; omega) (Nat.le_refl _)
      refine opValue (v := .slice (some ⟨W5.heap.size, 0, none⟩) 0 cells.length) none 0 rfl rfl (fun c hc => by cases hc) (W' := W6) (by simp [execOp, Act.eval, e17, hr, Result.andThen]) ?_
      exact hK _ _ ⟨_, rfl, hA.st.size, LB.of_owns (pre := []) (by simpa using ho)⟩ ⟨hg.os, hg.tape, hg.output, hg.size, fun k hk => hg.block k hk (by simp)⟩ trivial
  · intro li a1 W5 hD
    have e15 : a1.tmps.getD 15 undef = .func (.func 96) #[] #[.pointer (some ⟨W.heap.size + 1, 0, none⟩), .pointer (some ⟨Gw, 0, none⟩), .pointer (some ⟨Gr, 0, none⟩), .pointer (some ⟨W.heap.size, 0, none⟩), .pointer (some ⟨W1.heap.size, 0, none⟩)] := hD.val 0 15 (by kernel_rfl) (by kernel_rfl)
    obtain ⟨y, e18, hy1, hy2⟩ := hD.val 3 18 (by kernel_rfl) (by kernel_rfl)
    have hd : a1.defers = [] := hD.defers
    refine tail_step (i := 4) rfl ?_
    refine opStep none 0 rfl rfl (fun c hc => by cases hc) ?_
    go_simp
    obtain ⟨hJ, hy, hj, hX, ok, hn⟩ := HK.out
    obtain ⟨z1, z2, z3, z4, z5⟩ := HZ.out
    have hBSo := HB.out.size
    have hBS0 := hBS.out
    have hyl := hy2.lt
    have hst := hD.st
    have hall : Below W.heap.size W W5 := HB.out.trans (hst.mono hBSo)
    have := choose_all (base := W5.heap.size) (y := y) (X := X) (J := J y) (outs b cells fs r [] cells) ok hyl (by omega) (fun k hk => by have := hX k hk; have := hst.size; omega) (by omega)
      (fun k W1 W2 h1 h2 => hJ y k W1 W2 (by omega) h1 h2) (fun k x A c W1 hb hx hj hi ha h1 h2 h3 => hy y k x A c W1 (by omega) (by omega) hx hj hi (fun a e => by have := (ha a e).1; have := hall.size; exact ⟨by omega, by omega, (ha a e).2⟩) h1 h2 h3)
      cells [] 0 W5 rfl (by simp) (fun x hx => by cases hx) (Nat.le_refl _) (HE.out.below hst (by omega)) hy2 (hJ y 0 W W5 (by omega) (hj y (by omega)) (grown_of_below hall _)) (fun i x hi => by simpa using hi)
    simp only [List.length_nil, Nat.zero_add] at this
    refine this.mono ?_
    rintro e W6 ⟨rfl, hj6, _, _, hk6⟩
    refine wpListIn_nil ?_
    exact ⟨rfl, _, results_none Tryz.results95 _ _ _, ⟨⟨_, rfl⟩, ⟨y, by omega, hj6⟩, hk6.old hall (by omega)⟩⟩
end Go.Proofs.YtlnamjhgbdacbaaGreat
/- A loop over such an iterator. -/
namespace Go.Proofs.YtlnamjhgbdacbaaGreat
open Go.RowKit Go.Shelf

theorem IsInts.grown {W W' : World} {n z : Nat} {A : Option Addr} {xs : List Int} (h : IsInts W n A xs) (hg : W.grownBy W' (some z)) (hz : (∀ a, A = some a → a.block ≠ z) ∨ ∃ o, W.heap[z]? = some o ∧ o.isCells = false) : IsInts W' n A xs := fun k x hk => by
  obtain ⟨a, e, hl, hc⟩ := h k x hk
  refine ⟨a, e, hl, ?_⟩
  have hlt := World.block_lt_of_cell? W _ hc
  have hne : (a.add k).block ≠ z := by
    rcases hz with hz | ⟨o, ho, hn⟩
    · rw [block_of_add]; exact hz a e
    · intro he
      unfold World.cell? at hc
      rw [he, ho] at hc
      cases o <;> simp_all [Obj.isCells]
  have := hg.block _ hlt (fun e => hne (by cases e; rfl))
  unfold World.cell? at hc ⊢
  rw [this]; exact hc
theorem Keep.of_other {Z : Nat → Prop} {W W' : World} {z : Nat} (h : W.grownBy W' (some z)) (hz : ∃ o, W.heap[z]? = some o ∧ o.isCells = false) : Keep Z W W' :=
  ⟨h.os, h.tape, h.output, h.size, fun i _ _ _ hi _ => (h.block i (Array.getElem?_eq_some_iff.1 hi).1 (fun e => by
    obtain ⟨o, ho, hn⟩ := hz
    cases e
    rw [ho] at hi
    cases hi
    cases hn)).trans hi⟩

@[go_sem] theorem FW_round (ro : Option Nat) : (FW ro).round = ro := rfl
@[go_sem] theorem FW_depth (ro : Option Nat) : (FW ro).depth = none := rfl

/-- what the body of the loop does -/
structure RoundOk (lo : Nat) (I : Nat → Nat → World → Prop) (X : Nat → Prop) (y k : Nat) (W : World) (e : Exit) (W' : World) : Prop where
  normal : e = .normal
  inv : I y (k + 1) W'
  keep : Keep X W W'
  mid : ∀ i, lo ≤ i → i < W.heap.size → W'.heap[i]? = W.heap[i]?

set_option maxHeartbeats 1000000 in
theorem wpIn_rangeFunc_seq {g : Operand} {p : Tmp} {assign body : Code} {Q : Exit → Act → World → Prop} {a : Act} {w : World} {gf : Nat} {lb : Array Value} (hg : a.eval g = .func (.func gf) #[] lb)
    (eg : ∀ args w, (callFunc gf args).run Tryz.prog w = .ok (.enter gf args) w) {xs : List (List Int)} {X : Nat → Prop} {w0 : World} (hseq : SeqC gf lb xs X w0) (hb0 : Below w0.heap.size w0 w)
    (I : Nat → Nat → World → Prop)
    (hI : ∀ y k W1 W2 z, w.heap.size ≤ y → w.heap.size ≤ z → I y k W1 → W1.grownBy W2 (some z) → (z = y ∨ ∃ o, W1.heap[z]? = some o ∧ o.isCells = false) → I y k W2)
    (h0 : ∀ y, w.heap.size ≤ y → I y 0 w) (q : Tmp)
    (hassign : ∀ (l : Nat) (v : Value) (W : World) (K : Act → World → Prop), K { tmps := (a.tmps.setIfInBounds p v).setIfInBounds q v, defers := [] } W → assign.wpIn (FW (some l)) 0 Tryz.prog (Exit.then K (fun _ _ _ => False)) { tmps := a.tmps.setIfInBounds p v, defers := [] } W)
    (hbody : ∀ (l y k : Nat) (x : List Int) (A : Option Addr) (c : Nat) (W : World), w.heap.size ≤ y → y < W.heap.size → xs[k]? = some x → I y k W → w.heap.size ≤ W.heap.size → IsInts W W.heap.size A x → (∀ a, A = some a → a.block ≠ y ∧ w.heap.size ≤ a.block ∧ ∃ cs, Blk W a.block 3 cs) → x.length ≤ c → c ≤ maxLen → (A = none → c = 0) →
      body.wpIn (FW (some l)) 0 Tryz.prog (fun e _ W' => RoundOk w.heap.size I X y k W e W') { tmps := (a.tmps.setIfInBounds p (.slice A x.length c)).setIfInBounds q (.slice A x.length c), defers := [] } W)
    (hdone : ∀ (D y : Nat) (W : World), w.heap.size ≤ D → w.heap.size ≤ y → I y xs.length W → Keep X w W → W.heap[D]? = some (.deferred (some [])) → Q .normal { a with defers := { target := .collected D, args := #[] } :: a.defers } W) :
    (Code.rangeFunc g #[p] assign body).wpIn (FW none) 0 Tryz.prog Q a w := by
  refine wpIn_rangeFunc ?_
  intro fn hfn
  obtain ⟨rec, hrec⟩ : ∃ rec : LoopState → Option Code → Loop, rec = fun st pe => { state := st, pending := pe, fn, tmps := a.tmps, params := #[p], assign, body, defers := w.heap.size } := ⟨_, rfl⟩
  obtain ⟨W1, hW1⟩ : ∃ W1, (w.alloc (.deferred (some []))).alloc (.loop (rec .ready none)) = W1 := ⟨_, rfl⟩
  have hL1 : W1.heap[w.heap.size + 1]? = some (.loop (rec .ready none)) := by
    rw [← hW1]; have := World.alloc_heap_new (w.alloc (.deferred (some []))) (.loop (rec .ready none)); rwa [World.size_alloc] at this
  have hK1 : W1.heap[w.heap.size]? = some (.deferred (some [])) := by
    rw [← hW1]; exact (Below.heap_alloc _ _ _ (by simp)).trans (World.alloc_heap_new w _)
  have hbw : Below w.heap.size w W1 := by rw [← hW1]; exact ((Below.refl _ w).alloc (Nat.le_refl _) _).alloc (by simp) _
  have hs1 : W1.heap.size = w.heap.size + 2 := by rw [← hW1]; simp
  have hb1 : Below w0.heap.size w0 W1 := hb0.trans (hbw.mono hb0.size)
  refine ⟨w.heap.size + 1, [{ target := .collected w.heap.size, args := #[] }], W1, { target := .fn (.func gf) lb, args := #[.func (.yield (w.heap.size + 1)) #[] #[]] }, W1, gf,
    #[.func (.yield (w.heap.size + 1)) #[] #[]] ++ lb, W1, ?_, ?_, ?_, ?_, fun h => (by simp [FW, Fence.wide] at h), ?_⟩
  · rw [← hW1, hrec]; exact run_enterLoop_outer _ _ _ _ _
  · simp only [resolve, hg]
    simp [go_sem]
  · intro f' hf'; exact trivial
  · simp [invoke, go_sem, eg]
  · refine (hseq (w.heap.size + 1)
      (fun y k W => I y k W ∧ W.heap[w.heap.size + 1]? = some (.loop (rec .ready none)) ∧ W.heap[w.heap.size]? = some (.deferred (some [])))
      W1 hb1
      (fun y k A B hy hs hg' => ⟨hI y k A B y (by omega) (by omega) hs.1 hg' (.inl rfl),
        (hg'.block _ (Array.getElem?_eq_some_iff.1 hs.2.1).1 (fun e => by cases e; omega)).trans hs.2.1, (hg'.block _ (Array.getElem?_eq_some_iff.1 hs.2.2).1 (fun e => by cases e; omega)).trans hs.2.2⟩)
      ?_ (fun y hy => ⟨hI y 0 w W1 y (by omega) (by omega) (h0 y (by omega)) (grown_of_below hbw _) (.inl rfl), hL1, hK1⟩)).mono ?_
    · rintro y k x A c W hyW hyl hx ⟨hi, hl, hk⟩ hints hay hc1 hc2 hc3
      have hlt : w.heap.size + 1 < W.heap.size := (Array.getElem?_eq_some_iff.1 hl).1
      have hy := run_yield (P := Tryz.prog) (args := #[.slice A x.length c]) hl (by rw [hrec]; rfl)
      rw [hrec] at hy
      refine ⟨fn, a.tmps.setIfInBounds p (.slice A x.length c), assign, body, by simpa using hy, roundIn_of_wpIn hfn (hassign (w.heap.size + 1) (.slice A x.length c) W _ ?_)⟩
      clear hy
      refine ⟨_, run_beginRound hl (by rw [hrec]), ?_⟩
      have hl2 : (W.putObj (w.heap.size + 1) (.loop { rec .ready none with state := .busy })).heap[w.heap.size + 1]? = some (.loop { rec .ready none with state := .busy }) := World.putObj_heap_same hlt
      have hk2 : (W.putObj (w.heap.size + 1) (.loop { rec .ready none with state := .busy })).heap[w.heap.size]? = some (.deferred (some [])) := (World.putObj_heap_other (by omega)).trans hk
      have hg2 := grownBy_putObj' W (w.heap.size + 1) (.loop { rec .ready none with state := .busy })
      have hn2 : ∃ o, W.heap[w.heap.size + 1]? = some o ∧ o.isCells = false := ⟨_, hl, rfl⟩
      have hi2 := hI y k _ _ _ (by omega) (by omega) hi hg2 (.inr hn2)
      have hx2 := (hints.grown hg2 (.inr hn2)).more hg2.size
      have hkp2 : Keep (fun _ => False) W _ := Keep.of_other hg2 hn2
      have hsz2 : w.heap.size + 1 < (W.putObj (w.heap.size + 1) (.loop { rec .ready none with state := .busy })).heap.size := Nat.lt_of_lt_of_le hlt hg2.size
      generalize W.putObj (w.heap.size + 1) (.loop { rec .ready none with state := .busy }) = W2 at *
      refine wpIn_mono (hbody (w.heap.size + 1) y k x A c W2 (by omega) (Nat.lt_of_lt_of_le hyl hkp2.size) hx hi2 (by omega) hx2 (fun a e => by have := hay a e; exact ⟨this.1, by omega, ex_of this.2.2 fun _ h => hkp2.cells _ _ _ _ h (fun h => h)⟩) hc1 hc2 hc3) ?_
      rintro e a3 W3 ⟨rfl, hi3, hkp3, hm3⟩
      have hl3 := (hm3 (w.heap.size + 1) (by omega) (by omega)).trans hl2
      have hk3 := (hm3 w.heap.size (Nat.le_refl _) (by omega)).trans hk2
      have hr := run_endRound (P := Tryz.prog) none hl3
      have hg4 := grownBy_putObj' W3 (w.heap.size + 1) (.loop (rec .ready none))
      have hn3 : ∃ o, W3.heap[w.heap.size + 1]? = some o ∧ o.isCells = false := ⟨_, hl3, rfl⟩
      have hl4 : (W3.putObj (w.heap.size + 1) (.loop (rec .ready none))).heap[w.heap.size + 1]? = some (.loop (rec .ready none)) := World.putObj_heap_same (Array.getElem?_eq_some_iff.1 hl3).1
      have hk4 : (W3.putObj (w.heap.size + 1) (.loop (rec .ready none))).heap[w.heap.size]? = some (.deferred (some [])) := (World.putObj_heap_other (by omega)).trans hk3
      refine ⟨.bool true, W3.putObj (w.heap.size + 1) (.loop (rec .ready none)), ?_, ?_⟩
      · rw [hrec] at hr ⊢; exact hr
      · exact ⟨rfl, ⟨hI y (k + 1) _ _ _ (by omega) (by omega) hi3 hg4 (.inr hn3), hl4, hk4⟩, ((hkp2.mono fun _ h => h.elim).trans hkp3).trans (Keep.of_other hg4 hn3)⟩
    · rintro e W2 ⟨⟨v, rfl⟩, ⟨y, hy, hi, hl, hk⟩, hkp⟩
      have hg2 := grownBy_putObj' W2 (w.heap.size + 1) (.loop { rec .ready none with state := .exhausted })
      have hn2 : ∃ o, W2.heap[w.heap.size + 1]? = some o ∧ o.isCells = false := ⟨_, hl, rfl⟩
      refine ⟨none, W2.putObj (w.heap.size + 1) (.loop { rec .ready none with state := .exhausted }), ?_, hdone w.heap.size y _ (Nat.le_refl _) (by omega) (hI y _ _ _ _ (by omega) (by omega) hi hg2 (.inr hn2)) (((Keep.of_below X hbw).trans hkp).trans (Keep.of_other hg2 hn2)) ((World.putObj_heap_other (by omega)).trans hk)⟩
      have := run_endLoop (P := Tryz.prog) hl (by rw [hrec]; simp)
      rw [hrec] at this ⊢
      exact this
end Go.Proofs.YtlnamjhgbdacbaaGreat
/- Maps whose keys are spots. -/
namespace Go.Proofs.YtlnamjhgbdacbaaGreat
open Go.RowKit Go.Shelf

def spotV (r : Int) (s : S4) : Value := .agg #[.int .i64 r, .int .i64 s.a, .int .i64 s.b, .int .i64 s.c, .int .i64 s.d]
theorem spot_law : WideMaps.KeyLaw Tryz.prog 100 := deep_law (m := 3) (by decide) (by kernel_rfl) (by kernel_rfl) (by kernel_rfl)
theorem wf64 {x : Int} (h : -1000000000 ≤ x) (h2 : x ≤ 1000000000) : (Lit.int .i64 x).wf = true := by
  have h3 : IntKind.i64.min = -9223372036854775808 := by rfl
  have h4 : IntKind.i64.max = 9223372036854775807 := by rfl
  simp [Lit.wf, h3, h4]; omega
theorem two_fields {P : Program} {t : TypeId} {n0 n1 : String} {t0 t1 o0 o1 : Nat} (h1 : (P.fieldsOf t).toList.map (fun f => (f.name, f.type, f.offset)) = [(n0, t0, o0), (n1, t1, o1)]) (h2 : P.underlying t = some (.struct (P.fieldsOf t))) :
    ∃ f0 f1 : Field, P.underlying t = some (.struct #[f0, f1]) ∧ f0.name = n0 ∧ f0.type = t0 ∧ f0.offset = o0 ∧ f1.name = n1 ∧ f1.type = t1 ∧ f1.offset = o1 := by
  revert h1 h2
  generalize P.fieldsOf t = fs
  intro h1 h2
  obtain ⟨l⟩ := fs
  match l, h1 with
  | [f0, f1], h1 =>
    simp only [List.map_cons, List.map_nil, List.cons.injEq, Prod.mk.injEq, and_true] at h1
    obtain ⟨⟨a, b, c⟩, d, e, f⟩ := h1
    exact ⟨f0, f1, h2, a, b, c, d, e, f⟩
theorem spot_fields : ∃ f0 f1 : Field, Tryz.prog.underlying 100 = some (.struct #[f0, f1]) ∧ f0.name = "row" ∧ f0.type = 3 ∧ f0.offset = 0 ∧ f1.name = "sums" ∧ f1.type = 98 ∧ f1.offset = 1 :=
  two_fields (by kernel_rfl) (by kernel_rfl)
theorem spot_cells : Tryz.prog.cellsOf 100 = 5 ∧ Tryz.prog.cellsOf 98 = 4 ∧ Tryz.prog.cellsOf 3 = 1 := ⟨by kernel_rfl, by kernel_rfl, by kernel_rfl⟩
theorem int_lits (d : Nat) {x : Int} (h : (Lit.int .i64 x).wf = true) : Tryz.prog.keyLits (d + 1) 3 [.int .i64 x] = some [.int .i64 x] := by
  simp [Program.keyLits, Tryz.underlying3, h]
theorem sums_lits (d : Nat) {a b c e : Int} (ha : (Lit.int .i64 a).wf = true) (hb : (Lit.int .i64 b).wf = true) (hc : (Lit.int .i64 c).wf = true) (he : (Lit.int .i64 e).wf = true) :
    Tryz.prog.keyLits (d + 2) 98 [.int .i64 a, .int .i64 b, .int .i64 c, .int .i64 e] = some [.int .i64 a, .int .i64 b, .int .i64 c, .int .i64 e] := by
  have hr : List.range 4 = [0, 1, 2, 3] := rfl
  unfold Program.keyLits
  simp only [Tryz.underlying98, spot_cells.2.1, spot_cells.2.2, List.length_cons, List.length_nil, Nat.zero_add, Nat.reduceAdd, if_true, hr]
  simp [List.mapM_cons, int_lits, ha, hb, hc, he]
theorem spot_key {r : Int} {s : S4} (hr : 0 ≤ r ∧ r ≤ 100000) (hs : Small 1000000 s) : ∃ l, keyOf Tryz.prog 100 (spotV r s) = some l := by
  obtain ⟨f0, f1, h0, h1, h2, h3, h4, h5, h6⟩ := spot_fields
  obtain ⟨⟨a1, a2⟩, ⟨b1, b2⟩, ⟨c1, c2⟩, ⟨d1, d2⟩⟩ := hs
  have hkt : Tryz.prog.keyType 100 = true := by kernel_rfl
  have hsz : decide (2 ≤ Tryz.prog.types.size) = true := by kernel_rfl
  obtain ⟨m, hm⟩ : ∃ m, Tryz.prog.types.size + 1 = m + 3 := ⟨Tryz.prog.types.size - 2, by have := of_decide_eq_true hsz; omega⟩
  have hfm : (spotV r s).formed Tryz.prog 100 = true := by
    simp only [spotV, Value.formed, h0, spot_cells.1]; rfl
  unfold keyOf
  simp only [h0, hkt, hfm, Bool.and_self, if_true, hm]
  unfold Program.keyLits
  have hnm : (#[f0, f1].all fun x => x.name != "_") = true := by simp [h1, h4]
  simp only [h0, spot_cells.1, spotV, Value.cells, List.length_cons, List.length_nil, Nat.zero_add, Nat.reduceAdd, hnm, and_self, if_true]
  simp only [List.mapM_cons, List.mapM_nil, h2, h3, h5, h6, spot_cells.2.1, spot_cells.2.2, List.drop_zero, List.drop_succ_cons, List.take_succ_cons, List.take_zero]
  rw [int_lits (m + 1) (wf64 (by omega) (by omega)), sums_lits m (wf64 (by omega) (by omega)) (wf64 (by omega) (by omega)) (wf64 (by omega) (by omega)) (wf64 (by omega) (by omega))]
  exact ⟨_, rfl⟩

theorem spotV_inj {r r' : Int} {s s' : S4} (h : spotV r s = spotV r' s') : r = r' ∧ s = s' := by
  obtain ⟨a, b, c, d⟩ := s
  obtain ⟨a', b', c', d'⟩ := s'
  simp [spotV] at h
  obtain ⟨h1, h2, h3, h4, h5⟩ := h
  subst h1 h2 h3 h4 h5
  exact ⟨rfl, rfl⟩

/-- all keys are spots -/
def SpotKeys (es : Array MapEntry) : Prop := ∀ e ∈ es.toList, ∃ l, keyOf Tryz.prog 100 e.key = some l

section
variable {W : World} {b t e : Nat} {es : Array MapEntry} {clock : Nat} {key : Value}
theorem spot_look (c : Bool) (ht : Tryz.prog.underlying t = some (.map 100 e)) {z : Value} (hz : (zeroValue e).run Tryz.prog W = .ok z W) (hb : W.heap[b]? = some (.map es clock)) (hes : SpotKeys es) (hk : ∃ l, keyOf Tryz.prog 100 key = some l) :
    ((Instr.lookup t (.map (some b)) key c).run Tryz.prog W = .ok (if c then .tuple #[z, .bool false] else z) W ∧ ∀ x ∈ es.toList, x.key ≠ key) ∨
    ∃ x ∈ es.toList, x.key = key ∧ (Instr.lookup t (.map (some b)) key c).run Tryz.prog W = .ok (if c then .tuple #[x.val, .bool true] else x.val) W := by
  obtain ⟨l, hk⟩ := hk
  rcases spot_law.find W hk es.toList hes with ⟨h1, h2⟩ | ⟨j, e0, h1, h2, h3⟩
  · exact .inl ⟨by simp [Instr.lookup, run_underlying ht, MapKept.run_getObj_map hb, spot_law.check W _ hk, h1, hz, Result.andThen], h2⟩
  · exact .inr ⟨e0, List.mem_of_getElem? h2, h3, by simp [Instr.lookup, run_underlying ht, MapKept.run_getObj_map hb, spot_law.check W _ hk, h1, Result.andThen]⟩

theorem spot_store (ht : Tryz.prog.underlying t = some (.map 100 e)) (hb : W.heap[b]? = some (.map es clock)) (hes : SpotKeys es) (hk : ∃ l, keyOf Tryz.prog 100 key = some l) (v : Value) :
    ∃ es' clock', (Instr.mapUpdate t (.map (some b)) key v).run Tryz.prog W = .ok () (W.putObj b (.map es' clock')) ∧ SpotKeys es' ∧ (∀ x ∈ es'.toList, x ∈ es.toList ∨ (x.key = key ∧ x.val = v)) ∧ ∃ x ∈ es'.toList, x.key = key ∧ x.val = v := by
  obtain ⟨l, hk⟩ := hk
  rcases spot_law.find W hk es.toList hes with ⟨h1, h2⟩ | ⟨j, e0, h1, h2, h3⟩
  · refine ⟨es.push ⟨key, v, clock⟩, clock + 1, ?_, ?_, ?_, ⟨⟨key, v, clock⟩, by simp, rfl, rfl⟩⟩
    · simp [Instr.mapUpdate, run_underlying ht, MapKept.run_getObj_map hb, spot_law.check W false hk, h1, MapKept.run_setObj_map _ hb, Result.andThen, World.putObj]
    · intro x hx
      simp only [Array.toList_push, List.mem_append, List.mem_singleton] at hx
      rcases hx with hx | rfl
      · exact hes x hx
      · exact ⟨l, hk⟩
    · intro x hx
      simp only [Array.toList_push, List.mem_append, List.mem_singleton] at hx
      rcases hx with hx | rfl
      · exact .inl hx
      · exact .inr ⟨rfl, rfl⟩
  · have hj := (List.getElem?_eq_some_iff.1 h2).1
    have hj' : j < es.size := by simpa using hj
    have he0 : es[j]? = some e0 := by simpa using h2
    have hst := spot_law.stays W hk
    have hmem : ∀ x ∈ (es.modify j fun e => { e with key := key, val := v }).toList, x ∈ es.toList ∨ (x.key = key ∧ x.val = v) := by
      intro x hx
      obtain ⟨i, hi⟩ := List.getElem?_of_mem hx
      rw [Array.getElem?_toList, Array.getElem?_modify] at hi
      split at hi
      · cases hq : es[i]? with
        | none => rw [hq] at hi; cases hi
        | some y =>
          rw [hq] at hi
          simp at hi
          subst hi
          exact .inr ⟨rfl, rfl⟩
      · exact .inl (List.mem_of_getElem? (by rw [Array.getElem?_toList]; exact hi))
    refine ⟨es.modify j fun e => { e with key := key, val := v }, clock, ?_, ?_, hmem, ⟨{ e0 with key := key, val := v }, ?_, rfl, rfl⟩⟩
    · simp [Instr.mapUpdate, run_underlying ht, MapKept.run_getObj_map hb, spot_law.check W false hk, h1, he0, h3, hst, MapKept.run_setObj_map _ hb, Result.andThen, World.putObj]
    · intro x hx
      rcases hmem x hx with h | ⟨h, _⟩
      · exact hes x h
      · exact ⟨l, by rw [h]; exact hk⟩
    · refine List.mem_of_getElem? (i := j) ?_
      rw [Array.getElem?_toList, Array.getElem?_modify, he0]
      simp
end
end Go.Proofs.YtlnamjhgbdacbaaGreat
