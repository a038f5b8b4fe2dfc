/- The walks and the plain laws of this part of the program, part 18: what each computes. Conditions stand at each theorem. -/
import Derived.Test.YtoeabajigfdkaaaG1
import Derived.Test.YtoeabajigfdkaaaG6
import Derived.Test.YtoeabajigfdkaaaG8
import Derived.Test.YtoeabajigfdkaaaG10
import Derived.Test.YtoeabajigfdkaaaG12
import Derived.Test.YtoeabajigfdkaaaG13
import Derived.Test.YtoeabajigfdkaaaG15
/- A further join: more is connected, no more streets are moved; best borders compared between two maps, in plain words. Conditions stand at each theorem. -/
namespace Go.Proofs.Ytoeabajigfdkaaa

theorem Rch.more {m x : MapD} {ms : List Int} {f : Int} (hj : ∀ a b, meet m a b = true → meet x a b = true) {y : Int} (h : Rch m ms f y) : Rch x ms f y := by
  induction h with
  | base => exact .base
  | step _ h2 h3 ih => exact .step ih h2 (hj _ _ h3)
theorem conB_more {m x : MapD} (hs : m.ss.length = x.ss.length) (hj : ∀ a b, meet m a b = true → meet x a b = true) {l : Nat → Int} {d : Int} (h : conB m l d = true) : conB x l d = true := by
  unfold conB at *
  rw [← hs]
  obtain ⟨f, t, e, h⟩ := conL_iff.1 h
  exact conL_iff.2 ⟨f, t, e, fun y hy => (h y hy).more hj⟩
/-- if what is right for one map is right for the other one, the other one's best borders move no more streets -/
theorem best_less {m x : MapD} {lo hi lo' hi' : Int} (hs : m.ss.length = x.ss.length) (hn : ∀ i, i < m.ss.length → (m.S i).n = (x.S i).n) (hr : ∀ l, RightAll m lo hi l → RightAll x lo' hi' l) {j : Nat} {l : Nat → Int} (h : bestB m lo hi = some (j, l)) :
    ∃ k l', bestB x lo' hi' = some (k, l') ∧ k ≤ j := by
  obtain ⟨h1, h2, _⟩ := best_some_iff h
  have h3 := hr l h1
  cases hb : bestB x lo' hi' with
  | none => exact absurd h3 (best_none_iff hb l)
  | some p =>
    obtain ⟨k, l'⟩ := p
    refine ⟨k, l', rfl, ?_⟩
    obtain ⟨_, _, h6⟩ := best_some_iff hb
    have h7 : movN x l x.ss.length = (j : Int) := by
      rw [← h2, ← hs]
      unfold movN
      exact sumN_congr fun i hi => by rw [hn i hi]
    rcases h6 l h3 with q | q <;> omega
/-- the map with one join more -/
def joinM (m : MapD) (j : Jn) : MapD := ⟨m.old, m.nw, m.ss, m.js ++ [j]⟩
theorem join_meet {m : MapD} {j : Jn} {a b : Int} (h : meet m a b = true) : meet (joinM m j) a b = true := by
  obtain ⟨q, hq, e⟩ := meet_iff.1 h
  exact meet_iff.2 ⟨q, List.mem_append.2 (.inl hq), e⟩
theorem join_right {m : MapD} {j : Jn} {lo hi : Int} {l : Nat → Int} (h : RightAll m lo hi l) : RightAll (joinM m j) lo hi l := by
  refine ⟨h.1, ?_⟩
  have h2 := h.2
  unfold rightB rightTo at *
  rw [List.all_eq_true] at *
  intro d hd
  have := h2 d hd
  simp only [Bool.and_eq_true] at *
  exact ⟨this.1, this.2.1, conB_more (m := m) (x := joinM m j) rfl (fun _ _ => join_meet) this.2.2⟩
theorem join_best {m : MapD} {j : Jn} {lo hi : Int} {n : Nat} {l : Nat → Int} (h : bestB m lo hi = some (n, l)) : ∃ k l', bestB (joinM m j) lo hi = some (k, l') ∧ k ≤ n :=
  best_less (m := m) (x := joinM m j) rfl (fun _ _ => rfl) (fun _ => join_right) h
/-- limits widened -/
theorem wide_right {m : MapD} {lo hi lo' hi' : Int} (h1 : lo' ≤ lo) (h2 : hi ≤ hi') {l : Nat → Int} (h : RightAll m lo hi l) : RightAll m lo' hi' l := by
  refine ⟨h.1, ?_⟩
  have h3 := h.2
  unfold rightB rightTo at *
  rw [List.all_eq_true] at *
  intro d hd
  have := h3 d hd
  simp only [Bool.and_eq_true, decide_eq_true_eq] at *
  exact ⟨by omega, by omega, this.2.2⟩
theorem wide_best {m : MapD} {lo hi lo' hi' : Int} (h1 : lo' ≤ lo) (h2 : hi ≤ hi') {n : Nat} {l : Nat → Int} (h : bestB m lo hi = some (n, l)) : ∃ k l', bestB m lo' hi' = some (k, l') ∧ k ≤ n :=
  best_less rfl (fun _ _ => rfl) (fun _ => wide_right h1 h2) h
/-- the ranges of people narrowed -/
structure Nar (m x : MapD) : Prop where
  old : x.old = m.old
  len : x.ss.length = m.ss.length
  nw : x.nw = m.nw
  js : x.js = m.js
  s : ∀ i, i < m.ss.length → (x.S i).o = (m.S i).o ∧ (x.S i).n = (m.S i).n ∧ (m.S i).lo ≤ (x.S i).lo ∧ (x.S i).hi ≤ (m.S i).hi
theorem Nar.part {m x : MapD} (h : Nar m x) (p : Nat → Bool) (d : Nat) : partLo m p d ≤ partLo x p d ∧ partHi x p d ≤ partHi m p d := by
  have e : x.at_ d = m.at_ d := by unfold MapD.at_; rw [h.old]
  have hl : ∀ p : Nat → Bool, sumO m d p Stt.lo m.ss.length ≤ sumO x d p Stt.lo m.ss.length := fun p => by
    unfold sumO
    refine sumN_le fun i hi => ?_
    rw [(h.s i hi).1]
    split
    · exact (h.s i hi).2.2.1
    · exact Int.le_refl _
  have hh : ∀ p : Nat → Bool, sumO x d p Stt.hi m.ss.length ≤ sumO m d p Stt.hi m.ss.length := fun p => by
    unfold sumO
    refine sumN_le fun i hi => ?_
    rw [(h.s i hi).1]
    split
    · exact (h.s i hi).2.2.2
    · exact Int.le_refl _
  have a1 := hl p
  have a2 := hl (nt p)
  have a3 := hh p
  have a4 := hh (nt p)
  unfold partLo partHi
  rw [h.len, e]
  omega
theorem Nar.size {m x : MapD} (h : Nar m x) (p : Nat → Bool) (k : Nat) : sizeLo m p k ≤ sizeLo x p k ∧ sizeHi x p k ≤ sizeHi m p k :=
  ⟨sumN_le fun d _ => (h.part p d).1, sumN_le fun d _ => (h.part p d).2⟩
theorem Nar.right {m x : MapD} (h : Nar m x) {lo hi : Int} {l : Nat → Int} (hr : RightAll m lo hi l) : RightAll x lo hi l := by
  refine ⟨fun i hi => ?_, ?_⟩
  · rw [h.nw]; exact hr.1 i (by rw [← h.len]; exact hi)
  have h2 := hr.2
  unfold rightB rightTo at *
  rw [List.all_eq_true] at *
  intro d hd
  rw [h.nw] at hd
  have := h2 d hd
  simp only [Bool.and_eq_true, decide_eq_true_eq] at *
  obtain ⟨s1, s2⟩ := h.size (inD l (d : Int)) m.old.length
  rw [h.old]
  exact ⟨by omega, by omega, conB_more (m := m) (x := x) h.len.symm (fun a b q => by unfold meet at *; rw [h.js]; exact q) this.2.2⟩
theorem Nar.best {m x : MapD} (h : Nar m x) {lo hi : Int} {n : Nat} {l : Nat → Int} (hb : bestB m lo hi = some (n, l)) : ∃ k l', bestB x lo hi = some (k, l') ∧ k ≤ n :=
  best_less (m := m) (x := x) h.len.symm (fun i hi => (h.s i hi).2.1.symm) (fun _ => h.right) hb
end Go.Proofs.Ytoeabajigfdkaaa
/- Best, by what it finds; limits; whether borders are right: words for the statements. Conditions stand at each theorem. -/
namespace Go.Proofs.Ytoeabajigfdkaaa
open Go.RowKit Go.Shelf

section
variable {m : MapD} {A : Option Addr} {c : Nat} {A2 : Option Addr} {c2 : Nat} {A3 : Option Addr} {c3 : Nat} {w : World} {lo hi : Int}
theorem ask_mk (hc : cstM m = 0) (h0 : 0 ≤ lo) (h1 : lo ≤ hi) (h2 : hi ≤ 40000) : askE m lo hi = 0 := by
  unfold askE
  rw [if_pos (cst_ok hc).1, if_pos (by unfold rngOk; exact decide_eq_true ⟨h0, h1, h2⟩), hc]
theorem best_no (h : MIn m A c A2 c2 A3 c3 w) (he : askE m lo hi = 0) (hb : bestB m lo hi = none) : Calls Try.prog 29 #[.agg #[.slice A m.old.length c, .int .i64 m.nw, .slice A2 m.ss.length c2, .slice A3 m.js.length c3], .agg #[.int .i64 lo, .int .i64 hi]] w fun e w' => e = .returned (.tuple #[.slice none 0 0, .int .i64 0, .int .i64 7]) ∧ Below w.heap.size w w' :=
  (bbest_ok m A c A2 c2 A3 c3 lo hi w h he).mono fun e w' hg => by
    unfold GivesBest at hg
    rw [hb] at hg
    exact ⟨hg.2, hg.1⟩
theorem best_yes (h : MIn m A c A2 c2 A3 c3 w) (he : askE m lo hi = 0) {j : Nat} {l : Nat → Int} (hb : bestB m lo hi = some (j, l)) : Calls Try.prog 29 #[.agg #[.slice A m.old.length c, .int .i64 m.nw, .slice A2 m.ss.length c2, .slice A3 m.js.length c3], .agg #[.int .i64 lo, .int .i64 hi]] w fun e w' => ∃ y : Option Addr × Nat, e = .returned (.tuple #[.slice y.1 (lst m l).length y.2, .int .i64 (j : Int), .int .i64 0]) ∧ IntsAt y (lst m l) w' ∧ Below w.heap.size w w' :=
  (bbest_ok m A c A2 c2 A3 c3 lo hi w h he).mono fun e w' hg => by
    unfold GivesBest at hg
    rw [hb] at hg
    obtain ⟨hg0, A5, c5, h1, h2, h3, h4⟩ := hg
    exact ⟨(A5, c5), h1, ⟨h4, h2, h3⟩, hg0⟩
end
end Go.Proofs.Ytoeabajigfdkaaa
/- The reference of layer 11: whether a list has a new district for each street; how many streets are moved; which list is smaller. Conditions stand at each theorem. -/
namespace Go.Proofs.Ytoeabajigfdkaaa
open Go.RowKit Go.Shelf

set_option maxRecDepth 100000 in
set_option maxHeartbeats 4000000 in
theorem qareb_any (m : MapD) (A : Option Addr) (c : Nat) (A2 : Option Addr) (c2 : Nat) (A3 : Option Addr) (c3 : Nat) (Ax : Option Addr) (cx : Nat) (xs : List Int) (w : World) (h : MIn m A c A2 c2 A3 c3 w) (hx : IsInts w w.heap.size Ax xs) (hxl : xs.length ≤ 1000) (hn1 : 1 ≤ m.nw) (hn4 : m.nw ≤ 4) :
    Calls Try.prog 40 #[.agg #[.slice A m.old.length c, .int .i64 m.nw, .slice A2 m.ss.length c2, .slice A3 m.js.length c3], .slice Ax xs.length cx] w fun e w' => e = .returned (.bool (areB m xs)) ∧ Below w.heap.size w w' := by
  have hB := below_box (w := w) #[.slice A m.old.length c, .int .i64 m.nw, .slice A2 m.ss.length c2, .slice A3 m.js.length c3] 26
  have hT := Blk.new w 26 #[.slice A m.old.length c, .int .i64 m.nw, .slice A2 m.ss.length c2, .slice A3 m.js.length c3]
  have HT := hid hT
  have HB0 := hid hB
  have HA := hid h
  have HX := hid hx
  clear hB hT h hx
  have hw : IntKind.i64.wrap (m.nw - 1) = m.nw - 1 := IntWalk.i64_in _ (by omega)
  go_enter Try.func40, Try.ntmps40
  go_wp2
  generalize hW1 : w.alloc (.cells #[.slice A m.old.length c, .int .i64 m.nw, .slice A2 m.ss.length c2, .slice A3 m.js.length c3] 26) = w1 at *
  clear hW1
  go_loopw [5] (fun i W => ∃ k : Nat, k ≤ xs.length ∧ i = .int .i64 k ∧ (∀ i, i < k → inB (fnO xs i) 0 (m.nw - 1) = true) ∧ Below w1.heap.size w1 W) (fun i _ => xs.length - (intOf i).toNat)
  case atStart => exact ⟨0, Nat.zero_le _, rfl, fun i hi => by omega, Below.refl _ _⟩
  case round =>
    obtain ⟨k, hk, rfl, hall, hbr⟩ := hrel
    have HR := hid (And.intro hall hbr)
    have HTR := hid (HT.out.keep hbr)
    obtain ⟨t0, t1, t2, t3⟩ := HTR.out.c4
    clear hall hbr
    by_cases hlt : k < xs.length
    · have hkI : (k : Int) < (xs.length : Int) := by omega
      obtain ⟨x, hx⟩ : ∃ x, xs[k]? = some x := ⟨_, List.getElem?_eq_getElem hlt⟩
      obtain ⟨ax, ex, g3, g4⟩ := (HX.out.at_ (HB0.out.trans (HR.out.2.mono HB0.out.size))) k x hx
      have HXD := hid (fnO_get hx)
      subst ex
      have HF := hid g4
      clear hx g3 g4
      cases hq : inB x 0 (m.nw - 1)
      case true =>
        have HNX := hid (show ∀ i, i < k + 1 → inB (fnO xs i) 0 (m.nw - 1) = true from fun i hi => by
          rcases Nat.lt_succ_iff_lt_or_eq.1 hi with h | h
          · exact HR.out.1 i h
          · subst h; rw [HXD.out]; exact hq)
        go_wp2
        clear t0 t1 t2 t3
        refine (wpIn_wide (n := 0)).1 ?_
        refine wpIn_region_each 8 (fun i v W' => match i with | 0 => v = .slice (some ax) xs.length cx | 1 => v = .int .i64 (k : Int) | 2 => v = .pointer (some (ax.add k)) | 3 => v = .int .i64 x | 4 => v = .pointer (some ⟨w.heap.size, 1, none⟩) | 5 => v = .int .i64 m.nw | 6 => v = .int .i64 (m.nw - 1) | 7 => v = .bool true | _ => True) (fun A B => Below A.heap.size A B) (fun _ _ => True) (by kernel_rfl) (by kernel_rfl) ?_ (fun h k => h.trans (k.mono h.size)) ⟨rfl, rfl, rfl, Nat.le_refl _, fun _ _ => rfl⟩ trivial (by kernel_rfl) ?_ ?_
        · intro i v W1 W2 hb h
          match i, h with
          | 0, h => exact h
          | 1, h => exact h
          | 2, h => exact h
          | 3, h => exact h
          | 4, h => exact h
          | 5, h => exact h
          | 6, h => exact h
          | 7, h => exact h
          | i + 8, h => trivial
        · refine ⟨?_, ?_, ?_, ?_, ?_, ?_, ?_, ?_, trivial⟩
          · -- 0
            intro li a1 W2 hA K hK
            have e1 := hA.par 1 (by kernel_rfl)
            refine opStep none 0 rfl rfl (fun c hc => by cases hc) ?_
            go_simp
            exact hK _ _ rfl (Below.refl _ _) trivial
          · -- 1
            intro li a1 W2 hA K hK
            have e5 := hA.par 5 (by kernel_rfl)
            refine opStep none 0 rfl rfl (fun c hc => by cases hc) ?_
            go_simp
            exact hK _ _ rfl (Below.refl _ _) trivial
          · -- 2
            intro li a1 W2 hA K hK
            have e12 : a1.tmps.getD 12 undef = .slice (some ax) xs.length cx := hA.val 0 12 (by kernel_rfl) (by kernel_rfl)
            have e13 : a1.tmps.getD 13 undef = .int .i64 (k : Int) := hA.val 1 13 (by kernel_rfl) (by kernel_rfl)
            refine opStep none 0 rfl rfl (fun c hc => by cases hc) ?_
            go_simp
            exact hK _ _ (by first | rfl | exact congrArg (fun q => Value.pointer (some q)) (add_blk _ _)) (Below.refl _ _) trivial
          · -- 3
            intro li a1 W2 hA K hK
            have e14 : a1.tmps.getD 14 undef = .pointer (some (ax.add k)) := hA.val 2 14 (by kernel_rfl) (by kernel_rfl)
            have q1 := (hA.st.cell (World.block_lt_of_cell? _ _ HF.out)).trans HF.out
            refine opStep none 0 rfl rfl (fun c hc => by cases hc) ?_
            go_simp
            exact hK _ _ rfl (Below.refl _ _) trivial
          · -- 4
            intro li a1 W2 hA K hK
            have e2 := hA.par 2 (by kernel_rfl)
            refine opStep none 0 rfl rfl (fun c hc => by cases hc) ?_
            go_simp
            exact hK _ _ rfl (Below.refl _ _) trivial
          · -- 5
            intro li a1 W2 hA K hK
            have e16 : a1.tmps.getD 16 undef = .pointer (some ⟨w.heap.size, 1, none⟩) := hA.val 4 16 (by kernel_rfl) (by kernel_rfl)
            obtain ⟨q1, q2, q3, q4⟩ := (HTR.out.keep hA.st).c4
            refine opStep none 0 rfl rfl (fun c hc => by cases hc) ?_
            go_simp
            exact hK _ _ rfl (Below.refl _ _) trivial
          · -- 6
            intro li a1 W2 hA K hK
            have e17 : a1.tmps.getD 17 undef = .int .i64 m.nw := hA.val 5 17 (by kernel_rfl) (by kernel_rfl)
            refine opStep none 0 rfl rfl (fun c hc => by cases hc) ?_
            go_simp
            exact hK _ _ (by first | rfl | exact congrArg (Value.int .i64) hw | (simp [hw])) (Below.refl _ _) trivial
          · -- 7
            intro li a1 W2 hA K hK
            have e15 : a1.tmps.getD 15 undef = .int .i64 x := hA.val 3 15 (by kernel_rfl) (by kernel_rfl)
            have e18 : a1.tmps.getD 18 undef = .int .i64 (m.nw - 1) := hA.val 6 18 (by kernel_rfl) (by kernel_rfl)
            refine opStep none 0 rfl rfl (fun c hc => by cases hc) ?_
            go_simp
            refine (qin_any _ _ _ W2).mono ?_
            rintro e W3 ⟨rfl, rfl⟩
            exact hK _ _ (congrArg Value.bool hq) (Below.refl _ _) trivial
        · intro li a1 W2 hD
          have e19 : a1.tmps.getD 19 undef = .bool true := hD.val 7 19 (by kernel_rfl) (by kernel_rfl)
          have hkp2 := hD.keeps (ds := [12, 13, 14, 15, 16, 17, 18, 19, 20]) (by kernel_rfl)
          have hds := hD.size
          have hsz9 : a1.tmps.size = 27 := hD.size
          have hdd := hD.defers
          have hst := hD.st
          refine tail_val (i := 8) (v := .bool false) (W' := W2) none 0 rfl rfl rfl (fun c hc => by cases hc) (by go_simp) (by rw [hsz9]; decide) ?_
          intro a3 s3 d3 f3 o3
          have hkp3 := keeps_then hkp2 o3 (by decide)
          have e := act_mix [12, 13, 14, 15, 16, 17, 18, 19, 20] (s3.trans hds) (d3.trans hdd) (fun i _ hc => hkp3 i hc)
          have hg9 : (fun i => a3.tmps.getD i undef) 20 = .bool false := f3
          generalize (fun i => a3.tmps.getD i undef) = g' at e hg9
          refine wpListIn_nil ?_
          rw [e]
          clear e hD hkp2 hkp3 s3 d3 f3 o3 hds hdd hsz9 e19
          simp only [mix, List.contains_cons, List.contains_nil, Nat.reduceAdd, Nat.reduceBEq, Bool.or_false, Bool.or_true, cond_true, cond_false, hg9]
          clear hg9
          have HN2 := hid (HR.out.2.trans (hst.mono HR.out.2.size))
          clear hst HF HR HTR
          go_wp2
          go_roundw
          case rel => exact ⟨k + 1, by omega, by go_num, HNX.out, HN2.out⟩
          case measure => first | (simp [intOf]; done) | (simp [intOf]; omega)
      case false =>
        have HRES := hid (show areB m xs = false by
          rw [Bool.eq_false_iff]
          intro e
          unfold areB at e
          rw [Bool.and_eq_true, List.all_eq_true] at e
          have := e.2 xs[k] (List.getElem_mem hlt)
          have h2 := HXD.out
          unfold fnO at h2
          rw [List.getD, List.getElem?_eq_getElem hlt] at h2
          rw [show xs[k] = x from h2, hq] at this
          cases this)
        go_wp2
        clear t0 t1 t2 t3
        refine (wpIn_wide (n := 0)).1 ?_
        refine wpIn_region_each 8 (fun i v W' => match i with | 0 => v = .slice (some ax) xs.length cx | 1 => v = .int .i64 (k : Int) | 2 => v = .pointer (some (ax.add k)) | 3 => v = .int .i64 x | 4 => v = .pointer (some ⟨w.heap.size, 1, none⟩) | 5 => v = .int .i64 m.nw | 6 => v = .int .i64 (m.nw - 1) | 7 => v = .bool false | _ => True) (fun A B => Below A.heap.size A B) (fun _ _ => True) (by kernel_rfl) (by kernel_rfl) ?_ (fun h k => h.trans (k.mono h.size)) ⟨rfl, rfl, rfl, Nat.le_refl _, fun _ _ => rfl⟩ trivial (by kernel_rfl) ?_ ?_
        · intro i v W1 W2 hb h
          match i, h with
          | 0, h => exact h
          | 1, h => exact h
          | 2, h => exact h
          | 3, h => exact h
          | 4, h => exact h
          | 5, h => exact h
          | 6, h => exact h
          | 7, h => exact h
          | i + 8, h => trivial
        · refine ⟨?_, ?_, ?_, ?_, ?_, ?_, ?_, ?_, trivial⟩
          · -- 0
            intro li a1 W2 hA K hK
            have e1 := hA.par 1 (by kernel_rfl)
            refine opStep none 0 rfl rfl (fun c hc => by cases hc) ?_
            go_simp
            exact hK _ _ rfl (Below.refl _ _) trivial
          · -- 1
            intro li a1 W2 hA K hK
            have e5 := hA.par 5 (by kernel_rfl)
            refine opStep none 0 rfl rfl (fun c hc => by cases hc) ?_
            go_simp
            exact hK _ _ rfl (Below.refl _ _) trivial
          · -- 2
            intro li a1 W2 hA K hK
            have e12 : a1.tmps.getD 12 undef = .slice (some ax) xs.length cx := hA.val 0 12 (by kernel_rfl) (by kernel_rfl)
            have e13 : a1.tmps.getD 13 undef = .int .i64 (k : Int) := hA.val 1 13 (by kernel_rfl) (by kernel_rfl)
            refine opStep none 0 rfl rfl (fun c hc => by cases hc) ?_
            go_simp
            exact hK _ _ (by first | rfl | exact congrArg (fun q => Value.pointer (some q)) (add_blk _ _)) (Below.refl _ _) trivial
          · -- 3
            intro li a1 W2 hA K hK
            have e14 : a1.tmps.getD 14 undef = .pointer (some (ax.add k)) := hA.val 2 14 (by kernel_rfl) (by kernel_rfl)
            have q1 := (hA.st.cell (World.block_lt_of_cell? _ _ HF.out)).trans HF.out
            refine opStep none 0 rfl rfl (fun c hc => by cases hc) ?_
            go_simp
            exact hK _ _ rfl (Below.refl _ _) trivial
          · -- 4
            intro li a1 W2 hA K hK
            have e2 := hA.par 2 (by kernel_rfl)
            refine opStep none 0 rfl rfl (fun c hc => by cases hc) ?_
            go_simp
            exact hK _ _ rfl (Below.refl _ _) trivial
          · -- 5
            intro li a1 W2 hA K hK
            have e16 : a1.tmps.getD 16 undef = .pointer (some ⟨w.heap.size, 1, none⟩) := hA.val 4 16 (by kernel_rfl) (by kernel_rfl)
            obtain ⟨q1, q2, q3, q4⟩ := (HTR.out.keep hA.st).c4
            refine opStep none 0 rfl rfl (fun c hc => by cases hc) ?_
            go_simp
            exact hK _ _ rfl (Below.refl _ _) trivial
          · -- 6
            intro li a1 W2 hA K hK
            have e17 : a1.tmps.getD 17 undef = .int .i64 m.nw := hA.val 5 17 (by kernel_rfl) (by kernel_rfl)
            refine opStep none 0 rfl rfl (fun c hc => by cases hc) ?_
            go_simp
            exact hK _ _ (by first | rfl | exact congrArg (Value.int .i64) hw | (simp [hw])) (Below.refl _ _) trivial
          · -- 7
            intro li a1 W2 hA K hK
            have e15 : a1.tmps.getD 15 undef = .int .i64 x := hA.val 3 15 (by kernel_rfl) (by kernel_rfl)
            have e18 : a1.tmps.getD 18 undef = .int .i64 (m.nw - 1) := hA.val 6 18 (by kernel_rfl) (by kernel_rfl)
            refine opStep none 0 rfl rfl (fun c hc => by cases hc) ?_
            go_simp
            refine (qin_any _ _ _ W2).mono ?_
            rintro e W3 ⟨rfl, rfl⟩
            exact hK _ _ (congrArg Value.bool hq) (Below.refl _ _) trivial
        · intro li a1 W2 hD
          have e19 : a1.tmps.getD 19 undef = .bool false := hD.val 7 19 (by kernel_rfl) (by kernel_rfl)
          have hkp2 := hD.keeps (ds := [12, 13, 14, 15, 16, 17, 18, 19, 20]) (by kernel_rfl)
          have hds := hD.size
          have hsz9 : a1.tmps.size = 27 := hD.size
          have hdd := hD.defers
          have hst := hD.st
          refine tail_val (i := 8) (v := .bool true) (W' := W2) none 0 rfl rfl rfl (fun c hc => by cases hc) (by go_simp) (by rw [hsz9]; decide) ?_
          intro a3 s3 d3 f3 o3
          have hkp3 := keeps_then hkp2 o3 (by decide)
          have e := act_mix [12, 13, 14, 15, 16, 17, 18, 19, 20] (s3.trans hds) (d3.trans hdd) (fun i _ hc => hkp3 i hc)
          have hg9 : (fun i => a3.tmps.getD i undef) 20 = .bool true := f3
          generalize (fun i => a3.tmps.getD i undef) = g' at e hg9
          refine wpListIn_nil ?_
          rw [e]
          clear e hD hkp2 hkp3 s3 d3 f3 o3 hds hdd hsz9 e19
          simp only [mix, List.contains_cons, List.contains_nil, Nat.reduceAdd, Nat.reduceBEq, Bool.or_false, Bool.or_true, cond_true, cond_false, hg9]
          clear hg9
          have HB := hid (HB0.out.trans ((HR.out.2.trans (hst.mono HR.out.2.size)).mono HB0.out.size))
          clear hst HF HR HTR
          go_wp2
          go_ret
          exact ⟨by rw [HRES.out]; rfl, HB.out⟩
    · have hkI : decide ((k : Int) < (xs.length : Int)) = false := by simp; omega
      obtain rfl : k = xs.length := by omega
      have hall : xs.all (fun x => inB x 0 (m.nw - 1)) = true := List.all_eq_true.2 fun x hx => by
        obtain ⟨i, hi⟩ := List.mem_iff_getElem?.1 hx
        have := HR.out.1 i (List.getElem?_eq_some_iff.1 hi).1
        rwa [fnO_get hi] at this
      have HB := hid (HB0.out.trans (HR.out.2.mono HB0.out.size))
      have HRES := hid (show areB m xs = ((xs.length : Int) == (m.ss.length : Int)) by
        unfold areB
        rw [hall, Bool.and_true]
        by_cases e : xs.length = m.ss.length
        · simp [e]
        · have : (xs.length : Int) ≠ (m.ss.length : Int) := by omega
          simp [e, this])
      clear HR hall HTR
      go_wp2
      go_ret
      exact ⟨by rw [HRES.out]; rfl, HB.out⟩
set_option maxRecDepth 100000 in
set_option maxHeartbeats 4000000 in
theorem qmoved_any (m : MapD) (A : Option Addr) (c : Nat) (A2 : Option Addr) (c2 : Nat) (A3 : Option Addr) (c3 : Nat) (Ax : Option Addr) (cx : Nat) (xs : List Int) (w : World) (h : MIn m A c A2 c2 A3 c3 w) (hx : IsInts w w.heap.size Ax xs) (hxl : xs.length ≤ m.ss.length) (hs8 : m.ss.length ≤ 1000) :
    Calls Try.prog 42 #[.agg #[.slice A m.old.length c, .int .i64 m.nw, .slice A2 m.ss.length c2, .slice A3 m.js.length c3], .slice Ax xs.length cx] w fun e w' => e = .returned (.int .i64 (movN m (fnO xs) xs.length)) ∧ Below w.heap.size w w' := by
  have hB := below_box (w := w) #[.slice A m.old.length c, .int .i64 m.nw, .slice A2 m.ss.length c2, .slice A3 m.js.length c3] 26
  have hT := Blk.new w 26 #[.slice A m.old.length c, .int .i64 m.nw, .slice A2 m.ss.length c2, .slice A3 m.js.length c3]
  have HT := hid hT
  have HB0 := hid hB
  have HA := hid h
  have HX := hid hx
  clear hB hT h hx
  go_enter Try.func42, Try.ntmps42
  go_wp2
  generalize hW1 : w.alloc (.cells #[.slice A m.old.length c, .int .i64 m.nw, .slice A2 m.ss.length c2, .slice A3 m.js.length c3] 26) = w1 at *
  clear hW1
  go_loopw [5, 6] (fun v i W => ∃ k : Nat, k ≤ xs.length ∧ i = .int .i64 k ∧ v = .int .i64 (movN m (fnO xs) k) ∧ Below w1.heap.size w1 W) (fun _ i _ => xs.length - (intOf i).toNat)
  case atStart => exact ⟨0, Nat.zero_le _, rfl, rfl, Below.refl _ _⟩
  case round =>
    obtain ⟨k, hk, rfl, rfl, hbr⟩ := hrel
    have HR := hid hbr
    have HTR := hid (HT.out.keep hbr)
    obtain ⟨t0, t1, t2, t3⟩ := HTR.out.c4
    clear hbr
    by_cases hlt : k < xs.length
    · have hkI : (k : Int) < (xs.length : Int) := by omega
      have hkS : (k : Int) < (m.ss.length : Int) := by omega
      obtain ⟨x, hx⟩ : ∃ x, xs[k]? = some x := ⟨_, List.getElem?_eq_getElem hlt⟩
      obtain ⟨s, hs⟩ : ∃ s, m.ss[k]? = some s := ⟨_, List.getElem?_eq_getElem (by omega)⟩
      obtain ⟨ax, ex, g3, g4⟩ := (HX.out.at_ (HB0.out.trans (HR.out.mono HB0.out.size))) k x hx
      obtain ⟨aa, eA, g1, f0, f1, f2, f3, f4⟩ := (HA.out.at_ (HB0.out.trans (HR.out.mono HB0.out.size))).is k s hs
      have HXD := hid (fnO_get hx)
      have HS := hid (MapD.S_eq hs)
      obtain ⟨m1, m2⟩ := movN_bounds m (fnO xs) k
      subst ex eA
      have HF := hid g4
      have HF2 := hid f1
      clear hx hs g1 g3 g4 f0 f1 f2 f3 f4
      by_cases hq : x = s.n
      · have hqB : (x != s.n) = false := by simp [hq]
        have HNX := hid (show movN m (fnO xs) (k + 1) = movN m (fnO xs) k by rw [movN_succ, HXD.out, HS.out, if_pos hq]; omega)
        generalize movN m (fnO xs) k = y at *
        clear hq
        go_wp2
        clear t0 t1 t2 t3
        refine (wpIn_wide (n := 0)).1 ?_
        refine wpIn_region_each 10 (fun i v W' => match i with | 0 => v = .slice (some ax) xs.length cx | 1 => v = .int .i64 (k : Int) | 2 => v = .pointer (some (ax.add k)) | 3 => v = .int .i64 x | 4 => v = .pointer (some ⟨w.heap.size, 2, none⟩) | 5 => v = .slice (some aa) m.ss.length c2 | 6 => v = .int .i64 (k : Int) | 7 => v = .pointer (some (aa.add (k * 5))) | 8 => v = .pointer (some ⟨(aa.add (k * 5)).block, (aa.add (k * 5)).off + 1, none⟩) | 9 => v = .int .i64 s.n | _ => True) (fun A B => Below A.heap.size A B) (fun _ _ => True) (by kernel_rfl) (by kernel_rfl) ?_ (fun h k => h.trans (k.mono h.size)) ⟨rfl, rfl, rfl, Nat.le_refl _, fun _ _ => rfl⟩ trivial (by kernel_rfl) ?_ ?_
        · intro i v W1 W2 hb h
          match i, h with
          | 0, h => exact h
          | 1, h => exact h
          | 2, h => exact h
          | 3, h => exact h
          | 4, h => exact h
          | 5, h => exact h
          | 6, h => exact h
          | 7, h => exact h
          | 8, h => exact h
          | 9, h => exact h
          | i + 10, h => trivial
        · refine ⟨?_, ?_, ?_, ?_, ?_, ?_, ?_, ?_, ?_, ?_, trivial⟩
          · -- 0
            intro li a1 W2 hA K hK
            have e1 := hA.par 1 (by kernel_rfl)
            refine opStep none 0 rfl rfl (fun c hc => by cases hc) ?_
            go_simp
            exact hK _ _ rfl (Below.refl _ _) trivial
          · -- 1
            intro li a1 W2 hA K hK
            have e6 := hA.par 6 (by kernel_rfl)
            refine opStep none 0 rfl rfl (fun c hc => by cases hc) ?_
            go_simp
            exact hK _ _ rfl (Below.refl _ _) trivial
          · -- 2
            intro li a1 W2 hA K hK
            have e13 : a1.tmps.getD 13 undef = .slice (some ax) xs.length cx := hA.val 0 13 (by kernel_rfl) (by kernel_rfl)
            have e14 : a1.tmps.getD 14 undef = .int .i64 (k : Int) := hA.val 1 14 (by kernel_rfl) (by kernel_rfl)
            refine opStep none 0 rfl rfl (fun c hc => by cases hc) ?_
            go_simp
            exact hK _ _ (by first | rfl | exact congrArg (fun q => Value.pointer (some q)) (add_blk _ _)) (Below.refl _ _) trivial
          · -- 3
            intro li a1 W2 hA K hK
            have e15 : a1.tmps.getD 15 undef = .pointer (some (ax.add k)) := hA.val 2 15 (by kernel_rfl) (by kernel_rfl)
            have q1 := (hA.st.cell (World.block_lt_of_cell? _ _ HF.out)).trans HF.out
            refine opStep none 0 rfl rfl (fun c hc => by cases hc) ?_
            go_simp
            exact hK _ _ rfl (Below.refl _ _) trivial
          · -- 4
            intro li a1 W2 hA K hK
            have e2 := hA.par 2 (by kernel_rfl)
            refine opStep none 0 rfl rfl (fun c hc => by cases hc) ?_
            go_simp
            exact hK _ _ rfl (Below.refl _ _) trivial
          · -- 5
            intro li a1 W2 hA K hK
            have e17 : a1.tmps.getD 17 undef = .pointer (some ⟨w.heap.size, 2, none⟩) := hA.val 4 17 (by kernel_rfl) (by kernel_rfl)
            obtain ⟨q1, q2, q3, q4⟩ := (HTR.out.keep hA.st).c4
            refine opStep none 0 rfl rfl (fun c hc => by cases hc) ?_
            go_simp
            exact hK _ _ rfl (Below.refl _ _) trivial
          · -- 6
            intro li a1 W2 hA K hK
            have e6 := hA.par 6 (by kernel_rfl)
            refine opStep none 0 rfl rfl (fun c hc => by cases hc) ?_
            go_simp
            exact hK _ _ rfl (Below.refl _ _) trivial
          · -- 7
            intro li a1 W2 hA K hK
            have e18 : a1.tmps.getD 18 undef = .slice (some aa) m.ss.length c2 := hA.val 5 18 (by kernel_rfl) (by kernel_rfl)
            have e19 : a1.tmps.getD 19 undef = .int .i64 (k : Int) := hA.val 6 19 (by kernel_rfl) (by kernel_rfl)
            refine opStep none 0 rfl rfl (fun c hc => by cases hc) ?_
            go_simp
            exact hK _ _ (by first | rfl | exact congrArg (fun q => Value.pointer (some q)) (add_blk _ _)) (Below.refl _ _) trivial
          · -- 8
            intro li a1 W2 hA K hK
            have e20 : a1.tmps.getD 20 undef = .pointer (some (aa.add (k * 5))) := hA.val 7 20 (by kernel_rfl) (by kernel_rfl)
            refine opStep none 0 rfl rfl (fun c hc => by cases hc) ?_
            go_simp
            exact hK _ _ rfl (Below.refl _ _) trivial
          · -- 9
            intro li a1 W2 hA K hK
            have e21 : a1.tmps.getD 21 undef = .pointer (some ⟨(aa.add (k * 5)).block, (aa.add (k * 5)).off + 1, none⟩) := hA.val 8 21 (by kernel_rfl) (by kernel_rfl)
            have q1 := (hA.st.cell (World.block_lt_of_cell? _ _ HF2.out)).trans HF2.out
            refine opStep none 0 rfl rfl (fun c hc => by cases hc) ?_
            go_simp
            exact hK _ _ rfl (Below.refl _ _) trivial
        · intro li a1 W2 hD
          have e16 : a1.tmps.getD 16 undef = .int .i64 x := hD.val 3 16 (by kernel_rfl) (by kernel_rfl)
          have e22 : a1.tmps.getD 22 undef = .int .i64 s.n := hD.val 9 22 (by kernel_rfl) (by kernel_rfl)
          have hkp2 := hD.keeps (ds := [13, 14, 15, 16, 17, 18, 19, 20, 21, 22, 23]) (by kernel_rfl)
          have hds := hD.size
          have hsz9 : a1.tmps.size = 27 := hD.size
          have hdd := hD.defers
          have hst := hD.st
          refine tail_val (i := 10) (v := .bool false) (W' := W2) none 0 rfl rfl rfl (fun c hc => by cases hc) (by go_simp) (by rw [hsz9]; decide) ?_
          intro a3 s3 d3 f3 o3
          have hkp3 := keeps_then hkp2 o3 (by decide)
          have e := act_mix [13, 14, 15, 16, 17, 18, 19, 20, 21, 22, 23] (s3.trans hds) (d3.trans hdd) (fun i _ hc => hkp3 i hc)
          have hg9 : (fun i => a3.tmps.getD i undef) 23 = .bool false := f3
          generalize (fun i => a3.tmps.getD i undef) = g' at e hg9
          refine wpListIn_nil ?_
          rw [e]
          clear e hD hkp2 hkp3 s3 d3 f3 o3 hds hdd hsz9 e16 e22
          simp only [mix, List.contains_cons, List.contains_nil, Nat.reduceAdd, Nat.reduceBEq, Bool.or_false, Bool.or_true, cond_true, cond_false, hg9]
          clear hg9
          have HN2 := hid (HR.out.trans (hst.mono HR.out.size))
          clear hst HF HF2 HR HTR HS
          go_wp2
          go_roundw
          case rel => exact ⟨k + 1, by omega, by go_num, by rw [HNX.out], HN2.out⟩
          case measure => first | (simp [intOf]; done) | (simp [intOf]; omega)
      · have hqB : (x != s.n) = true := by simpa using hq
        have HNX := hid (show movN m (fnO xs) (k + 1) = movN m (fnO xs) k + 1 by rw [movN_succ, HXD.out, HS.out, if_neg hq])
        generalize movN m (fnO xs) k = y at *
        have hw : IntKind.i64.wrap (y + 1) = y + 1 := IntWalk.i64_in _ (by omega)
        clear hq
        go_wp2
        clear t0 t1 t2 t3
        refine (wpIn_wide (n := 0)).1 ?_
        refine wpIn_region_each 10 (fun i v W' => match i with | 0 => v = .slice (some ax) xs.length cx | 1 => v = .int .i64 (k : Int) | 2 => v = .pointer (some (ax.add k)) | 3 => v = .int .i64 x | 4 => v = .pointer (some ⟨w.heap.size, 2, none⟩) | 5 => v = .slice (some aa) m.ss.length c2 | 6 => v = .int .i64 (k : Int) | 7 => v = .pointer (some (aa.add (k * 5))) | 8 => v = .pointer (some ⟨(aa.add (k * 5)).block, (aa.add (k * 5)).off + 1, none⟩) | 9 => v = .int .i64 s.n | _ => True) (fun A B => Below A.heap.size A B) (fun _ _ => True) (by kernel_rfl) (by kernel_rfl) ?_ (fun h k => h.trans (k.mono h.size)) ⟨rfl, rfl, rfl, Nat.le_refl _, fun _ _ => rfl⟩ trivial (by kernel_rfl) ?_ ?_
        · intro i v W1 W2 hb h
          match i, h with
          | 0, h => exact h
          | 1, h => exact h
          | 2, h => exact h
          | 3, h => exact h
          | 4, h => exact h
          | 5, h => exact h
          | 6, h => exact h
          | 7, h => exact h
          | 8, h => exact h
          | 9, h => exact h
          | i + 10, h => trivial
        · refine ⟨?_, ?_, ?_, ?_, ?_, ?_, ?_, ?_, ?_, ?_, trivial⟩
          · -- 0
            intro li a1 W2 hA K hK
            have e1 := hA.par 1 (by kernel_rfl)
            refine opStep none 0 rfl rfl (fun c hc => by cases hc) ?_
            go_simp
            exact hK _ _ rfl (Below.refl _ _) trivial
          · -- 1
            intro li a1 W2 hA K hK
            have e6 := hA.par 6 (by kernel_rfl)
            refine opStep none 0 rfl rfl (fun c hc => by cases hc) ?_
            go_simp
            exact hK _ _ rfl (Below.refl _ _) trivial
          · -- 2
            intro li a1 W2 hA K hK
            have e13 : a1.tmps.getD 13 undef = .slice (some ax) xs.length cx := hA.val 0 13 (by kernel_rfl) (by kernel_rfl)
            have e14 : a1.tmps.getD 14 undef = .int .i64 (k : Int) := hA.val 1 14 (by kernel_rfl) (by kernel_rfl)
            refine opStep none 0 rfl rfl (fun c hc => by cases hc) ?_
            go_simp
            exact hK _ _ (by first | rfl | exact congrArg (fun q => Value.pointer (some q)) (add_blk _ _)) (Below.refl _ _) trivial
          · -- 3
            intro li a1 W2 hA K hK
            have e15 : a1.tmps.getD 15 undef = .pointer (some (ax.add k)) := hA.val 2 15 (by kernel_rfl) (by kernel_rfl)
            have q1 := (hA.st.cell (World.block_lt_of_cell? _ _ HF.out)).trans HF.out
            refine opStep none 0 rfl rfl (fun c hc => by cases hc) ?_
            go_simp
            exact hK _ _ rfl (Below.refl _ _) trivial
          · -- 4
            intro li a1 W2 hA K hK
            have e2 := hA.par 2 (by kernel_rfl)
            refine opStep none 0 rfl rfl (fun c hc => by cases hc) ?_
            go_simp
            exact hK _ _ rfl (Below.refl _ _) trivial
          · -- 5
            intro li a1 W2 hA K hK
            have e17 : a1.tmps.getD 17 undef = .pointer (some ⟨w.heap.size, 2, none⟩) := hA.val 4 17 (by kernel_rfl) (by kernel_rfl)
            obtain ⟨q1, q2, q3, q4⟩ := (HTR.out.keep hA.st).c4
            refine opStep none 0 rfl rfl (fun c hc => by cases hc) ?_
            go_simp
            exact hK _ _ rfl (Below.refl _ _) trivial
          · -- 6
            intro li a1 W2 hA K hK
            have e6 := hA.par 6 (by kernel_rfl)
            refine opStep none 0 rfl rfl (fun c hc => by cases hc) ?_
            go_simp
            exact hK _ _ rfl (Below.refl _ _) trivial
          · -- 7
            intro li a1 W2 hA K hK
            have e18 : a1.tmps.getD 18 undef = .slice (some aa) m.ss.length c2 := hA.val 5 18 (by kernel_rfl) (by kernel_rfl)
            have e19 : a1.tmps.getD 19 undef = .int .i64 (k : Int) := hA.val 6 19 (by kernel_rfl) (by kernel_rfl)
            refine opStep none 0 rfl rfl (fun c hc => by cases hc) ?_
            go_simp
            exact hK _ _ (by first | rfl | exact congrArg (fun q => Value.pointer (some q)) (add_blk _ _)) (Below.refl _ _) trivial
          · -- 8
            intro li a1 W2 hA K hK
            have e20 : a1.tmps.getD 20 undef = .pointer (some (aa.add (k * 5))) := hA.val 7 20 (by kernel_rfl) (by kernel_rfl)
            refine opStep none 0 rfl rfl (fun c hc => by cases hc) ?_
            go_simp
            exact hK _ _ rfl (Below.refl _ _) trivial
          · -- 9
            intro li a1 W2 hA K hK
            have e21 : a1.tmps.getD 21 undef = .pointer (some ⟨(aa.add (k * 5)).block, (aa.add (k * 5)).off + 1, none⟩) := hA.val 8 21 (by kernel_rfl) (by kernel_rfl)
            have q1 := (hA.st.cell (World.block_lt_of_cell? _ _ HF2.out)).trans HF2.out
            refine opStep none 0 rfl rfl (fun c hc => by cases hc) ?_
            go_simp
            exact hK _ _ rfl (Below.refl _ _) trivial
        · intro li a1 W2 hD
          have e16 : a1.tmps.getD 16 undef = .int .i64 x := hD.val 3 16 (by kernel_rfl) (by kernel_rfl)
          have e22 : a1.tmps.getD 22 undef = .int .i64 s.n := hD.val 9 22 (by kernel_rfl) (by kernel_rfl)
          have hkp2 := hD.keeps (ds := [13, 14, 15, 16, 17, 18, 19, 20, 21, 22, 23]) (by kernel_rfl)
          have hds := hD.size
          have hsz9 : a1.tmps.size = 27 := hD.size
          have hdd := hD.defers
          have hst := hD.st
          refine tail_val (i := 10) (v := .bool true) (W' := W2) none 0 rfl rfl rfl (fun c hc => by cases hc) (by go_simp) (by rw [hsz9]; decide) ?_
          intro a3 s3 d3 f3 o3
          have hkp3 := keeps_then hkp2 o3 (by decide)
          have e := act_mix [13, 14, 15, 16, 17, 18, 19, 20, 21, 22, 23] (s3.trans hds) (d3.trans hdd) (fun i _ hc => hkp3 i hc)
          have hg9 : (fun i => a3.tmps.getD i undef) 23 = .bool true := f3
          generalize (fun i => a3.tmps.getD i undef) = g' at e hg9
          refine wpListIn_nil ?_
          rw [e]
          clear e hD hkp2 hkp3 s3 d3 f3 o3 hds hdd hsz9 e16 e22
          simp only [mix, List.contains_cons, List.contains_nil, Nat.reduceAdd, Nat.reduceBEq, Bool.or_false, Bool.or_true, cond_true, cond_false, hg9]
          clear hg9
          have HN2 := hid (HR.out.trans (hst.mono HR.out.size))
          clear hst HF HF2 HR HTR HS
          go_wp2
          go_roundw
          case rel => exact ⟨k + 1, by omega, by go_num, by rw [HNX.out], HN2.out⟩
          case measure => first | (simp [intOf]; done) | (simp [intOf]; omega)
    · have hkI : decide ((k : Int) < (xs.length : Int)) = false := by simp; omega
      obtain rfl : k = xs.length := by omega
      have HB := hid (HB0.out.trans (HR.out.mono HB0.out.size))
      clear HR HTR
      go_wp2
      go_ret
      exact ⟨rfl, HB.out⟩
end Go.Proofs.Ytoeabajigfdkaaa
/- The reference of layer 11: whether borders are right. Conditions stand at the theorem. -/
namespace Go.Proofs.Ytoeabajigfdkaaa
open Go.RowKit Go.Shelf

theorem rightTo_yes {m : MapD} {l : Nat → Int} {lo hi : Int} {k : Nat} (h : rightTo m l lo hi k = true) (h1 : lo ≤ sizeLo m (inD l (k : Int)) m.old.length) (h2 : sizeHi m (inD l (k : Int)) m.old.length ≤ hi) (h3 : conB m l (k : Int) = true) : rightTo m l lo hi (k + 1) = true := by
  rw [rightTo_succ, h, h3, decide_eq_true h1, decide_eq_true h2]; rfl
set_option maxRecDepth 100000 in
set_option maxHeartbeats 4000000 in
theorem qright_any (m : MapD) (A : Option Addr) (c : Nat) (A2 : Option Addr) (c2 : Nat) (A3 : Option Addr) (c3 : Nat) (A4 : Option Addr) (c4 : Nat) (bs : List Int) (lo hi : Int) (w : World) (h : MIn m A c A2 c2 A3 c3 w) (ok : OkM m) (hx : IsInts w w.heap.size A4 bs) (hbl : bs.length = m.ss.length) (hb4 : bs.length ≤ c4) (hb5 : c4 ≤ maxLen) :
    Calls Try.prog 41 #[.agg #[.slice A m.old.length c, .int .i64 m.nw, .slice A2 m.ss.length c2, .slice A3 m.js.length c3], .slice A4 bs.length c4, .agg #[.int .i64 lo, .int .i64 hi]] w fun e w' => e = .returned (.bool (rightB m (fnO bs) lo hi)) ∧ Below w.heap.size w w' := by
  obtain ⟨N, hN⟩ : ∃ N : Nat, m.nw = (N : Int) := ⟨m.nw.toNat, by have := ok.n1; omega⟩
  have hN4 : N ≤ 4 := by have := ok.n4; omega
  have hB := (below_box (w := w) #[.slice A m.old.length c, .int .i64 m.nw, .slice A2 m.ss.length c2, .slice A3 m.js.length c3] 26).alloc (below_box (w := w) #[.slice A m.old.length c, .int .i64 m.nw, .slice A2 m.ss.length c2, .slice A3 m.js.length c3] 26).size (.cells #[.int .i64 lo, .int .i64 hi] 43)
  have hT := (Blk.new w 26 #[.slice A m.old.length c, .int .i64 m.nw, .slice A2 m.ss.length c2, .slice A3 m.js.length c3]).alloc (.cells #[.int .i64 lo, .int .i64 hi] 43)
  have hR := Blk.new (w.alloc (.cells #[.slice A m.old.length c, .int .i64 m.nw, .slice A2 m.ss.length c2, .slice A3 m.js.length c3] 26)) 43 #[.int .i64 lo, .int .i64 hi]
  rw [World.size_alloc] at hR
  have HT := hid hT
  have HL := hid hR
  have HB0 := hid hB
  have HA := hid h
  have HX := hid hx
  have OK := hid ok
  have HBL := hid (And.intro hbl (And.intro hb4 hb5))
  have HN := hid hN
  have HRB := hid (show rightB m (fnO bs) lo hi = rightTo m (fnO bs) lo hi N by unfold rightB; rw [hN, Int.toNat_natCast])
  clear hB hT hR h hx ok hbl hb4 hb5 hN
  go_enter Try.func41, Try.ntmps41
  go_wp2
  generalize hW1 : (w.alloc (.cells #[.slice A m.old.length c, .int .i64 m.nw, .slice A2 m.ss.length c2, .slice A3 m.js.length c3] 26)).alloc (.cells #[.int .i64 lo, .int .i64 hi] 43) = w1 at *
  clear hW1
  go_loopw [7, 8] (fun i _ W => ∃ k : Nat, k ≤ N ∧ i = .int .i64 k ∧ rightTo m (fnO bs) lo hi k = true ∧ Below w1.heap.size w1 W) (fun i _ _ => N - (intOf i).toNat)
  case atStart => exact ⟨0, Nat.zero_le _, rfl, rfl, Below.refl _ _⟩
  case round =>
    obtain ⟨k, hk, rfl, hr, hbr⟩ := hrel
    have HR := hid (And.intro hr hbr)
    have HBR := hid (HB0.out.trans (hbr.mono HB0.out.size))
    have htr := HT.out.keep hbr
    obtain ⟨t0, t1, t2, t3⟩ := htr.c4
    clear hr hbr htr
    by_cases hlt : k < N
    · have hkI : (k : Int) < m.nw := by rw [HN.out]; omega
      have K1 := hid (qsize_any m (k : Int) bs A4 c4 A c A2 c2 A3 c3 wr (HA.out.at_ HBR.out) OK.out (HX.out.at_ HBR.out) HBL.out.1 HBL.out.2.1 HBL.out.2.2)
      go_wp2_with fail
      refine K1.out.mono ?_
      rintro e w2 ⟨rfl, hb⟩
      have HPL := hid (show sizeLo m (inD (fnO bs) (k : Int)) m.old.length = sizeLo m (atB bs (k : Int)) m.old.length from rfl)
      have HPH := hid (show sizeHi m (inD (fnO bs) (k : Int)) m.old.length = sizeHi m (atB bs (k : Int)) m.old.length from rfl)
      generalize sizeLo m (atB bs (k : Int)) m.old.length = p at *
      generalize sizeHi m (atB bs (k : Int)) m.old.length = q at *
      have hb2 := then_below hb (below_box (w := w2) #[.int .i64 p, .int .i64 q] 43)
      have HB2 := hid (HR.out.2.trans (hb2.mono HR.out.2.size))
      obtain ⟨t0, t1, t2, t3⟩ := (HT.out.keep HB2.out).c4
      obtain ⟨r0, r1⟩ := (HL.out.keep HB2.out).c2
      obtain ⟨s0, s1⟩ := (Blk.new w2 43 #[.int .i64 p, .int .i64 q]).c2
      have HB3 := hid (HB0.out.trans (HB2.out.mono HB0.out.size))
      clear hb hb2 K1
      by_cases c1 : lo ≤ p
      · have c1B : decide (p < lo) = false := by simp; omega
        by_cases c2' : q ≤ hi
        · have c2B : decide (hi < q) = false := by simp; omega
          have K2 := hid (qconn_any m (k : Int) A c A2 c2 A3 c3 A4 c4 bs _ (HA.out.at_ HB3.out) (HX.out.at_ HB3.out) HBL.out.1 OK.out.s8)
          cases hc : conB m (fnO bs) (k : Int)
          · rw [hc] at K2
            have HRES := hid (show rightB m (fnO bs) lo hi = false by
              rw [HRB.out]
              exact rightTo_false hlt (by rw [hc]; simp))
            clear hc
            go_wp2_with fail
            refine K2.out.mono ?_
            rintro e w3 ⟨rfl, hb3⟩
            have HBF := hid (HB3.out.trans (hb3.mono HB3.out.size))
            clear hb3 t0 t1 t2 t3 r0 r1 s0 s1 K2
            go_wp2
            go_ret
            exact ⟨by rw [HRES.out]; rfl, HBF.out⟩
          · rw [hc] at K2
            have HNX := hid (rightTo_yes HR.out.1 (by rw [HPL.out]; exact c1) (by rw [HPH.out]; exact c2') hc)
            clear hc
            go_wp2_with fail
            refine K2.out.mono ?_
            rintro e w3 ⟨rfl, hb3⟩
            have HBF := hid (HB2.out.trans (hb3.mono HB2.out.size))
            clear hb3 t0 t1 t2 t3 r0 r1 s0 s1 K2
            go_wp2
            go_roundw
            case rel => exact ⟨k + 1, by omega, by go_num, HNX.out, HBF.out⟩
            case measure => first | (simp [intOf]; done) | (simp [intOf]; omega)
        · have c2B : decide (hi < q) = true := by simp; omega
          have HRES := hid (show rightB m (fnO bs) lo hi = false by
            rw [HRB.out]
            exact rightTo_false hlt (by rw [HPH.out, decide_eq_false c2']; simp))
          go_wp2
          go_ret
          exact ⟨by rw [HRES.out]; rfl, HB3.out⟩
      · have c1B : decide (p < lo) = true := by simp; omega
        have HRES := hid (show rightB m (fnO bs) lo hi = false by
          rw [HRB.out]
          exact rightTo_false hlt (by rw [HPL.out, decide_eq_false c1]; simp))
        go_wp2
        go_ret
        exact ⟨by rw [HRES.out]; rfl, HB3.out⟩
    · have hkI : decide ((k : Int) < m.nw) = false := by rw [HN.out]; simp; omega
      have hkN : k = N := by omega
      have HRES := hid (show rightB m (fnO bs) lo hi = true by rw [HRB.out, ← hkN]; exact HR.out.1)
      clear hkN
      go_wp2
      go_ret
      exact ⟨by rw [HRES.out]; rfl, HBR.out⟩
end Go.Proofs.Ytoeabajigfdkaaa
/- The reference of layer 11: the borders with a number. Conditions stand at the theorem. -/
namespace Go.Proofs.Ytoeabajigfdkaaa
open Go.RowKit Go.Shelf

/-- the digits of n: the last street by the lowest one; k streets are done, r is left -/
def nthR (N : Int) (n : Int) : Nat → Int
  | 0 => n
  | k + 1 => nthR N n k / N
def nthF (m : MapD) (n : Int) (k : Nat) : Nat → Int := fun i => if m.ss.length ≤ i + k then nthR m.nw n (m.ss.length - 1 - i) % m.nw else 0
def nthL (m : MapD) (n : Int) (k : Nat) : List Int := lst m (nthF m n k)
theorem nthR_b {N n : Int} (hN : 1 ≤ N) (hn : 0 ≤ n) : ∀ k, 0 ≤ nthR N n k ∧ nthR N n k ≤ n
  | 0 => ⟨hn, Int.le_refl _⟩
  | k + 1 => by
    obtain ⟨h1, h2⟩ := nthR_b hN hn k
    rw [nthR]
    exact ⟨Int.ediv_nonneg h1 (by omega), Int.le_trans (Int.ediv_le_self _ h1) h2⟩
theorem blk_off9 {W : World} {g g' t i : Nat} {cs : Array Value} {v : Value} (h : Blk W g t cs) (hne : g ≠ g') : Blk (W.setCell ⟨g', i, none⟩ v) g t cs :=
  (show Keep (fun q => q = g') W (W.setCell ⟨g', i, none⟩ v) from Keep.of_grown (⟨rfl, rfl, rfl, by simp, fun k _ hn => Below.heap_setCell W ⟨g', i, none⟩ v k (fun e => hn (by rw [e]))⟩ : W.grownBy (W.setCell ⟨g', i, none⟩ v) (some g')) rfl).blk h hne
theorem nthL_zero (m : MapD) (n : Int) : nthL m n 0 = List.replicate m.ss.length 0 := by
  refine List.ext_getElem? fun i => ?_
  by_cases h : i < m.ss.length
  · unfold nthL
    rw [lst_get h, List.getElem?_replicate, if_pos h]
    unfold nthF
    rw [if_neg (by omega)]
  · rw [List.getElem?_eq_none (by unfold nthL; rw [lst_len]; omega), List.getElem?_eq_none (by simp; omega)]
theorem nthL_step {m : MapD} {n : Int} {k i : Nat} (hk : k < m.ss.length) (hi : i + k + 1 = m.ss.length) : (nthL m n k).set i (nthR m.nw n k % m.nw) = nthL m n (k + 1) := by
  refine List.ext_getElem? fun j => ?_
  rw [List.getElem?_set]
  unfold nthL
  by_cases hj : j < m.ss.length
  · rw [lst_get hj, lst_get hj, lst_len]
    unfold nthF
    by_cases e : i = j
    · subst e
      rw [if_pos rfl, if_pos hj, if_pos (by omega), show m.ss.length - 1 - i = k by omega]
    · rw [if_neg e]
      by_cases h : m.ss.length ≤ j + k
      · rw [if_pos h, if_pos (by omega)]
      · rw [if_neg h, if_neg (by omega)]
  · rw [List.getElem?_eq_none (by rw [lst_len]; omega : (lst m (nthF m n (k + 1))).length ≤ j), lst_len]
    split
    · rw [if_neg (by omega)]
    · exact List.getElem?_eq_none (by rw [lst_len]; omega)
set_option maxRecDepth 100000 in
set_option maxHeartbeats 4000000 in
theorem qnth_any (m : MapD) (A : Option Addr) (c : Nat) (A2 : Option Addr) (c2 : Nat) (A3 : Option Addr) (c3 : Nat) (n : Int) (w : World) (h : MIn m A c A2 c2 A3 c3 w) (ok : OkM m) (hn0 : 0 ≤ n) (hn1 : n ≤ 65536) :
    Calls Try.prog 86 #[.agg #[.slice A m.old.length c, .int .i64 m.nw, .slice A2 m.ss.length c2, .slice A3 m.js.length c3], .int .i64 n] w (GivesInts (nthL m n m.ss.length) w) := by
  have hs8 := ok.s8
  have hw1 := ok.n1
  have hw4 := ok.n4
  have hB := below_box (w := w) #[.slice A m.old.length c, .int .i64 m.nw, .slice A2 m.ss.length c2, .slice A3 m.js.length c3] 26
  have hT := Blk.new w 26 #[.slice A m.old.length c, .int .i64 m.nw, .slice A2 m.ss.length c2, .slice A3 m.js.length c3]
  have hmk := run_make_row' (P := Try.prog) 22 3 (.int .i64 0) 8 Try.underlying22 int_info rfl .i64 .i64 m.ss.length (by omega) (by omega)
  rw [intC_zero] at hmk
  have hZ := Blk.new (w.alloc (.cells #[.slice A m.old.length c, .int .i64 m.nw, .slice A2 m.ss.length c2, .slice A3 m.js.length c3] 26)) 3 (intC (List.replicate m.ss.length 0))
  rw [World.size_alloc] at hZ
  have hB2 := hB.alloc hB.size (.cells (intC (List.replicate m.ss.length 0)) 3)
  have hT2 := hT.alloc (.cells (intC (List.replicate m.ss.length 0)) 3)
  have HS := hid (And.intro (show Blk _ (w.heap.size + 1) 3 (intC (nthL m n 0)) by rw [nthL_zero]; exact hZ) (And.intro hT2 hB2))
  have HA := hid h
  obtain ⟨t0, t1, t2, t3⟩ := hT.c4
  have hw5 : IntKind.i64.wrap ((m.ss.length : Int) - 1) = (m.ss.length : Int) - 1 := IntWalk.i64_in _ (by omega)
  have hnz : ¬ m.nw = 0 := by omega
  clear hB hT hZ hB2 hT2 h
  go_enter Try.func86, Try.ntmps86
  go_wp2
  clear t0 t1 t2 t3 hmk hw5
  go_loopw [1, 6] (fun r i W => ∃ k : Nat, k ≤ m.ss.length ∧ i = .int .i64 ((m.ss.length : Int) - 1 - k) ∧ r = .int .i64 (nthR m.nw n k) ∧ Blk W (w.heap.size + 1) 3 (intC (nthL m n k)) ∧ Blk W w.heap.size 26 #[.slice A m.old.length c, .int .i64 m.nw, .slice A2 m.ss.length c2, .slice A3 m.js.length c3] ∧ Below w.heap.size w W) (fun _ i _ => (intOf i + 1).toNat)
  case atStart => exact ⟨0, Nat.zero_le _, by simp, rfl, HS.out⟩
  case round =>
    clear HS
    obtain ⟨k, hk, rfl, rfl, hbo, hbt, hbr⟩ := hrel
    obtain ⟨t0, t1, t2, t3⟩ := hbt.c4
    obtain ⟨r1, r2⟩ := nthR_b (N := m.nw) (n := n) hw1 hn0 k
    by_cases hlt : k < m.ss.length
    · obtain ⟨i, hi⟩ : ∃ i : Nat, i + k + 1 = m.ss.length := ⟨m.ss.length - 1 - k, by omega⟩
      have hie : (m.ss.length : Int) - 1 - k = (i : Int) := by omega
      have hiS : (i : Int) < (m.ss.length : Int) := by omega
      have hge : decide ((0 : Int) ≤ (i : Int)) = true := by simp
      have hlen : (nthL m n k).length = m.ss.length := lst_len _ _
      obtain ⟨y, hy⟩ : ∃ y, (nthL m n k)[i]? = some y := ⟨_, List.getElem?_eq_getElem (by omega)⟩
      have yo := hbo.cell i
      rw [intC_get hy] at yo
      have fo := hbo.frozen i
      have lo := hbo.lt
      have hrm : (nthR m.nw n k).tmod m.nw = nthR m.nw n k % m.nw := Int.tmod_eq_emod_of_nonneg r1
      have hrd : (nthR m.nw n k).tdiv m.nw = nthR m.nw n (k + 1) := by rw [Int.tdiv_eq_ediv_of_nonneg r1]; rfl
      have e1 := Int.emod_nonneg (nthR m.nw n k) hnz
      have e2 := Int.emod_lt_of_pos (nthR m.nw n k) (show 0 < m.nw by omega)
      obtain ⟨r3, r4⟩ := nthR_b (N := m.nw) (n := n) hw1 hn0 (k + 1)
      have HNX := hid (show Blk (wr.setCell ⟨w.heap.size + 1, i, none⟩ (.int .i64 (nthR m.nw n k % m.nw))) (w.heap.size + 1) 3 (intC (nthL m n (k + 1))) ∧ Blk (wr.setCell ⟨w.heap.size + 1, i, none⟩ (.int .i64 (nthR m.nw n k % m.nw))) w.heap.size 26 #[.slice A m.old.length c, .int .i64 m.nw, .slice A2 m.ss.length c2, .slice A3 m.js.length c3] ∧ Below w.heap.size w (wr.setCell ⟨w.heap.size + 1, i, none⟩ (.int .i64 (nthR m.nw n k % m.nw))) by
        refine ⟨?_, blk_off9 hbt (by omega), hbr.setCell (p := ⟨w.heap.size + 1, i, none⟩) (show w.heap.size ≤ w.heap.size + 1 by omega) _⟩
        have := hbo.set_ i (.int .i64 (nthR m.nw n k % m.nw))
        rw [intC_set] at this
        rw [← nthL_step hlt hi]
        exact this)
      obtain ⟨t0', t1', t2', t3'⟩ := HNX.out.2.1.c4
      have hwm : IntKind.i64.wrap (nthR m.nw n k % m.nw) = nthR m.nw n k % m.nw := IntWalk.i64_in _ (by omega)
      have hwd : IntKind.i64.wrap (nthR m.nw n (k + 1)) = nthR m.nw n (k + 1) := IntWalk.i64_in _ (by omega)
      have hwi : IntKind.i64.wrap ((i : Int) - 1) = (m.ss.length : Int) - 1 - ((k + 1 : Nat) : Int) := by rw [IntWalk.i64_in _ (by omega)]; omega
      rw [hie]
      clear hbo hbt hbr hy
      go_wp2
      go_roundw
      case rel => exact ⟨k + 1, by omega, by go_num, rfl, HNX.out⟩
      case measure => first | (simp [intOf]; done) | (simp [intOf]; omega)
    · obtain rfl : k = m.ss.length := by omega
      have hge : decide ((0 : Int) ≤ (m.ss.length : Int) - 1 - (m.ss.length : Int)) = false := by simp; omega
      have hsl : (nthL m n m.ss.length).length = m.ss.length := lst_len _ _
      have HFIN := hid (show GivesInts (nthL m n m.ss.length) w (.returned (.slice (some ⟨w.heap.size + 1, 0, none⟩) m.ss.length m.ss.length)) wr from
        ⟨some ⟨w.heap.size + 1, 0, none⟩, m.ss.length, by rw [hsl], by rw [hsl]; exact Nat.le_refl _, by unfold maxLen; omega, ints_blk hbo, (fun a e => by cases e; exact ⟨Nat.le_succ _, _, hbo⟩), (fun e => by cases e), hbr⟩)
      clear hbo hbt hbr hsl
      go_wp2
      go_ret
      exact HFIN.out
end Go.Proofs.Ytoeabajigfdkaaa
/- The reference's Best in plain words: the best number, and that it is the one of the best borders. Conditions stand at each theorem. -/
namespace Go.Proofs.Ytoeabajigfdkaaa

/-- the borders with number n, what they move, whether they are right -/
def nthA (m : MapD) (n : Nat) : List Int := nthL m (n : Int) m.ss.length
def nthV (m : MapD) (n : Nat) : Int := movN m (fnO (nthA m n)) m.ss.length
def nthG (m : MapD) (lo hi : Int) (n : Nat) : Bool := rightB m (fnO (nthA m n)) lo hi
/-- the best number among the first n -/
def bqT (m : MapD) (lo hi : Int) : Nat → Option Nat
  | 0 => none
  | n + 1 => match bqT m lo hi n with
    | none => if nthG m lo hi n then some n else none
    | some q => if nthV m n < nthV m q ∧ nthG m lo hi n = true then some n else some q
def bqL (m : MapD) : Option Nat → List Int
  | none => []
  | some q => nthA m q
theorem nthA_len (m : MapD) (n : Nat) : (nthA m n).length = m.ss.length := lst_len _ _
theorem nthA_fn {m : MapD} {n i : Nat} (hi : i < m.ss.length) : fnO (nthA m n) i = nthF m (n : Int) m.ss.length i := fnO_lst hi
theorem pow_le (N k : Nat) (hN : N ≤ 4) (hk : k ≤ 8) : N ^ k ≤ 65536 := Nat.le_trans (Nat.pow_le_pow_left hN k) (Nat.le_trans (Nat.pow_le_pow_right (by decide) hk) (by decide))
/-- what the best number is -/
def BqIs (m : MapD) (lo hi : Int) (n : Nat) : Option Nat → Prop
  | none => ∀ k, k < n → nthG m lo hi k = false
  | some q => q < n ∧ nthG m lo hi q = true ∧ ∀ k, k < n → nthG m lo hi k = true → nthV m q < nthV m k ∨ (nthV m q = nthV m k ∧ q ≤ k)
theorem bqT_is (m : MapD) (lo hi : Int) : ∀ n, BqIs m lo hi n (bqT m lo hi n)
  | 0 => fun k hk => by omega
  | n + 1 => by
    have ih := bqT_is m lo hi n
    rw [bqT]
    cases hb : bqT m lo hi n with
    | none =>
      rw [hb] at ih
      simp only
      cases hg : nthG m lo hi n with
      | true =>
        rw [if_pos rfl]
        refine ⟨by omega, hg, fun k hk hk2 => ?_⟩
        by_cases e : k = n
        · subst e; exact .inr ⟨rfl, Nat.le_refl _⟩
        · have := ih k (by omega)
          rw [hk2] at this; cases this
      | false =>
        rw [if_neg (by simp)]
        intro k hk
        by_cases e : k = n
        · subst e; exact hg
        · exact ih k (by omega)
    | some q =>
      rw [hb] at ih
      obtain ⟨h1, h2, h3⟩ := ih
      simp only
      by_cases hc : nthV m n < nthV m q ∧ nthG m lo hi n = true
      · rw [if_pos hc]
        refine ⟨by omega, hc.2, fun k hk hk2 => ?_⟩
        by_cases e : k = n
        · subst e; exact .inr ⟨rfl, Nat.le_refl _⟩
        · rcases h3 k (by omega) hk2 with h | h
          · exact .inl (by omega)
          · exact .inl (by omega)
      · rw [if_neg hc]
        refine ⟨by omega, h2, fun k hk hk2 => ?_⟩
        by_cases e : k = n
        · subst e
          have : ¬ nthV m k < nthV m q := fun h => hc ⟨h, hk2⟩
          by_cases e2 : nthV m q = nthV m k
          · exact .inr ⟨e2, by omega⟩
          · exact .inl (by omega)
        · exact h3 k (by omega) hk2
theorem nthR_nat (N n : Nat) : ∀ k, nthR (N : Int) (n : Int) k = ((n / N ^ k : Nat) : Int)
  | 0 => by rw [nthR, Nat.pow_zero, Nat.div_one]
  | k + 1 => by
    rw [nthR, nthR_nat N n k, Nat.pow_succ, ← Nat.div_div_eq_div_mul]
    exact (Int.natCast_ediv _ _).symm
theorem nthF_at {m : MapD} {N n i f : Nat} (hN : m.nw = (N : Int)) (hi : i + f + 1 = m.ss.length) : nthF m (n : Int) m.ss.length i = ((n / N ^ f % N : Nat) : Int) := by
  unfold nthF
  rw [if_pos (by omega), show m.ss.length - 1 - i = f by omega, hN, nthR_nat]
  exact (Int.natCast_emod _ _).symm
theorem nthF_in {m : MapD} (h1 : 1 ≤ m.nw) {n i : Nat} (_hi : i < m.ss.length) : 0 ≤ nthF m (n : Int) m.ss.length i ∧ nthF m (n : Int) m.ss.length i < m.nw := by
  unfold nthF
  rw [if_pos (by omega)]
  exact ⟨Int.emod_nonneg _ (by omega), Int.emod_lt_of_pos _ (by omega)⟩
theorem numF_nth {m : MapD} {N n : Nat} (hN : m.nw = (N : Int)) : ∀ f s, s + f = m.ss.length → numF (N : Int) (nthF m (n : Int) m.ss.length) f s = ((n % N ^ f : Nat) : Int)
  | 0, s, _ => by simp [numF, Nat.mod_one]
  | f + 1, s, h => by
    rw [numF, numF_nth hN f (s + 1) (by omega), nthF_at hN (show s + f + 1 = m.ss.length by omega), Nat.pow_succ, Nat.mod_mul]
    rw [Int.natCast_add, Int.natCast_mul, Int.natCast_pow, Int.mul_comm, Int.add_comm]
theorem nthA_right {m : MapD} (h1 : 1 ≤ m.nw) {lo hi : Int} {n : Nat} (hg : nthG m lo hi n = true) : RightAll m lo hi (nthF m (n : Int) m.ss.length) :=
  ⟨fun i hi => nthF_in h1 hi, by
    unfold nthG at hg
    rw [← hg]
    exact rightB_congr fun i hi => (nthA_fn hi).symm⟩
theorem nthV_eq (m : MapD) (n : Nat) : nthV m n = movN m (nthF m (n : Int) m.ss.length) m.ss.length := movN_congr fun _ hi => nthA_fn hi
theorem best_ref_none {m : MapD} (ok : OkM m) {lo hi : Int} (h : bestB m lo hi = none) : bqT m lo hi (m.nw.toNat ^ m.ss.length) = none := by
  have hi_ := bqT_is m lo hi (m.nw.toNat ^ m.ss.length)
  cases hb : bqT m lo hi (m.nw.toNat ^ m.ss.length) with
  | none => rfl
  | some q =>
    rw [hb] at hi_
    exact absurd (nthA_right ok.n1 hi_.2.1) (best_none_iff h _)
theorem best_ref_some {m : MapD} (ok : OkM m) {lo hi : Int} {j : Nat} {l : Nat → Int} (h : bestB m lo hi = some (j, l)) : ∃ q, bqT m lo hi (m.nw.toNat ^ m.ss.length) = some q ∧ nthA m q = lst m l := by
  have n1 := ok.n1
  obtain ⟨N, hN⟩ : ∃ N : Nat, m.nw = (N : Int) := ⟨m.nw.toNat, by omega⟩
  have hNT : m.nw.toNat = N := by omega
  obtain ⟨r1, r2, r3⟩ := best_some_iff h
  have hi_ := bqT_is m lo hi (m.nw.toNat ^ m.ss.length)
  rw [hNT] at hi_ ⊢
  obtain ⟨b1, b2⟩ := numF_b (N := (N : Int)) (by omega) (l := l) m.ss.length 0 fun i _ hi => by have := r1.1 i (by omega); omega
  obtain ⟨n0, hn0⟩ : ∃ n0 : Nat, numF (N : Int) l m.ss.length 0 = (n0 : Int) := ⟨_, (Int.toNat_of_nonneg b1).symm⟩
  have hlt : n0 < N ^ m.ss.length := by
    have : ((n0 : Nat) : Int) < ((N ^ m.ss.length : Nat) : Int) := by rw [Int.natCast_pow, ← hn0]; exact b2
    omega
  have hin : ∀ n i : Nat, 0 ≤ i → i < 0 + m.ss.length → 0 ≤ nthF m (n : Int) m.ss.length i ∧ nthF m (n : Int) m.ss.length i < (N : Int) := fun n i _ hi => by have := nthF_in n1 (n := n) (show i < m.ss.length by omega); omega
  have hnum : ∀ n, n < N ^ m.ss.length → numF (N : Int) (nthF m (n : Int) m.ss.length) m.ss.length 0 = (n : Int) := fun n hn => by rw [numF_nth hN m.ss.length 0 (by omega), Nat.mod_eq_of_lt hn]
  have hag : ∀ i, i < m.ss.length → nthF m (n0 : Int) m.ss.length i = l i := fun i hi =>
    lexle_anti (l := nthF m (n0 : Int) m.ss.length) (l' := l) m.ss.length 0 (lexle_of_num (N := (N : Int)) (by omega) _ _ (hin n0) (fun i _ hi => by have := r1.1 i (by omega); omega) (by rw [hnum n0 hlt, hn0]; exact Int.le_refl _)) (lexle_of_num (N := (N : Int)) (by omega) _ _ (fun i _ hi => by have := r1.1 i (by omega); omega) (hin n0) (by rw [hnum n0 hlt, hn0]; exact Int.le_refl _)) i (by omega) (by omega)
  have hg0 : nthG m lo hi n0 = true := by
    unfold nthG
    rw [← r1.2]
    exact rightB_congr fun i hi => by rw [nthA_fn hi]; exact hag i hi
  have hv0 : nthV m n0 = j := by rw [nthV_eq, ← r2]; exact movN_congr hag
  cases hb : bqT m lo hi (N ^ m.ss.length) with
  | none =>
    rw [hb] at hi_
    have := hi_ n0 hlt
    rw [hg0] at this; cases this
  | some q =>
    rw [hb] at hi_
    obtain ⟨h1, h2, h3⟩ := hi_
    refine ⟨q, rfl, lst_congr fun i hi => ?_⟩
    have hq := h3 n0 hlt hg0
    rw [hv0] at hq
    have hr := r3 _ (nthA_right n1 h2)
    rw [← nthV_eq] at hr
    have hle : q ≤ n0 := by omega
    have hlx : lexle l (nthF m (q : Int) m.ss.length) m.ss.length 0 := by
      rcases hr with h | h
      · omega
      · exact h.2
    have hl2 : lexle (nthF m (q : Int) m.ss.length) l m.ss.length 0 := lexle_of_num (N := (N : Int)) (by omega) _ _ (hin q) (fun i _ hi => by have := r1.1 i (by omega); omega) (by rw [hnum q h1, hn0]; omega)
    exact lexle_anti (l := nthF m (q : Int) m.ss.length) (l' := l) m.ss.length 0 hl2 hlx i (by omega) (by omega)
end Go.Proofs.Ytoeabajigfdkaaa
