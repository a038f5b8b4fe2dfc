/- The walks and the plain laws of this part of the program, part 10: what each computes. Conditions stand at each theorem. -/
import Derived.RangeFuncNested
import Derived.RangeFuncLeaves
import Derived.OwnWalkIn
import Derived.TacticsInMore
import Derived.LoopNIn
import Derived.LoopIn
import Derived.IntWalk
import Derived.Maps.AppendAt
import Derived.Test.YtlnamjhgbdacbaaGreatG1
import Derived.Test.YtlnamjhgbdacbaaGreatG2
import Derived.Test.YtlnamjhgbdacbaaGreatG6
import Derived.Test.YtlnamjhgbdacbaaGreatG7
import Derived.Test.YtlnamjhgbdacbaaGreatG9
/- The border package's small tests: within, inside, isCount, street, join. Conditions stand at each theorem. -/
namespace Go.Proofs.YtlnamjhgbdacbaaGreat
open Go.RowKit Go.Shelf

set_option maxHeartbeats 400000 in
theorem bwithin_any (n lo hi : Int) (w : World) : Calls Tryz.prog 52 #[.int .i64 n, .int .i64 lo, .int .i64 hi] w fun e w' => e = .returned (.bool (inB n lo hi)) ∧ w = w' := by
  by_cases h1 : lo ≤ n
  · have hd : inB n lo hi = decide (n ≤ hi) := by simp [inB, h1]
    rw [hd]; clear hd
    go_enter Tryz.func52, Tryz.ntmps52
    go_wp2
    go_ret
    exact ⟨rfl, rfl⟩
  · have hd : inB n lo hi = false := by simp [inB, h1]
    rw [hd]; clear hd
    go_enter Tryz.func52, Tryz.ntmps52
    go_wp2
    go_ret
    exact ⟨rfl, rfl⟩
theorem bcount_any (n : Int) (w : World) : Calls Tryz.prog 51 #[.int .i64 n] w fun e w' => e = .returned (.bool (cntOk n)) ∧ w = w' := by
  go_enter Tryz.func51, Tryz.ntmps51
  go_wp2_with (go_at_call 52; refine (bwithin_any _ _ _ _).mono ?_; rintro e w' ⟨rfl, rfl⟩)
  go_ret
  exact ⟨rfl, rfl⟩
set_option maxHeartbeats 400000 in
theorem binside_any (lo hi top : Int) (w : World) : Calls Tryz.prog 74 #[.agg #[.int .i64 lo, .int .i64 hi], .int .i64 top] w fun e w' => e = .returned (.bool (rngOk lo hi top)) ∧ Below w.heap.size w w' := by
  by_cases h1 : 0 ≤ lo
  · by_cases h2 : lo ≤ hi
    · have hd : rngOk lo hi top = decide (hi ≤ top) := by simp [rngOk, h1, h2]
      rw [hd]; clear hd
      go_enter Tryz.func74, Tryz.ntmps74
      go_wp2
      go_ret
      exact ⟨rfl, below_box _ _⟩
    · have hd : rngOk lo hi top = false := by simp [rngOk, h2]
      rw [hd]; clear hd
      have h2 : decide (lo ≤ hi) = false := by simp; omega
      go_enter Tryz.func74, Tryz.ntmps74
      go_wp2
      go_ret
      exact ⟨rfl, below_box _ _⟩
  · have hd : rngOk lo hi top = false := by simp [rngOk, h1]
    rw [hd]; clear hd
    have h1 : decide (0 ≤ lo) = false := by simp; omega
    go_enter Tryz.func74, Tryz.ntmps74
    go_wp2
    go_ret
    exact ⟨rfl, below_box _ _⟩
set_option maxRecDepth 10000 in
set_option maxHeartbeats 1000000 in
theorem bstreet_any (m : MapD) (s : Stt) (A : Option Addr) (c : Nat) (A2 : Option Addr) (c2 : Nat) (v3 : Value) (w : World) (hl : m.old.length ≤ maxLen) (h1 : 1 ≤ m.nw) (h4 : m.nw ≤ 4) :
    Calls Tryz.prog 48 #[.agg #[.slice A m.old.length c, .int .i64 m.nw, .slice A2 m.ss.length c2, v3], .agg #[.int .i64 s.o, .int .i64 s.n, .int .i64 s.wt, .int .i64 s.lo, .int .i64 s.hi]] w fun e w' => e = .returned (.bool (sttOk m s)) ∧ Below w.heap.size w w' := by
  unfold maxLen at hl
  have hB := then_below (below_box (w := w) #[.slice A m.old.length c, .int .i64 m.nw, .slice A2 m.ss.length c2, v3] 36) (below_box #[.int .i64 s.o, .int .i64 s.n, .int .i64 s.wt, .int .i64 s.lo, .int .i64 s.hi] 70)
  have HB := hid hB
  clear hB
  cases k1 : inB s.o 0 ((m.old.length : Int) - 1)
  · have HR := hid (show sttOk m s = false by unfold sttOk; rw [k1]; rfl)
    have K1 := hid k1
    clear k1
    go_enter Tryz.func48, Tryz.ntmps48
    go_wp2_with fail
    refine (bwithin_any _ _ _ _).mono ?_
    rintro e w' ⟨rfl, rfl⟩
    rw [K1.out]
    go_wp2
    go_ret
    exact ⟨ret_bool HR.out.symm, HB.out⟩
  · cases k2 : inB s.n 0 (m.nw - 1)
    · have HR := hid (show sttOk m s = false by unfold sttOk; rw [k1, k2]; rfl)
      have K1 := hid (And.intro k1 k2)
      clear k1 k2
      go_enter Tryz.func48, Tryz.ntmps48
      go_wp2_with fail
      refine (bwithin_any _ _ _ _).mono ?_
      rintro e w' ⟨rfl, rfl⟩
      rw [K1.out.1]
      go_wp2_with fail
      refine (bwithin_any _ _ _ _).mono ?_
      rintro e w' ⟨rfl, rfl⟩
      rw [K1.out.2]
      go_wp2
      go_ret
      exact ⟨ret_bool HR.out.symm, HB.out⟩
    · cases k3 : inB s.wt 0 1000
      · have HR := hid (show sttOk m s = false by unfold sttOk; rw [k1, k2, k3]; rfl)
        have K1 := hid (And.intro k1 (And.intro k2 k3))
        clear k1 k2 k3
        go_enter Tryz.func48, Tryz.ntmps48
        go_wp2_with fail
        refine (bwithin_any _ _ _ _).mono ?_
        rintro e w' ⟨rfl, rfl⟩
        rw [K1.out.1]
        go_wp2_with fail
        refine (bwithin_any _ _ _ _).mono ?_
        rintro e w' ⟨rfl, rfl⟩
        rw [K1.out.2.1]
        go_wp2_with fail
        refine (bwithin_any _ _ _ _).mono ?_
        rintro e w' ⟨rfl, rfl⟩
        rw [K1.out.2.2]
        go_wp2
        go_ret
        exact ⟨ret_bool HR.out.symm, HB.out⟩
      · have HR := hid (show sttOk m s = rngOk s.lo s.hi 10000 by unfold sttOk; rw [k1, k2, k3]; rfl)
        have K1 := hid (And.intro k1 (And.intro k2 k3))
        clear k1 k2 k3
        go_enter Tryz.func48, Tryz.ntmps48
        go_wp2_with fail
        refine (bwithin_any _ _ _ _).mono ?_
        rintro e w' ⟨rfl, rfl⟩
        rw [K1.out.1]
        go_wp2_with fail
        refine (bwithin_any _ _ _ _).mono ?_
        rintro e w' ⟨rfl, rfl⟩
        rw [K1.out.2.1]
        go_wp2_with fail
        refine (bwithin_any _ _ _ _).mono ?_
        rintro e w' ⟨rfl, rfl⟩
        rw [K1.out.2.2]
        go_wp2_with fail
        refine (binside_any _ _ _ _).mono ?_
        rintro e w' ⟨rfl, hb⟩
        go_wp2
        go_ret
        exact ⟨ret_bool HR.out.symm, HB.out.trans (hb.mono HB.out.size)⟩
set_option maxRecDepth 10000 in
set_option maxHeartbeats 1000000 in
theorem bjoin_any (m : MapD) (j : Jn) (v0 v1 : Value) (A2 : Option Addr) (c2 : Nat) (v3 : Value) (w : World) (hl : m.ss.length ≤ maxLen) :
    Calls Tryz.prog 49 #[.agg #[v0, v1, .slice A2 m.ss.length c2, v3], .agg #[.int .i64 j.a, .int .i64 j.b]] w fun e w' => e = .returned (.bool (jnOk m j)) ∧ Below w.heap.size w w' := by
  unfold maxLen at hl
  have hB := then_below (below_box (w := w) #[v0, v1, .slice A2 m.ss.length c2, v3] 36) (below_box #[.int .i64 j.a, .int .i64 j.b] 77)
  have HB := hid hB
  clear hB
  cases k1 : inB j.a 0 ((m.ss.length : Int) - 1)
  · have HR := hid (show jnOk m j = false by unfold jnOk; rw [k1]; rfl)
    have K1 := hid k1
    clear k1
    go_enter Tryz.func49, Tryz.ntmps49
    go_wp2_with fail
    refine (bwithin_any _ _ _ _).mono ?_
    rintro e w' ⟨rfl, rfl⟩
    rw [K1.out]
    go_wp2
    go_ret
    exact ⟨ret_bool HR.out.symm, HB.out⟩
  · cases k2 : inB j.b 0 ((m.ss.length : Int) - 1)
    · have HR := hid (show jnOk m j = false by unfold jnOk; rw [k1, k2]; rfl)
      have K1 := hid (And.intro k1 k2)
      clear k1 k2
      go_enter Tryz.func49, Tryz.ntmps49
      go_wp2_with fail
      refine (bwithin_any _ _ _ _).mono ?_
      rintro e w' ⟨rfl, rfl⟩
      rw [K1.out.1]
      go_wp2_with fail
      refine (bwithin_any _ _ _ _).mono ?_
      rintro e w' ⟨rfl, rfl⟩
      rw [K1.out.2]
      go_wp2
      go_ret
      exact ⟨ret_bool HR.out.symm, HB.out⟩
    · have HR := hid (show jnOk m j = (j.a != j.b) by unfold jnOk; rw [k1, k2]; rfl)
      have K1 := hid (And.intro k1 k2)
      clear k1 k2
      go_enter Tryz.func49, Tryz.ntmps49
      go_wp2_with fail
      refine (bwithin_any _ _ _ _).mono ?_
      rintro e w' ⟨rfl, rfl⟩
      rw [K1.out.1]
      go_wp2_with fail
      refine (bwithin_any _ _ _ _).mono ?_
      rintro e w' ⟨rfl, rfl⟩
      rw [K1.out.2]
      go_wp2
      go_ret
      exact ⟨ret_bool HR.out.symm, HB.out⟩
end Go.Proofs.YtlnamjhgbdacbaaGreat
/- The streets of an old district: the iterator of, and a loop over it. Conditions stand at each theorem. -/
namespace Go.Proofs.YtlnamjhgbdacbaaGreat
open Go.RowKit Go.Shelf

attribute [local go_sem] Oper.semAt_some
@[go_sem] theorem FW_round_m (ro : Option Nat) : (FW ro).round = ro := rfl
@[go_sem] theorem FW_depth_m (ro : Option Nat) : (FW ro).depth = none := rfl

theorem Keep.of_other' {Z : Nat → Prop} {W W' : World} {z : Nat} (h : W.grownBy W' (some z)) (hz : ∃ o, W.heap[z]? = some o ∧ o.isCells = false) : Keep Z W W' :=
  ⟨h.os, h.tape, h.output, h.size, fun i _ _ _ hi _ => (h.block i (Array.getElem?_eq_some_iff.1 hi).1 (fun e => by
    obtain ⟨o, ho, hn⟩ := hz
    cases e
    rw [ho] at hi
    cases hi
    cases hn)).trans hi⟩
set_option maxHeartbeats 400000 in
theorem of_any (v0 v1 v2 v3 : Value) (d : Int) (w : World) : Calls Tryz.prog 56 #[.agg #[v0, v1, v2, v3], .int .i64 d] w fun e w' => e = .returned (.func (.func 80) #[] #[.pointer (some ⟨w.heap.size, 0, none⟩), .pointer (some ⟨w.heap.size + 1, 0, none⟩)]) ∧ Below w.heap.size w w' ∧ Blk w' w.heap.size 36 #[v0, v1, v2, v3] ∧ Blk w' (w.heap.size + 1) 3 #[.int .i64 d] := by
  have hB := then_below (below_box (w := w) #[v0, v1, v2, v3] 36) (below_box #[.int .i64 d] 3)
  have h1 := (Blk.new w 36 #[v0, v1, v2, v3]).alloc (.cells #[.int .i64 d] 3)
  have h2 := Blk.new (w.alloc (.cells #[v0, v1, v2, v3] 36)) 3 #[.int .i64 d]
  rw [World.size_alloc] at h2
  have H := hid (And.intro hB (And.intro h1 h2))
  clear hB h1 h2
  go_enter Tryz.func56, Tryz.ntmps56
  go_wp2
  go_ret
  exact ⟨rfl, H.out⟩

/-- the iterator g gives the streets of old district d, in order, whatever the loop's body does to the cells of X -/
def OfC (m : MapD) (d : Int) (g : Nat) (lb : Array Value) (X : Nat → Prop) (w0 : World) : Prop :=
  ∀ (l : Nat) (J : Nat → World → Prop) (Jx : World → Prop) (W : World), Below w0.heap.size w0 W →
    (∀ k W1 W2, J k W1 → Below W1.heap.size W1 W2 → J k W2) →
    (∀ k s W1, m.ss[k]? = some s → s.o ≠ d → J k W1 → J (k + 1) W1) →
    (∀ (k : Nat) s W1, m.ss[k]? = some s → s.o = d → J k W1 → YieldAt (FW none) 0 Tryz.prog l #[.int .i64 (k : Int), .agg #[.int .i64 s.o, .int .i64 s.n, .int .i64 s.wt, .int .i64 s.lo, .int .i64 s.hi]] W1 fun e W2 => (e = .returned (.bool true) ∧ J (k + 1) W2 ∧ Keep X W1 W2) ∨ (e = .returned (.bool false) ∧ Jx W2)) →
    J 0 W →
    CallsIn (FW none) 0 Tryz.prog g (#[.func (.yield l) #[] #[]] ++ lb) W fun e W' => (∃ v, e = .returned v) ∧ (J m.ss.length W' ∨ Jx W')

set_option maxRecDepth 100000 in
set_option maxHeartbeats 2000000 in
theorem of1_any {m : MapD} {A2 : Option Addr} {c2 : Nat} {v0 v1 v3 : Value} {d : Int} {n : Nat} {w0 : World} {Bm Bd : Nat} {X : Nat → Prop}
    (hm : Blk w0 Bm 36 #[v0, v1, .slice A2 m.ss.length c2, v3]) (hd : Blk w0 Bd 3 #[.int .i64 d]) (hn : n ≤ w0.heap.size) (hs : IsStts w0 n A2 m.ss) (hl : m.ss.length ≤ c2) (hc : c2 ≤ maxLen) (hX : ∀ k, X k → n ≤ k ∧ k ≠ Bd) :
    OfC m d 80 #[.pointer (some ⟨Bm, 0, none⟩), .pointer (some ⟨Bd, 0, none⟩)] X w0 := by
  intro l J Jx W hb hJg hsk hy hj
  unfold maxLen at hc
  have hm' := hm.keep hb
  have HD := hid (hd.keep hb)
  have HS := hid (hs.below (hb.mono hn))
  have HX := hid hX
  have HJ := hid (And.intro hJg (And.intro hsk hy))
  have HJ0 := hid hj
  obtain ⟨t0, t1, t2, t3⟩ := hm'.c4
  clear hm hd hs hX hJg hsk hy hj hb hm'
  refine callsIn_of_wp Tryz.func80 rfl trivial ?_ rfl
  simp only [Tryz.ntmps80, List.size_toArray, List.length_cons, List.length_nil, Nat.reduceAdd, Nat.reduceSub, Array.replicate_succ, Array.replicate_zero, List.push_toArray, List.append_toArray, List.nil_append, List.cons_append]
  gi_wp2
  clear t0 t1 t2 t3
  gi_loopw [9] (fun i wr => ∃ k : Nat, k ≤ m.ss.length ∧ i = .int .i64 k ∧ J k wr ∧ Keep X W wr) (fun i _ => m.ss.length - (intOf i).toNat)
  case atStart => exact ⟨0, Nat.zero_le _, rfl, HJ0.out, Keep.refl _ _⟩
  case round =>
    obtain ⟨k, hk, rfl, hJk, hkp⟩ := hrel
    have HK := hid (And.intro hJk hkp)
    clear hJk hkp
    by_cases hlt : k < m.ss.length
    · have hkI : (k : Int) < (m.ss.length : Int) := by omega
      obtain ⟨s, hs⟩ : ∃ s, m.ss[k]? = some s := ⟨_, List.getElem?_eq_getElem hlt⟩
      obtain ⟨a, rfl, hab, f0, f1, f2, f3, f4⟩ := HS.out k s hs
      have hna : ∀ (q : Nat), ¬ X (a.add q).block := fun q h => by rw [block_of_add] at h; have := HX.out _ h; omega
      replace f0 := HK.out.2.cell f0 (hna _)
      replace f1 := HK.out.2.cell f1 (hna _)
      replace f2 := HK.out.2.cell f2 (hna _)
      replace f3 := HK.out.2.cell f3 (hna _)
      replace f4 := HK.out.2.cell f4 (hna _)
      have hbd := HK.out.2.blk HD.out (fun h => (HX.out _ h).2 rfl)
      have d0 := hbd.c1
      have dl := hbd.lt
      have HSS := hid hs
      clear hna hbd hs
      by_cases hod : s.o = d
      · have hoB : (s.o == d) = true := by simp [hod]
        have HOD := hid hod
        clear hod
        have HY := hid (HJ.out.2.2 k s (wr.alloc (.cells #[.int .i64 s.o, .int .i64 s.n, .int .i64 s.wt, .int .i64 s.lo, .int .i64 s.hi] 70)) HSS.out HOD.out (HJ.out.1 k _ _ HK.out.1 (below_box _ _)))
        obtain ⟨fn, tmps, assign, body, hy, hR⟩ := HY.out
        have HR := hid hR
        clear hR HY
        gi_wp2
        refine HR.out.mono ?_
        rintro e W3 (⟨rfl, hJ3, hk3⟩ | ⟨rfl, hJx3⟩)
        · gi_wp2
          go_roundw
          case rel => exact ⟨k + 1, by omega, by go_num, hJ3, (HK.out.2.alloc _).trans hk3⟩
          case measure => first | (simp [intOf]; done) | (simp [intOf]; omega)
        · gi_wp2
          refine bodyPost_ret (results_none rfl _ _ _) rfl ?_
          exact ⟨⟨_, rfl⟩, .inr hJx3⟩
      · have hoB : (s.o == d) = false := by simp [hod]
        have HOD := hid hod
        clear hod
        gi_wp2
        refine ⟨(fun f hf => by cases hf), ?_⟩
        gi_wp2
        go_roundw
        case rel => exact ⟨k + 1, by omega, by go_num, HJ.out.1 _ _ _ (HJ.out.2.1 k s _ HSS.out HOD.out HK.out.1) (below_box _ _), HK.out.2.alloc _⟩
        case measure => first | (simp [intOf]; done) | (simp [intOf]; omega)
    · have hkI : decide ((k : Int) < (m.ss.length : Int)) = false := by simp; omega
      obtain rfl : k = m.ss.length := by omega
      gi_wp2
      go_end0
      exact ⟨⟨_, rfl⟩, .inl HK.out.1⟩

/-- how the body of a round may be left -/
def ofPost (B : Nat) (X : Nat → Prop) (I : Nat → World → Prop) (Ix : Code → World → Prop) (k : Nat) (W : World) : Exit → Act → World → Prop
  | .normal, _, W' => KeepsFrom B W W' ∧ Keep X W W' ∧ I (k + 1) W'
  | .ret, _, W' => KeepsFrom B W W' ∧ Ix .ret W'
  | .exit id, _, W' => KeepsFrom B W W' ∧ Ix (.exit id) W'
  | .goto t, _, W' => KeepsFrom B W W' ∧ Ix (.goto t) W'
  | .panic _, _, _ => False
  | .outgrown, _, _ => False
theorem keepsFrom_of_keep {B : Nat} {W W' : World} (h : Below W.heap.size W W') : KeepsFrom B W W' := ⟨h.size, fun k _ _ hk _ => (h.block k (Array.getElem?_eq_some_iff.1 hk).1).trans hk⟩
def stC (s : Stt) : Array Value := #[.int .i64 s.o, .int .i64 s.n, .int .i64 s.wt, .int .i64 s.lo, .int .i64 s.hi]
set_option maxHeartbeats 1000000 in
theorem wpIn_rangeFunc_of {g : Operand} {p q : Tmp} {assign body : Code} {Q : Exit → Act → World → Prop} {a : Act} {w : World} {gf : Nat} {lb : Array Value} (hg : a.eval g = .func (.func gf) #[] lb)
    (eg : ∀ args w, (callFunc gf args).run Tryz.prog w = .ok (.enter gf args) w) {m : MapD} {d : Int} {X : Nat → Prop} {w0 : World} (hseq : OfC m d gf lb X w0) (hb0 : Below w0.heap.size w0 w)
    (I : Nat → World → Prop) (Ix : Code → World → Prop) (hI : OwnFrom w.heap.size I) (hIx : ∀ c, OwnFrom w.heap.size (fun (_ : Unit) W => Ix c W)) (h0 : I 0 w)
    (hsk : ∀ k s W, m.ss[k]? = some s → s.o ≠ d → I k W → I (k + 1) W)
    (A0 : Nat → Stt → Nat → Act)
    (hassign : ∀ (l k : Nat) (s : Stt) (W : World) (K : Act → World → Prop), K (A0 k s W.heap.size) (W.alloc (.cells (stC s) 70)) →
      assign.wpIn (FW (some l)) 0 Tryz.prog (Exit.then K (fun _ _ _ => False)) { tmps := (a.tmps.setIfInBounds p (.int .i64 (k : Int))).setIfInBounds q (.agg #[.int .i64 s.o, .int .i64 s.n, .int .i64 s.wt, .int .i64 s.lo, .int .i64 s.hi]), defers := [] } W)
    (hbody : ∀ (l k : Nat) (s : Stt) (z : Nat) (W : World), w.heap.size ≤ l → w.heap.size ≤ z → (∃ r, W.heap[l]? = some (.loop r)) → m.ss[k]? = some s → s.o = d → I k W → Blk W z 70 (stC s) →
      body.wpIn (FW (some l)) 0 Tryz.prog (ofPost w.heap.size X I Ix k W) (A0 k s z) W)
    (hdone : ∀ (D : Nat) (W : World), w.heap.size ≤ D → I m.ss.length W → W.heap[D]? = some (.deferred (some [])) → Q .normal { a with defers := { target := .collected D, args := #[] } :: a.defers } W)
    (hstop : ∀ (D : Nat) (c : Code) (W : World), w.heap.size ≤ D → Ix c W → W.heap[D]? = some (.deferred (some [])) → c.wpIn (FW none) 0 Tryz.prog Q { a with defers := { target := .collected D, args := #[] } :: a.defers } W) :
    (Code.rangeFunc g #[p, q] assign body).wpIn (FW none) 0 Tryz.prog Q a w := by
  refine wpIn_rangeFunc ?_
  intro fn hfn
  obtain ⟨rec, hrec⟩ : ∃ rec : LoopState → Option Code → Loop, rec = fun st pe => { state := st, pending := pe, fn, tmps := a.tmps, params := #[p, q], assign, body, defers := w.heap.size } := ⟨_, rfl⟩
  obtain ⟨W1, hW1⟩ : ∃ W1, (w.alloc (.deferred (some []))).alloc (.loop (rec .ready none)) = W1 := ⟨_, rfl⟩
  have hL1 : W1.heap[w.heap.size + 1]? = some (.loop (rec .ready none)) := by
    rw [← hW1]; have := World.alloc_heap_new (w.alloc (.deferred (some []))) (.loop (rec .ready none)); rwa [World.size_alloc] at this
  have hK1 : W1.heap[w.heap.size]? = some (.deferred (some [])) := by
    rw [← hW1]; exact (Below.heap_alloc _ _ _ (by simp)).trans (World.alloc_heap_new w _)
  have hI1 : I 0 W1 := by rw [← hW1]; exact hI.alloc _ (hI.alloc _ h0)
  have hb1 : Below w0.heap.size w0 W1 := by
    rw [← hW1]; exact hb0.trans ((((Below.refl _ w).alloc (Nat.le_refl _) _).alloc (by simp) _).mono hb0.size)
  refine ⟨w.heap.size + 1, [{ target := .collected w.heap.size, args := #[] }], W1, { target := .fn (.func gf) lb, args := #[.func (.yield (w.heap.size + 1)) #[] #[]] }, W1, gf,
    #[.func (.yield (w.heap.size + 1)) #[] #[]] ++ lb, W1, ?_, ?_, ?_, ?_, fun h => (by simp [FW, Fence.wide] at h), ?_⟩
  · rw [← hW1, hrec]; exact run_enterLoop_outer _ _ _ _ _
  · simp only [resolve, hg]
    simp [go_sem]
  · intro f' hf'; exact trivial
  · simp [invoke, go_sem, eg]
  · refine (hseq (w.heap.size + 1)
      (fun k W => I k W ∧ W.heap[w.heap.size + 1]? = some (.loop (rec .ready none)) ∧ W.heap[w.heap.size]? = some (.deferred (some [])))
      (fun W => ∃ c, Ix c W ∧ W.heap[w.heap.size + 1]? = some (.loop (rec .done (some c))) ∧ W.heap[w.heap.size]? = some (.deferred (some [])))
      W1 hb1
      (fun k A B hs hb => ⟨hI k A B none hs.1 (grown_of_below hb none) (fun r e => by cases e), (hb.block _ (Array.getElem?_eq_some_iff.1 hs.2.1).1).trans hs.2.1, (hb.block _ (Array.getElem?_eq_some_iff.1 hs.2.2).1).trans hs.2.2⟩)
      (fun k s W hk hne hs => ⟨hsk k s W hk hne hs.1, hs.2⟩)
      ?_ ⟨hI1, hL1, hK1⟩).mono ?_
    · rintro k s W hks hod ⟨hi, hl, hk⟩
      have hlt : w.heap.size + 1 < W.heap.size := (Array.getElem?_eq_some_iff.1 hl).1
      have hy := run_yield (P := Tryz.prog) (args := #[.int .i64 (k : Int), .agg #[.int .i64 s.o, .int .i64 s.n, .int .i64 s.wt, .int .i64 s.lo, .int .i64 s.hi]]) hl (by rw [hrec]; rfl)
      rw [hrec] at hy
      refine ⟨fn, (a.tmps.setIfInBounds p (.int .i64 (k : Int))).setIfInBounds q (.agg #[.int .i64 s.o, .int .i64 s.n, .int .i64 s.wt, .int .i64 s.lo, .int .i64 s.hi]), assign, body, by simpa using hy, roundIn_of_wpIn hfn (hassign (w.heap.size + 1) k s W _ ?_)⟩
      clear hy
      have hba := below_box (w := W) (stC s) 70
      have hbz := Blk.new W 70 (stC s)
      have hz : w.heap.size ≤ W.heap.size := by omega
      have hkpa : Keep X W (W.alloc (.cells (stC s) 70)) := Keep.of_below X hba
      replace hl := (hba.block _ (Array.getElem?_eq_some_iff.1 hl).1).trans hl
      replace hk := (hba.block _ (Array.getElem?_eq_some_iff.1 hk).1).trans hk
      replace hi := hI.alloc (.cells (stC s) 70) hi
      have hbsz := hba.size
      obtain ⟨z, hzz⟩ : ∃ z, W.heap.size = z := ⟨_, rfl⟩
      rw [hzz] at hbz hz ⊢
      revert hkpa
      generalize W.alloc (.cells (stC s) 70) = Wa at *
      generalize W = Wb
      intro hkpa
      refine ⟨_, run_beginRound hl (by rw [hrec]), ?_⟩
      have hlt2 : w.heap.size + 1 < Wa.heap.size := (Array.getElem?_eq_some_iff.1 hl).1
      have hl2 : (Wa.putObj (w.heap.size + 1) (.loop { rec .ready none with state := .busy })).heap[w.heap.size + 1]? = some (.loop { rec .ready none with state := .busy }) := World.putObj_heap_same hlt2
      have hk2 : (Wa.putObj (w.heap.size + 1) (.loop { rec .ready none with state := .busy })).heap[w.heap.size]? = some (.deferred (some [])) := (World.putObj_heap_other (by omega)).trans hk
      have hn2 : ∃ o, Wa.heap[w.heap.size + 1]? = some o ∧ o.isCells = false := ⟨_, hl, rfl⟩
      have hkp2 : Keep X Wa (Wa.putObj (w.heap.size + 1) (.loop { rec .ready none with state := .busy })) := Keep.of_other' (grownBy_putObj' Wa (w.heap.size + 1) _) hn2
      have hi2 : I k (Wa.putObj (w.heap.size + 1) (.loop { rec .ready none with state := .busy })) := hI k _ _ _ hi (grownBy_putObj' Wa (w.heap.size + 1) _) (fun r e => by cases e; exact ⟨by omega, hn2⟩)
      have hbz2 := (Keep.of_other' (Z := fun _ => False) (grownBy_putObj' Wa (w.heap.size + 1) (.loop { rec .ready none with state := .busy })) hn2).blk hbz id
      refine wpIn_mono (hbody (w.heap.size + 1) k s z _ (by omega) hz ⟨_, hl2⟩ hks hod hi2 hbz2) ?_
      have fin : ∀ (jump : Option Code) (W3 : World), KeepsFrom w.heap.size (Wa.putObj (w.heap.size + 1) (.loop { rec .ready none with state := .busy })) W3 →
          (Instr.endRound (w.heap.size + 1) jump).run Tryz.prog W3 = .ok (.bool jump.isNone) (W3.putObj (w.heap.size + 1) (.loop (rec (if jump.isNone then .ready else .done) jump))) ∧
          W3.heap[w.heap.size + 1]? = some (.loop { rec .ready none with state := .busy }) ∧
          (W3.putObj (w.heap.size + 1) (.loop (rec (if jump.isNone then .ready else .done) jump))).heap[w.heap.size + 1]? = some (.loop (rec (if jump.isNone then .ready else .done) jump)) ∧
          (W3.putObj (w.heap.size + 1) (.loop (rec (if jump.isNone then .ready else .done) jump))).heap[w.heap.size]? = some (.deferred (some [])) := fun jump W3 hk3 => by
        have hl3 := hk3.same _ _ (by omega) hl2 rfl
        have := run_endRound (P := Tryz.prog) jump hl3
        rw [hrec] at this ⊢
        exact ⟨this, by rw [hrec] at hl3; exact hl3, World.putObj_heap_same (Array.getElem?_eq_some_iff.1 hl3).1, (World.putObj_heap_other (by omega)).trans (hk3.same _ _ (Nat.le_refl _) hk2 rfl)⟩
      have put : ∀ (c : Code) (W3 : World) (o' : Obj), W3.heap[w.heap.size + 1]? = some (.loop { rec .ready none with state := .busy }) → Ix c W3 → Ix c (W3.putObj (w.heap.size + 1) o') := fun c W3 o' hl3 hix =>
        hIx c () _ _ _ hix (grownBy_putObj' W3 (w.heap.size + 1) o') (fun r e => by cases e; exact ⟨by omega, _, hl3, rfl⟩)
      rintro e a3 W3 hp
      cases e with
      | normal =>
        obtain ⟨hk3, hkp3, hi3⟩ := hp
        obtain ⟨hr, hl3, hl4, hk4⟩ := fin none W3 hk3
        refine ⟨_, _, hr, .inl ⟨rfl, ⟨hI (k + 1) _ _ _ hi3 (grownBy_putObj' W3 (w.heap.size + 1) _) (fun r e => by cases e; exact ⟨by omega, _, hl3, rfl⟩), hl4, hk4⟩, ?_⟩⟩
        exact hkpa.trans (hkp2.trans (hkp3.trans (Keep.of_other' (grownBy_putObj' W3 (w.heap.size + 1) _) ⟨_, hl3, rfl⟩)))
      | ret =>
        obtain ⟨hk3, hi3⟩ := hp
        obtain ⟨hr, hl3, hl4, hk4⟩ := fin (some .ret) W3 hk3
        exact ⟨_, _, hr, .inr ⟨rfl, .ret, put _ _ _ hl3 hi3, hl4, hk4⟩⟩
      | exit id =>
        obtain ⟨hk3, hi3⟩ := hp
        obtain ⟨hr, hl3, hl4, hk4⟩ := fin (some (.exit id)) W3 hk3
        exact ⟨_, _, hr, .inr ⟨rfl, .exit id, put _ _ _ hl3 hi3, hl4, hk4⟩⟩
      | goto t =>
        obtain ⟨hk3, hi3⟩ := hp
        obtain ⟨hr, hl3, hl4, hk4⟩ := fin (some (.goto t)) W3 hk3
        exact ⟨_, _, hr, .inr ⟨rfl, .goto t, put _ _ _ hl3 hi3, hl4, hk4⟩⟩
      | panic ch => exact hp.elim
      | outgrown => exact hp.elim
    · rintro e W2 ⟨⟨v, rfl⟩, (⟨hi, hl, hk⟩ | ⟨c, hi, hl, hk⟩)⟩
      · exact ⟨none, _, by have := run_endLoop (P := Tryz.prog) hl (by rw [hrec]; simp); rw [hrec] at this; exact this, hdone _ _ (Nat.le_refl _) (hI _ _ _ _ hi (grownBy_putObj' W2 (w.heap.size + 1) _) (fun r e => by cases e; exact ⟨by omega, _, hl, rfl⟩)) ((World.putObj_heap_other (by omega)).trans hk)⟩
      · exact ⟨some c, _, by have := run_endLoop (P := Tryz.prog) hl (by rw [hrec]; simp); rw [hrec] at this; exact this, hstop _ c _ (Nat.le_refl _) (hIx c () _ _ _ hi (grownBy_putObj' W2 (w.heap.size + 1) _) (fun r e => by cases e; exact ⟨by omega, _, hl, rfl⟩)) ((World.putObj_heap_other (by omega)).trans hk)⟩
end Go.Proofs.YtlnamjhgbdacbaaGreat
/- Loops over an iterator within a loop: the marks that they leave. No condition. -/
namespace Go.Proofs.YtlnamjhgbdacbaaGreat
open Go.RowKit Go.Shelf

def mkD (D : Nat) : Deferred := { target := .collected D, args := #[] }
structure Marks (B : Nat) (Ds : List Nat) (W : World) : Prop where
  nd : Ds.Nodup
  at_ : ∀ D ∈ Ds, B ≤ D ∧ W.heap[D]? = some (.deferred (some []))
section
variable {B : Nat} {Ds : List Nat} {W W' : World}
theorem Marks.nil (B : Nat) (W : World) : Marks B [] W := ⟨List.nodup_nil, fun D h => by simp at h⟩
theorem Marks.keep (h : Marks B Ds W) (hk : KeepsFrom B W W') : Marks B Ds W' := ⟨h.nd, fun D hD => ⟨(h.at_ D hD).1, hk.same D _ (h.at_ D hD).1 (h.at_ D hD).2 rfl⟩⟩
theorem Marks.below (h : Marks B Ds W) (hb : Below W.heap.size W W') : Marks B Ds W' := h.keep (keepsFrom_of_keep hb)
theorem Marks.cons {D : Nat} {W0 : World} (h0 : Marks B Ds W0) (h : Marks B Ds W) (hD : B ≤ D) (hD0 : W0.heap.size ≤ D) (hd : W.heap[D]? = some (.deferred (some []))) : Marks B (D :: Ds) W :=
  ⟨List.nodup_cons.2 ⟨fun hm => by
    have := (Array.getElem?_eq_some_iff.1 (h0.at_ D hm).2).1
    omega, h.nd⟩, fun D' hm => (List.mem_cons.1 hm).elim (fun e => by rw [e]; exact ⟨hD, hd⟩) (h.at_ D')⟩
end
theorem KeepsFrom.of_set {B : Nat} {W : World} (a : Addr) (v : Value) : KeepsFrom B W (W.setCell a v) := (KeepsOthers.setCell W a v).from B
/-- at the function's end the marks are taken off -/
theorem leaves_marks {fn : Func} {tmps : Array Value} {R : Ending → World → Prop} {B : Nat} : ∀ (Ds : List Nat) (W : World), Marks B Ds W →
    (∀ W', Keep (fun _ => False) W W' → Below B W W' → LeavesInM (FW none) 0 Tryz.prog fn tmps R [] .returning W') → LeavesInM (FW none) 0 Tryz.prog fn tmps R (Ds.map mkD) .returning W
  | [], W, _, h => h W (Keep.refl _ _) (Below.refl _ _)
  | D :: Ds, W, hm, h => by
    obtain ⟨hB, hd⟩ := hm.at_ D (by simp)
    have hn := (List.nodup_cons.1 hm.nd)
    have hg := grownBy_putObj' W D (.deferred none)
    have hno : ∃ o, W.heap[D]? = some o ∧ o.isCells = false := ⟨_, hd, rfl⟩
    refine ⟨by simp, .inl ⟨D, W.putObj D (.deferred none), rfl, run_takeDeferred hd, leaves_marks Ds _ ⟨hn.2, fun D' hD' => ⟨(hm.at_ D' (by simp [hD'])).1, ?_⟩⟩ fun W' hk hb => h W' ((Keep.of_other' hg hno).trans hk) ?_⟩⟩
    · exact (World.putObj_heap_other (fun e => hn.1 (by rw [← e]; exact hD'))).trans (hm.at_ D' (by simp [hD'])).2
    · refine Below.trans ⟨hg.os, hg.tape, hg.output, hg.size, fun k hk => World.putObj_heap_other (by omega)⟩ hb
/-- what lay is as it lay, but for the blocks of Z -/
structure MChg (Z : Nat → Prop) (W W' : World) : Prop where
  os : W'.os = W.os
  tape : W'.tape = W.tape
  output : W'.output = W.output
  size : W.heap.size ≤ W'.heap.size
  block : ∀ k, k < W.heap.size → ¬ Z k → W'.heap[k]? = W.heap[k]?
section
variable {Z Y : Nat → Prop} {A B D : World}
theorem MChg.refl : MChg Z A A := ⟨rfl, rfl, rfl, Nat.le_refl _, fun _ _ _ => rfl⟩
theorem MChg.trans (h : MChg Z A B) (k : MChg Z B D) : MChg Z A D := ⟨k.os.trans h.os, k.tape.trans h.tape, k.output.trans h.output, Nat.le_trans h.size k.size, fun i hi hn => (k.block i (Nat.lt_of_lt_of_le hi h.size) hn).trans (h.block i hi hn)⟩
theorem MChg.of_below (h : Below A.heap.size A B) : MChg Z A B := ⟨h.os, h.tape, h.output, h.size, fun k hk _ => h.block k hk⟩
theorem MChg.of_grown {row : Option Nat} (h : A.grownBy B row) (hz : ∀ k, row = some k → Z k) : MChg Z A B := ⟨h.os, h.tape, h.output, h.size, fun k hk hn => h.block k hk (fun e => hn (hz k e.symm))⟩
theorem MChg.more {z : Nat} (h : MChg Z A B) (k : B.grownBy D (some z)) (hz : A.heap.size ≤ z) : MChg Z A D :=
  ⟨k.os.trans h.os, k.tape.trans h.tape, k.output.trans h.output, Nat.le_trans h.size k.size, fun i hi hn => (k.block i (Nat.lt_of_lt_of_le hi h.size) (fun e => by cases e; omega)).trans (h.block i hi hn)⟩
theorem MChg.sub (h : MChg Z A B) (hz : ∀ q, Z q → Y q) : MChg Y A B := ⟨h.os, h.tape, h.output, h.size, fun k hk hn => h.block k hk (fun e => hn (hz k e))⟩
theorem MChg.keep (h : MChg Z A B) : Keep Z A B := ⟨h.os, h.tape, h.output, h.size, fun i _ _ _ hi hz => (h.block i (Array.getElem?_eq_some_iff.1 hi).1 hz).trans hi⟩
theorem MChg.set (h : MChg Z A B) {g o : Nat} (hz : Z g) (v : Value) : MChg Z A (B.setCell ⟨g, o, none⟩ v) :=
  h.trans ⟨rfl, rfl, rfl, by simp [World.setCell], fun k _ hn => Below.heap_setCell B ⟨g, o, none⟩ v k (fun e => hn (by rw [e]; exact hz))⟩
theorem MChg.below {n : Nat} (h : MChg Z A B) (hZ : ∀ k, Z k → n ≤ k) (hn : n ≤ A.heap.size) : Below n A B := ⟨h.os, h.tape, h.output, h.size, fun k hk => h.block k (by omega) (fun e => by have := hZ k e; omega)⟩
theorem MChg.blk {g t : Nat} {cs : Array Value} (h : MChg Z A B) (hb : Blk A g t cs) (hz : ¬ Z g) : Blk B g t cs := (h.block g hb.lt hz).trans hb
end
theorem chg_own {β : Type} {Z : Nat → Prop} {A : World} {B : Nat} (h : A.heap.size ≤ B) : OwnFrom B (fun (_ : β) W => MChg Z A W) := fun s W W' row hs hg hr =>
  ⟨hg.os.trans hs.os, hg.tape.trans hs.tape, hg.output.trans hs.output, Nat.le_trans hs.size hg.size, fun k hk hn => (hg.block k (Nat.lt_of_lt_of_le hk hs.size) (fun e => by have := (hr k e.symm).1; omega)).trans (hs.block k hk hn)⟩
theorem blk_own {β : Type} (B g t : Nat) (f : β → Array Value) : OwnFrom B (fun (s : β) W => Blk W g t (f s)) := fun s W W' row hs hg hr =>
  (hg.block g hs.lt (fun e => by
    obtain ⟨_, o, ho, hc⟩ := hr g e.symm
    rw [show W.heap[g]? = _ from hs] at ho
    cases ho; cases hc)).trans hs
theorem Marks.chg {B : Nat} {Ds : List Nat} {Z : Nat → Prop} {A W : World} (h : Marks B Ds A) (hc : MChg Z A W) (hz : ∀ D ∈ Ds, ¬ Z D) : Marks B Ds W :=
  ⟨h.nd, fun D hD => ⟨(h.at_ D hD).1, (hc.block D (Array.getElem?_eq_some_iff.1 (h.at_ D hD).2).1 (hz D hD)).trans (h.at_ D hD).2⟩⟩
theorem Marks.ne {B g t : Nat} {Ds : List Nat} {A : World} {cs : Array Value} (h : Marks B Ds A) (hb : Blk A g t cs) : ∀ D ∈ Ds, D ≠ g := fun D hD e => by
  have := (h.at_ D hD).2
  rw [e, show A.heap[g]? = _ from hb] at this
  cases this
end Go.Proofs.YtlnamjhgbdacbaaGreat
/- Whether each old district has a street with a weight. Conditions stand at the theorem. -/
namespace Go.Proofs.YtlnamjhgbdacbaaGreat
open Go.RowKit Go.Shelf

attribute [local go_sem] Oper.semAt_some

set_option maxRecDepth 100000 in
set_option maxHeartbeats 2000000 in
theorem weighed_any (m : MapD) (A : Option Addr) (c : Nat) (A2 : Option Addr) (c2 : Nat) (A3 : Option Addr) (c3 : Nat) (w : World) (h : MIn m A c A2 c2 A3 c3 w) (h8 : m.ss.length ≤ 8) (hw : ∀ s ∈ m.ss, 0 ≤ s.wt ∧ s.wt ≤ 1000) :
    Calls Tryz.prog 54 #[.agg #[.slice A m.old.length c, .int .i64 m.nw, .slice A2 m.ss.length c2, .slice A3 m.js.length c3]] w fun e w' => e = .returned (.bool ((List.range m.old.length).all (wghOk m))) ∧ Below w.heap.size w w' := by
  have hm1 := h.m1
  have hl1 := h.l1
  unfold maxLen at hm1
  have hB := below_box (w := w) #[.slice A m.old.length c, .int .i64 m.nw, .slice A2 m.ss.length c2, .slice A3 m.js.length c3] 36
  have hT := Blk.new w 36 #[.slice A m.old.length c, .int .i64 m.nw, .slice A2 m.ss.length c2, .slice A3 m.js.length c3]
  obtain ⟨t0, t1, t2, t3⟩ := hT.c4
  have HB := hid hB
  have HT := hid hT
  have HH := hid h
  have HW := hid (show ∀ i, i < m.ss.length → 0 ≤ (m.S i).wt ∧ (m.S i).wt ≤ 1000 from fun i hi => by
    rw [MapD.S_eq (List.getElem?_eq_getElem hi)]
    exact hw _ (List.getElem_mem hi))
  clear h hB hT hw
  refine callsOf (ro := none) (n := 0) ?_
  refine callsIn_of_wp_marks Tryz.func54 rfl trivial ?_ rfl
  refine wpIn_wide.2 ?_
  simp only [Tryz.ntmps54, List.size_toArray, List.length_cons, List.length_nil, Nat.reduceAdd, Nat.reduceSub, Array.replicate_succ, Array.replicate_zero, List.push_toArray, List.append_toArray, List.nil_append, List.cons_append]
  go_wp2
  clear t0 t1 t2 t3
  refine wp_loop (fun a W => ∃ (k : Nat) (Ds : List Nat) (u2 u3 u4 u6 u11 u12 u13 u14 u15 u18 u19 u20 u21 u22 u23 u24 : Value), (k ≤ m.old.length ∧ (∀ d, d < k → wghOk m d = true) ∧ Below w.heap.size w W ∧ Blk W w.heap.size 36 #[.slice A m.old.length c, .int .i64 m.nw, .slice A2 m.ss.length c2, .slice A3 m.js.length c3] ∧ Marks w.heap.size Ds W) ∧ a = { tmps := #[.agg #[.slice A m.old.length c, .int .i64 m.nw, .slice A2 m.ss.length c2, .slice A3 m.js.length c3], .pointer (some ⟨w.heap.size, 0, none⟩), u2, u3, u4, undef, u6, .pointer (some ⟨w.heap.size, 0, none⟩), .slice A m.old.length c, .int .i64 (m.old.length : Int), .int .i64 (k : Int), u11, u12, u13, u14, u15, undef, undef, u18, u19, u20, u21, u22, u23, u24], defers := Ds.map mkD }) (fun a _ => m.old.length - (intOf (a.tmps.getD 10 undef)).toNat) ?_ ?_
  · refine ⟨0, [], ?_⟩
    (repeat apply Exists.intro)
    exact ⟨⟨Nat.zero_le _, fun d hd => by omega, HB.out, HT.out, Marks.nil _ _⟩, rfl⟩
  rintro _ wr ⟨k, Ds, u2, u3, u4, u6, u11, u12, u13, u14, u15, u18, u19, u20, u21, u22, u23, u24, ⟨hk, hok, hbr, hbm, hmk⟩, rfl⟩
  have HR := hid (And.intro hok (And.intro hbr (And.intro hbm hmk)))
  obtain ⟨t0, t1, t2, t3⟩ := hbm.c4
  have bl := hbm.lt
  clear hok hbr hbm hmk
  by_cases hlt : k < m.old.length
  · have hkI : (k : Int) < (m.old.length : Int) := by omega
    go_wp2_with fail
    refine (of_any _ _ _ _ _ _).mono ?_
    rintro e w2 ⟨rfl, h1, h2, h3⟩
    have hB4 := Blk.new wr 3 #[.int .i64 0]
    have hbw : Below wr.heap.size wr w2 := then_below (below_box _ _) h1
    have H2 := hid (And.intro h2 (And.intro h3 (And.intro (hB4.keep h1) hbw)))
    have hss : (wr.alloc (.cells #[.int .i64 0] 3)).heap.size = wr.heap.size + 1 := World.size_alloc ..
    rw [hss] at H2
    clear h1 h2 h3 hB4 hbw t0 t1 t2 t3 hss
    go_wp2
    refine (wpIn_wide (n := 0)).1 ?_
    refine wpIn_rangeFunc_of (m := m) (d := (k : Int)) (X := fun q => q = wr.heap.size) rfl (enters_of Tryz.func80 (by kernel_rfl) rfl)
      (of1_any H2.out.1 H2.out.2.1 (n := w.heap.size) (Nat.le_trans HR.out.2.1.size H2.out.2.2.2.size) (HH.out.is.below (HR.out.2.1.trans (H2.out.2.2.2.mono HR.out.2.1.size))) HH.out.l2 HH.out.m2 (fun q e => ⟨by rw [e]; exact HR.out.2.1.size, by omega⟩)) (Below.refl _ _)
      (fun j W => Blk W wr.heap.size 3 #[.int .i64 (sumO m k tt Stt.wt j)] ∧ MChg (fun q => q = wr.heap.size) w2 W) (fun _ _ => False)
      (OwnFrom.and (blk_own _ _ _ _) (chg_own (Nat.le_refl _))) (fun c s W W' row hs _ _ => hs) ⟨H2.out.2.2.1, MChg.refl⟩
      (fun j s W hs hne hi => ⟨by rw [sumO_skip hs hne]; exact hi.1, hi.2⟩)
      (fun j s z => { tmps := #[.agg #[.slice A m.old.length c, .int .i64 m.nw, .slice A2 m.ss.length c2, .slice A3 m.js.length c3], .pointer (some ⟨w.heap.size, 0, none⟩), u2, .int .i64 (k : Int), .pointer (some ⟨wr.heap.size, 0, none⟩), undef, .pointer (some ⟨z, 0, none⟩), .pointer (some ⟨w.heap.size, 0, none⟩), .slice A m.old.length c, .int .i64 (m.old.length : Int), .int .i64 (k : Int), .bool true, .int .i64 (k : Int), .agg #[.slice A m.old.length c, .int .i64 m.nw, .slice A2 m.ss.length c2, .slice A3 m.js.length c3], .int .i64 (k : Int), .func (.func 80) #[] #[.pointer (some ⟨wr.heap.size + 1, 0, none⟩), .pointer (some ⟨wr.heap.size + 1 + 1, 0, none⟩)], .int .i64 (j : Int), .agg #[.int .i64 s.o, .int .i64 s.n, .int .i64 s.wt, .int .i64 s.lo, .int .i64 s.hi], u18, u19, u20, u21, u22, u23, u24], defers := [] }) ?assign ?body ?done ?stop
    case assign =>
      intro l j s W K hK
      gi_wp2
      exact hK
    case body =>
      rintro l j s z W hl hz hlp hs hod ⟨hb4, hch⟩ hbz
      have hjl := (List.getElem?_eq_some_iff.1 hs).1
      obtain ⟨b1, b2⟩ := sumO_bounds (m := m) (g := Stt.wt) (M := 1000) (by omega) k tt j (fun i hi => HW.out i (by omega))
      have hsw := HW.out j hjl
      rw [MapD.S_eq hs] at hsw
      have HT := hid (sumO_take (m := m) (d := k) (p := tt) (g := Stt.wt) hs hod rfl)
      have HI := hid (And.intro hb4 hch)
      unfold stC at hbz
      obtain ⟨z0, z1, z2, z3, z4⟩ := hbz.c5
      have y0 := hb4.c1
      have yf := hb4.frozen 0
      have yl := hb4.lt
      generalize sumO m k tt Stt.wt j = S at *
      clear hlp hs hod hb4 hch hbz
      gi_wp2
      refine ⟨KeepsFrom.of_set _ _, (MChg.refl.set (Z := fun q => q = wr.heap.size) rfl _).keep, ?_, HI.out.2.set rfl _⟩
      rw [HT.out]
      exact HI.out.1.set_ 0 _
    case done =>
      rintro D W hD ⟨hb4, hch⟩ hdf
      have hbw : Below w.heap.size w W := (HR.out.2.1.trans (H2.out.2.2.2.mono HR.out.2.1.size)).trans (hch.below (fun q e => by rw [e]; exact HR.out.2.1.size) (Nat.le_trans HR.out.2.1.size H2.out.2.2.2.size))
      have hm2 := HR.out.2.2.2.below H2.out.2.2.2
      have hm3 := hm2.chg hch (fun D' hD' => hm2.ne H2.out.2.2.1 D' hD')
      have HM := hid (Marks.cons hm2 hm3 (by have := HR.out.2.1.size; have := H2.out.2.2.2.size; omega) hD hdf)
      have HBM := hid (hch.blk (HR.out.2.2.1.keep H2.out.2.2.2) (fun e => by have := HR.out.2.2.1.lt; omega))
      have HBW := hid hbw
      have y0 := hb4.c1
      have HWK := hid (show wghOk m k = !(sumO m k tt Stt.wt m.ss.length == 0) from rfl)
      clear hb4 hch hdf hbw hm2 hm3
      cases hz : (sumO m k tt Stt.wt m.ss.length == 0)
      · have HOK := hid (show wghOk m k = true by rw [HWK.out, hz]; rfl)
        generalize sumO m k tt Stt.wt m.ss.length = S at *
        go_wp2
        refine ⟨⟨k + 1, D :: Ds, ?_⟩, ?measure⟩
        · (repeat apply Exists.intro)
          exact ⟨⟨by omega, fun d hd => by
            by_cases e : d = k
            · rw [e]; exact HOK.out
            · exact HR.out.1 d (by omega), HBW.out, HBM.out, HM.out⟩, by go_num⟩
        case measure => first | (simp [intOf]; done) | (simp [intOf]; omega)
      · have HOK := hid (show (List.range m.old.length).all (wghOk m) = false by
          rw [List.all_eq_false]
          exact ⟨k, List.mem_range.2 hlt, by rw [HWK.out, hz]; decide⟩)
        generalize sumO m k tt Stt.wt m.ss.length = S at *
        go_wp2
        refine leaves_marks (B := w.heap.size) (D :: Ds) _ HM.out (fun W' hk hb => ?_)
        exact ⟨.bool false, results_tmp Tryz.results54 _ _ _, by rw [HOK.out], HBW.out.trans hb⟩
    case stop =>
      rintro D c W _ h _
      exact h.elim
  · have hkI : decide ((k : Int) < (m.old.length : Int)) = false := by simp; omega
    obtain rfl : k = m.old.length := by omega
    go_wp2
    refine leaves_marks (B := w.heap.size) Ds _ HR.out.2.2.2 (fun W' hk hb => ?_)
    exact ⟨.bool true, results_tmp Tryz.results54 _ _ _, by
      rw [show (List.range m.old.length).all (wghOk m) = true from List.all_eq_true.2 fun d hd => HR.out.1 d (List.mem_range.1 hd)], HR.out.2.1.trans hb⟩
end Go.Proofs.YtlnamjhgbdacbaaGreat
/- CheckMap: the error of a map, for every map that can be read. No condition. -/
namespace Go.Proofs.YtlnamjhgbdacbaaGreat
open Go.RowKit Go.Shelf

set_option maxRecDepth 100000 in
set_option maxHeartbeats 4000000 in
theorem checkm_any (m : MapD) (A : Option Addr) (c : Nat) (A2 : Option Addr) (c2 : Nat) (A3 : Option Addr) (c3 : Nat) (w : World) (h : MIn m A c A2 c2 A3 c3 w) :
    Calls Tryz.prog 22 #[.agg #[.slice A m.old.length c, .int .i64 m.nw, .slice A2 m.ss.length c2, .slice A3 m.js.length c3]] w fun e w' => e = .returned (.int .i64 (chkM m)) ∧ Below w.heap.size w w' := by
  have hB := below_box (w := w) #[.slice A m.old.length c, .int .i64 m.nw, .slice A2 m.ss.length c2, .slice A3 m.js.length c3] 36
  have HH := hid h
  have K1 := hid (fun W (hW : Below w.heap.size w W) => ball_int cntOk A c m.old W (h.at_ hW).io h.l1 h.m1 51 #[] #[] (enters_of Tryz.func51 (by kernel_rfl) rfl)
    (fun W1 x _ _ => by simpa using Calls.same_below (bcount_any x W1)))
  have K2 := hid (fun W => Calls.same_below (bwithin_any m.nw 1 4 W))
  have K3 := hid (fun W (hW : Below w.heap.size w W) (g1 : 1 ≤ m.nw) (g4 : m.nw ≤ 4) => ball_stt (sttOk m) A2 c2 m.ss W (h.at_ hW).is h.l2 h.m2 48 #[.agg #[.slice A m.old.length c, .int .i64 m.nw, .slice A2 m.ss.length c2, .slice A3 m.js.length c3]] #[] (enters_of Tryz.func48 (by kernel_rfl) rfl)
    (fun W1 x _ _ => by simpa using bstreet_any m x A c A2 c2 (.slice A3 m.js.length c3) W1 (Nat.le_trans h.l1 h.m1) g1 g4))
  have K4 := hid (fun W (hW : Below w.heap.size w W) h8 hw => weighed_any m A c A2 c2 A3 c3 W (h.at_ hW) h8 hw)
  have K5 := hid (fun W (hW : Below w.heap.size w W) => ball_jn (jnOk m) A3 c3 m.js W (h.at_ hW).ij h.l3 h.m3 49 #[.agg #[.slice A m.old.length c, .int .i64 m.nw, .slice A2 m.ss.length c2, .slice A3 m.js.length c3]] #[] (enters_of Tryz.func49 (by kernel_rfl) rfl)
    (fun W1 x _ _ => by simpa using bjoin_any m x (.slice A m.old.length c) (.int .i64 m.nw) A2 c2 (.slice A3 m.js.length c3) W1 (Nat.le_trans h.l2 h.m2)))
  clear h
  rcases Bool.eq_false_or_eq_true (decide (4 < (m.old.length : Int))) with d1 | d1
  · have HR := hid (show chkM m = 3 by unfold chkM; simp only [d1]; rfl)
    go_enter Tryz.func22, Tryz.ntmps22
    go_wp2_with fail
    go_region
    refine gen (p := Exit.then _ _ .normal _) (fun W => Below w.heap.size w W ∧ Blk W w.heap.size 36 #[.slice A m.old.length c, .int .i64 m.nw, .slice A2 m.ss.length c2, .slice A3 m.js.length c3]) ⟨hB.drew, Blk.new _ _ _⟩ ?_
    rintro W0 ⟨h0, hT0⟩
    have H0 := hid h0
    have T0 := hid hT0
    obtain ⟨t0, t1, t2, t3⟩ := hT0.c4
    clear h0 hT0
    go_wp2
    go_ret
    exact ⟨by rw [HR.out]; rfl, H0.out⟩
  rcases Bool.eq_false_or_eq_true (decide (8 < (m.ss.length : Int))) with d2 | d2
  · have HR := hid (show chkM m = 3 by unfold chkM; simp only [d1, d2]; rfl)
    go_enter Tryz.func22, Tryz.ntmps22
    go_wp2_with fail
    go_region
    refine gen (p := Exit.then _ _ .normal _) (fun W => Below w.heap.size w W ∧ Blk W w.heap.size 36 #[.slice A m.old.length c, .int .i64 m.nw, .slice A2 m.ss.length c2, .slice A3 m.js.length c3]) ⟨hB.drew, Blk.new _ _ _⟩ ?_
    rintro W0 ⟨h0, hT0⟩
    have H0 := hid h0
    have T0 := hid hT0
    obtain ⟨t0, t1, t2, t3⟩ := hT0.c4
    clear h0 hT0
    go_wp2
    go_ret
    exact ⟨by rw [HR.out]; rfl, H0.out⟩
  rcases Bool.eq_false_or_eq_true (decide (20 < (m.js.length : Int))) with d3 | d3
  · have HR := hid (show chkM m = 3 by unfold chkM; simp only [d1, d2, d3]; rfl)
    go_enter Tryz.func22, Tryz.ntmps22
    go_wp2_with fail
    go_region
    refine gen (p := Exit.then _ _ .normal _) (fun W => Below w.heap.size w W ∧ Blk W w.heap.size 36 #[.slice A m.old.length c, .int .i64 m.nw, .slice A2 m.ss.length c2, .slice A3 m.js.length c3]) ⟨hB.drew, Blk.new _ _ _⟩ ?_
    rintro W0 ⟨h0, hT0⟩
    have H0 := hid h0
    have T0 := hid hT0
    obtain ⟨t0, t1, t2, t3⟩ := hT0.c4
    clear h0 hT0
    go_wp2
    go_ret
    exact ⟨by rw [HR.out]; rfl, H0.out⟩
  rcases Bool.eq_false_or_eq_true (((m.old.length : Int) == 0)) with e1 | e1
  · have HR := hid (show chkM m = 1 by unfold chkM; simp only [d1, d2, d3, e1]; rfl)
    go_enter Tryz.func22, Tryz.ntmps22
    go_wp2_with fail
    go_region
    refine gen (p := Exit.then _ _ .normal _) (fun W => Below w.heap.size w W ∧ Blk W w.heap.size 36 #[.slice A m.old.length c, .int .i64 m.nw, .slice A2 m.ss.length c2, .slice A3 m.js.length c3]) ⟨hB.drew, Blk.new _ _ _⟩ ?_
    rintro W0 ⟨h0, hT0⟩
    have H0 := hid h0
    have T0 := hid hT0
    obtain ⟨t0, t1, t2, t3⟩ := hT0.c4
    clear h0 hT0
    go_wp2
    go_ret
    exact ⟨by rw [HR.out]; rfl, H0.out⟩
  rcases Bool.eq_false_or_eq_true (((m.ss.length : Int) == 0)) with e2 | e2
  · have HR := hid (show chkM m = 1 by unfold chkM; simp only [d1, d2, d3, e1, e2]; rfl)
    go_enter Tryz.func22, Tryz.ntmps22
    go_wp2_with fail
    go_region
    refine gen (p := Exit.then _ _ .normal _) (fun W => Below w.heap.size w W ∧ Blk W w.heap.size 36 #[.slice A m.old.length c, .int .i64 m.nw, .slice A2 m.ss.length c2, .slice A3 m.js.length c3]) ⟨hB.drew, Blk.new _ _ _⟩ ?_
    rintro W0 ⟨h0, hT0⟩
    have H0 := hid h0
    have T0 := hid hT0
    obtain ⟨t0, t1, t2, t3⟩ := hT0.c4
    clear h0 hT0
    go_wp2
    go_ret
    exact ⟨by rw [HR.out]; rfl, H0.out⟩
  have KN := hid (And.intro d1 (And.intro d2 (And.intro d3 (And.intro e1 e2))))
  go_enter Tryz.func22, Tryz.ntmps22
  go_wp2_with fail
  go_region
  refine gen (p := Exit.then _ _ .normal _) (fun W => Below w.heap.size w W ∧ Blk W w.heap.size 36 #[.slice A m.old.length c, .int .i64 m.nw, .slice A2 m.ss.length c2, .slice A3 m.js.length c3]) ⟨hB.drew, Blk.new _ _ _⟩ ?_
  rintro W0 ⟨h0, hT0⟩
  have H0 := hid h0
  have T0 := hid hT0
  obtain ⟨t0, t1, t2, t3⟩ := hT0.c4
  clear h0 hT0
  go_wp2_with fail
  refine (K1.out W0 H0.out).mono ?_
  rintro e W1 ⟨rfl, hb⟩
  have H1 := hid (then_below H0.out hb)
  have T1 := hid (T0.out.keep hb)
  clear hb t0 t1 t2 t3
  obtain ⟨t0, t1, t2, t3⟩ := T1.out.c4
  rcases Bool.eq_false_or_eq_true (m.old.all cntOk) with k1 | k1
  rotate_left
  · have HR := hid (show chkM m = 1 by unfold chkM; simp only [KN.out.1, KN.out.2.1, KN.out.2.2.1, KN.out.2.2.2.1, KN.out.2.2.2.2, k1]; rfl)
    rw [k1]
    clear k1
    go_wp2
    go_ret
    exact ⟨by rw [HR.out]; rfl, H1.out⟩
  rw [k1]
  have Q1 := hid k1
  clear k1
  go_wp2_with fail
  refine (K2.out W1).mono ?_
  rintro e W2 ⟨rfl, hb⟩
  have H2 := hid (then_below H1.out hb)
  have T2 := hid (T1.out.keep hb)
  clear hb t0 t1 t2 t3
  obtain ⟨t0, t1, t2, t3⟩ := T2.out.c4
  rcases Bool.eq_false_or_eq_true (inB m.nw 1 4) with k2 | k2
  rotate_left
  · have HR := hid (show chkM m = 1 by unfold chkM; simp only [KN.out.1, KN.out.2.1, KN.out.2.2.1, KN.out.2.2.2.1, KN.out.2.2.2.2, Q1.out, k2]; rfl)
    rw [k2]
    clear k2
    go_wp2
    go_ret
    exact ⟨by rw [HR.out]; rfl, H2.out⟩
  rw [k2]
  have Q2 := hid k2
  have HN := hid (inB_iff.1 k2)
  clear k2
  go_wp2_with fail
  refine (K3.out W2 H2.out HN.out.1 HN.out.2).mono ?_
  rintro e W3 ⟨rfl, hb⟩
  have H3 := hid (then_below H2.out hb)
  have T3 := hid (T2.out.keep hb)
  clear hb t0 t1 t2 t3
  obtain ⟨t0, t1, t2, t3⟩ := T3.out.c4
  rcases Bool.eq_false_or_eq_true (m.ss.all (sttOk m)) with k3 | k3
  rotate_left
  · have HR := hid (show chkM m = 1 by unfold chkM; simp only [KN.out.1, KN.out.2.1, KN.out.2.2.1, KN.out.2.2.2.1, KN.out.2.2.2.2, Q1.out, Q2.out, k3]; rfl)
    rw [k3]
    clear k3
    go_wp2
    go_ret
    exact ⟨by rw [HR.out]; rfl, H3.out⟩
  rw [k3]
  have Q3 := hid k3
  have H8 := hid (show m.ss.length ≤ 8 ∧ ∀ s ∈ m.ss, 0 ≤ s.wt ∧ s.wt ≤ 1000 from ⟨by have := of_decide_eq_false KN.out.2.1; omega, fun s hs => by have := sttOk_iff.1 (List.all_eq_true.1 k3 s hs); omega⟩)
  clear k3
  go_wp2_with fail
  refine (K4.out W3 H3.out H8.out.1 H8.out.2).mono ?_
  rintro e W4 ⟨rfl, hb⟩
  have H4 := hid (then_below H3.out hb)
  have T4 := hid (T3.out.keep hb)
  clear hb t0 t1 t2 t3
  obtain ⟨t0, t1, t2, t3⟩ := T4.out.c4
  rcases Bool.eq_false_or_eq_true ((List.range m.old.length).all (wghOk m)) with k4 | k4
  rotate_left
  · have HR := hid (show chkM m = 1 by unfold chkM; simp only [KN.out.1, KN.out.2.1, KN.out.2.2.1, KN.out.2.2.2.1, KN.out.2.2.2.2, Q1.out, Q2.out, Q3.out, k4]; rfl)
    rw [k4]
    clear k4
    go_wp2
    go_ret
    exact ⟨by rw [HR.out]; rfl, H4.out⟩
  rw [k4]
  have Q4 := hid k4
  clear k4
  go_wp2_with fail
  refine (K5.out W4 H4.out).mono ?_
  rintro e W5 ⟨rfl, hb⟩
  have H5 := hid (then_below H4.out hb)
  have T5 := hid (T4.out.keep hb)
  clear hb t0 t1 t2 t3
  obtain ⟨t0, t1, t2, t3⟩ := T5.out.c4
  rcases Bool.eq_false_or_eq_true (m.js.all (jnOk m)) with k5 | k5
  rotate_left
  · have HR := hid (show chkM m = 1 by unfold chkM; simp only [KN.out.1, KN.out.2.1, KN.out.2.2.1, KN.out.2.2.2.1, KN.out.2.2.2.2, Q1.out, Q2.out, Q3.out, Q4.out, k5]; rfl)
    rw [k5]
    clear k5
    go_wp2
    go_ret
    exact ⟨by rw [HR.out]; rfl, H5.out⟩
  have HR := hid (show chkM m = 0 by unfold chkM; simp only [KN.out.1, KN.out.2.1, KN.out.2.2.1, KN.out.2.2.2.1, KN.out.2.2.2.2, Q1.out, Q2.out, Q3.out, Q4.out, k5]; rfl)
  rw [k5]
  clear k5
  go_wp2
  go_ret
  exact ⟨by rw [HR.out]; rfl, H5.out⟩
end Go.Proofs.YtlnamjhgbdacbaaGreat
/- consistent: the error of a map, also if it is not consistent. No condition. -/
namespace Go.Proofs.YtlnamjhgbdacbaaGreat
open Go.RowKit Go.Shelf

end Go.Proofs.YtlnamjhgbdacbaaGreat
/- low, high, both; the tests of part. No condition. -/
namespace Go.Proofs.YtlnamjhgbdacbaaGreat
open Go.RowKit Go.Shelf

/-- borders in an array of eight cells -/
def liC (f : Nat → Int) : Array Value := #[.int .i64 (f 0), .int .i64 (f 1), .int .i64 (f 2), .int .i64 (f 3), .int .i64 (f 4), .int .i64 (f 5), .int .i64 (f 6), .int .i64 (f 7)]
theorem liC_get (f : Nat → Int) {i : Nat} (h : i < 8) : (liC f)[i]? = some (.int .i64 (f i)) := by
  rcases (by omega : i = 0 ∨ i = 1 ∨ i = 2 ∨ i = 3 ∨ i = 4 ∨ i = 5 ∨ i = 6 ∨ i = 7) with rfl | rfl | rfl | rfl | rfl | rfl | rfl | rfl <;> rfl
end Go.Proofs.YtlnamjhgbdacbaaGreat
/- The bounds of the people of an old district in the streets that pass a test. Conditions stand at the theorem. -/
namespace Go.Proofs.YtlnamjhgbdacbaaGreat
open Go.RowKit Go.Shelf

attribute [local go_sem] Oper.semAt_some

theorem two_ints {W : World} {g : Nat} {x y : Int} (h : Blk W g 3 #[.int .i64 x, .int .i64 y]) : IsInts W W.heap.size (some ⟨g, 0, none⟩) [x, y] := fun k v hk => by
  obtain ⟨c0, c1⟩ := h.c2
  match k, hk with
  | 0, hk => injection hk with hk; subst hk; exact ⟨_, rfl, h.lt, c0⟩
  | 1, hk => injection hk with hk; subst hk; exact ⟨_, rfl, h.lt, by rw [add_blk]; exact c1⟩
  | k + 2, hk => simp at hk
end Go.Proofs.YtlnamjhgbdacbaaGreat
/- The size of a new district, and the map's own borders. Conditions stand at each theorem. -/
namespace Go.Proofs.YtlnamjhgbdacbaaGreat
open Go.RowKit Go.Shelf

theorem part_bounds {m : MapD} (ok : OkM m) (p : Nat → Bool) {d : Nat} (hd : d < m.old.length) : -80000 ≤ partLo m p d ∧ partLo m p d ≤ 80000 ∧ -80000 ≤ partHi m p d ∧ partHi m p d ≤ 80000 := by
  have hs8 := ok.s8
  have sb : ∀ (g : Stt → Int) (r : Nat → Bool), (g = Stt.lo ∨ g = Stt.hi) → 0 ≤ sumO m d r g m.ss.length ∧ sumO m d r g m.ss.length ≤ 80000 := fun g r hg => by
    obtain ⟨b1, b2⟩ := sumO_bounds (m := m) (g := g) (M := 10000) (by omega) d r m.ss.length (fun i hi => by have := ok.sAt (i := i) (by omega); rcases hg with rfl | rfl <;> omega)
    omega
  have a1 := sb Stt.lo p (.inl rfl)
  have a2 := sb Stt.hi p (.inr rfl)
  have a3 := sb Stt.lo (nt p) (.inl rfl)
  have a4 := sb Stt.hi (nt p) (.inr rfl)
  have a5 := ok.atB hd
  unfold partLo partHi
  omega
theorem size_bounds {m : MapD} (ok : OkM m) (p : Nat → Bool) : ∀ k, k ≤ m.old.length → -80000 * (k : Int) ≤ sizeLo m p k ∧ sizeLo m p k ≤ 80000 * k ∧ -80000 * (k : Int) ≤ sizeHi m p k ∧ sizeHi m p k ≤ 80000 * k
  | 0, _ => by simp [sizeLo, sizeHi, sumN]
  | k + 1, hk => by
    have ih := size_bounds ok p k (by omega)
    have hb := part_bounds ok p (d := k) (by omega)
    unfold sizeLo sizeHi at *
    rw [sumN_succ, sumN_succ]
    omega
theorem Blk.c8 {w : World} {g : Nat} {t : TypeId} {x0 x1 x2 x3 x4 x5 x6 x7 : Value} (h : Blk w g t #[x0, x1, x2, x3, x4, x5, x6, x7]) : w.cell? ⟨g, 0, none⟩ = some x0 ∧ w.cell? ⟨g, 1, none⟩ = some x1 ∧ w.cell? ⟨g, 2, none⟩ = some x2 ∧ w.cell? ⟨g, 3, none⟩ = some x3 ∧ w.cell? ⟨g, 4, none⟩ = some x4 ∧ w.cell? ⟨g, 5, none⟩ = some x5 ∧ w.cell? ⟨g, 6, none⟩ = some x6 ∧ w.cell? ⟨g, 7, none⟩ = some x7 :=
  ⟨by rw [h.cell]; rfl, by rw [h.cell]; rfl, by rw [h.cell]; rfl, by rw [h.cell]; rfl, by rw [h.cell]; rfl, by rw [h.cell]; rfl, by rw [h.cell]; rfl, by rw [h.cell]; rfl⟩
theorem liC_congr {f g : Nat → Int} (h : ∀ i, i < 8 → f i = g i) : liC f = liC g := by
  unfold liC
  rw [h 0 (by omega), h 1 (by omega), h 2 (by omega), h 3 (by omega), h 4 (by omega), h 5 (by omega), h 6 (by omega), h 7 (by omega)]
theorem liC_set {f g : Nat → Int} {k : Nat} {v : Int} (_hk : k < 8) (hv : g k = v) (h : ∀ i, i < 8 → i ≠ k → g i = f i) : (liC f).setIfInBounds k (.int .i64 v) = liC g := by
  apply Array.ext
  · simp [liC]
  · intro i h1 h2
    have hi : i < 8 := by simpa [liC] using h2
    have e2 : (liC g)[i]? = some (.int .i64 (g i)) := liC_get g hi
    have e1 : (liC f)[i]? = some (.int .i64 (f i)) := liC_get f hi
    rw [Array.getElem_setIfInBounds (by simpa [liC] using hi)]
    have q2 := Array.getElem?_eq_some_iff.1 e2
    have q1 := Array.getElem?_eq_some_iff.1 e1
    obtain ⟨_, q2⟩ := q2
    obtain ⟨_, q1⟩ := q1
    split
    · rename_i e
      rw [q2, ← e, hv]
    · rename_i e
      rw [q1, q2, h i hi (fun e' => e e'.symm)]

theorem Blk.liSame {w : World} {g : Nat} {t : TypeId} {f : Nat → Int} (h : Blk w g t (liC f)) {i : Nat} (hi : i < 8) : Blk (w.setCell ⟨g, i, none⟩ (.int .i64 (f i))) g t (liC f) := by
  have := h.set_ i (.int .i64 (f i))
  rwa [liC_set hi rfl (fun _ _ _ => rfl)] at this

def ownTo (m : MapD) (k : Nat) : Nat → Int := fun i => if i < k then ownL m i else 0
theorem ownTo_all {m : MapD} : ownTo m m.ss.length = ownL m := by
  funext i
  unfold ownTo ownL
  split
  · rfl
  · unfold MapD.S
    rw [List.getD, List.getElem?_eq_none (by omega)]; rfl
set_option maxRecDepth 100000 in
set_option maxHeartbeats 2000000 in
theorem bown_any (m : MapD) (A : Option Addr) (c : Nat) (A2 : Option Addr) (c2 : Nat) (A3 : Option Addr) (c3 : Nat) (w : World) (h : MIn m A c A2 c2 A3 c3 w) (h8 : m.ss.length ≤ 8) :
    Calls Tryz.prog 40 #[.agg #[.slice A m.old.length c, .int .i64 m.nw, .slice A2 m.ss.length c2, .slice A3 m.js.length c3]] w fun e w' => e = .returned (.agg (liC (ownL m))) ∧ Below w.heap.size w w' := by
  have hm1 := h.m2
  have hl1 := h.l2
  unfold maxLen at hm1
  have hb : Below w.heap.size w ((w.alloc (.cells #[.slice A m.old.length c, .int .i64 m.nw, .slice A2 m.ss.length c2, .slice A3 m.js.length c3] 36)).alloc (.cells #[.int .i64 0, .int .i64 0, .int .i64 0, .int .i64 0, .int .i64 0, .int .i64 0, .int .i64 0, .int .i64 0] 120)) := (((Below.refl w.heap.size w).alloc (Nat.le_refl _) (.cells #[.slice A m.old.length c, .int .i64 m.nw, .slice A2 m.ss.length c2, .slice A3 m.js.length c3] 36)).alloc (by simp) (.cells #[.int .i64 0, .int .i64 0, .int .i64 0, .int .i64 0, .int .i64 0, .int .i64 0, .int .i64 0, .int .i64 0] 120))
  have k1 := ((Blk.new w 36 #[.slice A m.old.length c, .int .i64 m.nw, .slice A2 m.ss.length c2, .slice A3 m.js.length c3]).alloc (.cells #[.int .i64 0, .int .i64 0, .int .i64 0, .int .i64 0, .int .i64 0, .int .i64 0, .int .i64 0, .int .i64 0] 120))
  have k2 := (Blk.new (w.alloc (.cells #[.slice A m.old.length c, .int .i64 m.nw, .slice A2 m.ss.length c2, .slice A3 m.js.length c3] 36)) 120 #[.int .i64 0, .int .i64 0, .int .i64 0, .int .i64 0, .int .i64 0, .int .i64 0, .int .i64 0, .int .i64 0])
  simp only [World.size_alloc] at k2
  have HS := hid (show Below w.heap.size w ((w.alloc (.cells #[.slice A m.old.length c, .int .i64 m.nw, .slice A2 m.ss.length c2, .slice A3 m.js.length c3] 36)).alloc (.cells #[.int .i64 0, .int .i64 0, .int .i64 0, .int .i64 0, .int .i64 0, .int .i64 0, .int .i64 0, .int .i64 0] 120)) ∧ Blk ((w.alloc (.cells #[.slice A m.old.length c, .int .i64 m.nw, .slice A2 m.ss.length c2, .slice A3 m.js.length c3] 36)).alloc (.cells #[.int .i64 0, .int .i64 0, .int .i64 0, .int .i64 0, .int .i64 0, .int .i64 0, .int .i64 0, .int .i64 0] 120)) w.heap.size 36 #[.slice A m.old.length c, .int .i64 m.nw, .slice A2 m.ss.length c2, .slice A3 m.js.length c3] ∧ Blk ((w.alloc (.cells #[.slice A m.old.length c, .int .i64 m.nw, .slice A2 m.ss.length c2, .slice A3 m.js.length c3] 36)).alloc (.cells #[.int .i64 0, .int .i64 0, .int .i64 0, .int .i64 0, .int .i64 0, .int .i64 0, .int .i64 0, .int .i64 0] 120)) (w.heap.size + 1) 120 (liC (ownTo m 0)) from ⟨hb, k1, k2⟩)
  obtain ⟨t0, t1, t2, t3⟩ := k1.c4
  have HH := hid h
  clear h hb k1 k2
  go_enter Tryz.func40, Tryz.ntmps40
  go_wp2
  go_loopw [8] (fun i W => ∃ k : Nat, k ≤ m.ss.length ∧ i = .int .i64 k ∧ Below w.heap.size w W ∧ Blk W w.heap.size 36 #[.slice A m.old.length c, .int .i64 m.nw, .slice A2 m.ss.length c2, .slice A3 m.js.length c3] ∧ Blk W (w.heap.size + 1) 120 (liC (ownTo m k))) (fun i _ => m.ss.length - (intOf i).toNat)
  case atStart => exact ⟨0, Nat.zero_le _, rfl, HS.out⟩
  case round =>
    obtain ⟨k, hk, rfl, hb, k1, k2⟩ := hrel
    clear HS t0 t1 t2 t3
    by_cases hlt : k < m.ss.length
    · have hkI : (k : Int) < (m.ss.length : Int) := by omega
      have hk8 : (k : Int) < 8 := by omega
      obtain ⟨s, hs⟩ : ∃ s, m.ss[k]? = some s := ⟨_, List.getElem?_eq_getElem hlt⟩
      obtain ⟨a, rfl, hab, f0, f1, f2, f3, f4⟩ := (HH.out.at_ hb).is k s hs
      have hc := k2.cell k
      rw [liC_get _ (by omega)] at hc
      have hf := k2.frozen k
      have hl := k2.lt
      have HST := hid (liC_set (f := ownTo m k) (g := ownTo m (k + 1)) (k := k) (v := s.n) (by omega) (by unfold ownTo ownL; rw [if_pos (by omega), MapD.S_eq hs]) (fun i _ hne => by
        unfold ownTo
        by_cases e : i < k
        · rw [if_pos e, if_pos (by omega)]
        · rw [if_neg e, if_neg (by omega)]))
      have HK := hid (And.intro hb (And.intro k1 k2))
      clear hb k1 k2 hs
      go_wp2
      go_roundw
      case rel =>
        obtain ⟨hb, k1, k2⟩ := HK.out
        have hne := Blk.ne_ k1 k2 (by decide)
        have q := hb.setCell (p := ⟨w.heap.size + 1, k, none⟩) (by show w.heap.size ≤ w.heap.size + 1; omega) (.int .i64 s.n)
        refine ⟨k + 1, by omega, by go_num, ?_, ?_, ?_⟩
        · exact q.alloc q.size _
        · exact (k1.far (p := ⟨w.heap.size + 1, k, none⟩) hne _).alloc _
        · rw [← HST.out]
          exact (k2.set_ k _).alloc _
      case measure => first | (simp [intOf]; done) | (simp [intOf]; omega)
    · have hkI : decide ((k : Int) < (m.ss.length : Int)) = false := by simp; omega
      obtain rfl : k = m.ss.length := by omega
      rw [ownTo_all] at k2
      have hl := k2.lt
      have hf0 := k2.frozen 0
      have hf1 := k2.frozen 1
      have hf2 := k2.frozen 2
      have hf3 := k2.frozen 3
      have hf4 := k2.frozen 4
      have hf5 := k2.frozen 5
      have hf6 := k2.frozen 6
      have hf7 := k2.frozen 7
      have HB := hid hb
      have K2 := hid k2
      unfold liC at k2
      obtain ⟨c0, c1, c2, c3, c4, c5, c6, c7⟩ := k2.c8
      clear k1 k2 hb
      obtain ⟨f, hf⟩ : ∃ f, ownL m = f := ⟨_, rfl⟩
      rw [hf] at c0 c1 c2 c3 c4 c5 c6 c7 K2
      have HV := hid hf
      clear hf
      go_wp2
      have k9 : Blk ((((((((wr.setCell ⟨w.heap.size + 1, 0, none⟩ (.int .i64 (f 0))).setCell ⟨w.heap.size + 1, 1, none⟩ (.int .i64 (f 1))).setCell ⟨w.heap.size + 1, 2, none⟩ (.int .i64 (f 2))).setCell ⟨w.heap.size + 1, 3, none⟩ (.int .i64 (f 3))).setCell ⟨w.heap.size + 1, 4, none⟩ (.int .i64 (f 4))).setCell ⟨w.heap.size + 1, 5, none⟩ (.int .i64 (f 5))).setCell ⟨w.heap.size + 1, 6, none⟩ (.int .i64 (f 6))).setCell ⟨w.heap.size + 1, 7, none⟩ (.int .i64 (f 7))) (w.heap.size + 1) 120 (liC f) := ((((((((K2.out.liSame (i := 0) (by omega)).liSame (i := 1) (by omega)).liSame (i := 2) (by omega)).liSame (i := 3) (by omega)).liSame (i := 4) (by omega)).liSame (i := 5) (by omega)).liSame (i := 6) (by omega)).liSame (i := 7) (by omega))
      have hbe : Below w.heap.size w ((((((((wr.setCell ⟨w.heap.size + 1, 0, none⟩ (.int .i64 (f 0))).setCell ⟨w.heap.size + 1, 1, none⟩ (.int .i64 (f 1))).setCell ⟨w.heap.size + 1, 2, none⟩ (.int .i64 (f 2))).setCell ⟨w.heap.size + 1, 3, none⟩ (.int .i64 (f 3))).setCell ⟨w.heap.size + 1, 4, none⟩ (.int .i64 (f 4))).setCell ⟨w.heap.size + 1, 5, none⟩ (.int .i64 (f 5))).setCell ⟨w.heap.size + 1, 6, none⟩ (.int .i64 (f 6))).setCell ⟨w.heap.size + 1, 7, none⟩ (.int .i64 (f 7))) := ((((((((HB.out.setCell (p := ⟨w.heap.size + 1, 0, none⟩) (by show w.heap.size ≤ w.heap.size + 1; omega) _).setCell (p := ⟨w.heap.size + 1, 1, none⟩) (by show w.heap.size ≤ w.heap.size + 1; omega) _).setCell (p := ⟨w.heap.size + 1, 2, none⟩) (by show w.heap.size ≤ w.heap.size + 1; omega) _).setCell (p := ⟨w.heap.size + 1, 3, none⟩) (by show w.heap.size ≤ w.heap.size + 1; omega) _).setCell (p := ⟨w.heap.size + 1, 4, none⟩) (by show w.heap.size ≤ w.heap.size + 1; omega) _).setCell (p := ⟨w.heap.size + 1, 5, none⟩) (by show w.heap.size ≤ w.heap.size + 1; omega) _).setCell (p := ⟨w.heap.size + 1, 6, none⟩) (by show w.heap.size ≤ w.heap.size + 1; omega) _).setCell (p := ⟨w.heap.size + 1, 7, none⟩) (by show w.heap.size ≤ w.heap.size + 1; omega) _)
      generalize ((((((((wr.setCell ⟨w.heap.size + 1, 0, none⟩ (.int .i64 (f 0))).setCell ⟨w.heap.size + 1, 1, none⟩ (.int .i64 (f 1))).setCell ⟨w.heap.size + 1, 2, none⟩ (.int .i64 (f 2))).setCell ⟨w.heap.size + 1, 3, none⟩ (.int .i64 (f 3))).setCell ⟨w.heap.size + 1, 4, none⟩ (.int .i64 (f 4))).setCell ⟨w.heap.size + 1, 5, none⟩ (.int .i64 (f 5))).setCell ⟨w.heap.size + 1, 6, none⟩ (.int .i64 (f 6))).setCell ⟨w.heap.size + 1, 7, none⟩ (.int .i64 (f 7))) = W9 at *
      unfold liC at k9
      obtain ⟨d0, d1, d2, d3, d4, d5, d6, d7⟩ := k9.c8
      exact bodyPost_ret (v := .agg (liC f)) (by simp [results, Tryz.results40, go_sem, d0, d1, d2, d3, d4, d5, d6, d7, liC]) rfl ⟨by rw [HV.out], hbe⟩
end Go.Proofs.YtlnamjhgbdacbaaGreat
/- The bounds of all streets and of all new districts. No condition. -/
namespace Go.Proofs.YtlnamjhgbdacbaaGreat
open Go.RowKit Go.Shelf

theorem mown_ne {W : World} {base e size n z : Nat} {v : Value} {xs : List Value} (h : W.ownsRow base e size v n xs) (hz : ∀ cs, W.heap[z]? ≠ some (.cells cs e (0, 0))) : v.ownBlock = none ∨ v.ownBlock ≠ some z := by
  rcases h.2 with ⟨rfl, _⟩ | ⟨g, cap, cur, rfl, _, hb, _⟩
  · exact .inl rfl
  · refine .inr fun e' => ?_
    injection e' with e'
    simp only at e'
    subst e'
    exact hz _ hb
theorem mblk_not {W : World} {g t e : Nat} {us : Array Value} (h : Blk W g t us) (hne : t ≠ e) : ∀ cs, W.heap[g]? ≠ some (.cells cs e (0, 0)) := by
  intro cs hc
  unfold Blk at h
  rw [h] at hc
  injection hc with hc
  injection hc with _ ht
  exact hne ht
/-- a block of another type stays where a row has grown -/
theorem blk_grown {W W' : World} {base e size n g t : Nat} {v : Value} {xs : List Value} {us : Array Value} (ho : W.ownsRow base e size v n xs) (hg : W.grownBy W' v.ownBlock) (hb : Blk W g t us) (hne : t ≠ e) : Blk W' g t us :=
  (hg.block _ hb.lt (by
    rcases mown_ne ho (mblk_not hb hne) with q | q
    · rw [q]; intro e'; cases e'
    · exact fun e' => q e'.symm)).trans hb
def rgC (rs : List (Int × Int)) : List Value := rs.flatMap fun p => [.int .i64 p.1, .int .i64 p.2]
theorem rgC_snoc (rs : List (Int × Int)) (p : Int × Int) : rgC (rs ++ [p]) = rgC rs ++ [.int .i64 p.1, .int .i64 p.2] := by simp [rgC]
theorem rgC_at : ∀ {rs : List (Int × Int)} {c : Nat} {p : Int × Int}, rs[c]? = some p → (rgC rs)[c * 2]? = some (.int .i64 p.1) ∧ (rgC rs)[c * 2 + 1]? = some (.int .i64 p.2)
  | [], c, p, h => by simp at h
  | q :: l, 0, p, h => by
    simp at h; subst h
    exact ⟨rfl, rfl⟩
  | q :: l, c + 1, p, h => by
    have : rgC (q :: l) = Value.int .i64 q.1 :: Value.int .i64 q.2 :: rgC l := rfl
    have ih := rgC_at (rs := l) (c := c) (p := p) (by simpa using h)
    rw [this, show (c + 1) * 2 = c * 2 + 1 + 1 by omega]
    exact ih
/-- the slice at A reads as these ranges, below block n -/
def IsRngs (w : World) (n : Nat) (A : Option Addr) (rs : List (Int × Int)) : Prop :=
  ∀ k p, rs[k]? = some p → ∃ a, A = some a ∧ a.block < n ∧ w.cell? (a.add (k * 2)) = some (.int .i64 p.1) ∧ w.cell? ⟨(a.add (k * 2)).block, (a.add (k * 2)).off + 1, none⟩ = some (.int .i64 p.2)
theorem IsRngs.at_ {w w' : World} {A : Option Addr} {rs : List (Int × Int)} (h : IsRngs w w.heap.size A rs) (hb : Below w.heap.size w w') : IsRngs w' w'.heap.size A rs := fun k s hk => by
  obtain ⟨a, e, hl, h0, h1⟩ := h k s hk
  exact ⟨a, e, Nat.lt_of_lt_of_le hl hb.size, (hb.cell (by rw [block_of_add]; exact hl)).trans h0, (hb.cell (by show (a.add _).block < _; rw [block_of_add]; exact hl)).trans h1⟩
theorem own_rngs {W : World} {base n : Nat} {v : Value} {rs : List (Int × Int)} (h : W.ownsRow base 68 2 v n (rgC rs)) (hn : n = rs.length) : ∃ A c, v = .slice A rs.length c ∧ IsRngs W W.heap.size A rs ∧ rs.length ≤ c ∧ c ≤ maxLen := by
  subst hn
  rcases h.2 with ⟨e, h0⟩ | ⟨z, cap, cur, e, hb, _, hl, hm, _⟩
  · have : rs = [] := List.eq_nil_of_length_eq_zero h0
    subst this
    exact ⟨none, 0, e, fun k p hk => by simp at hk, Nat.le_refl _, Nat.zero_le _⟩
  · refine ⟨some ⟨z, 0, none⟩, cap, e, fun k p hk => ?_, hl, hm⟩
    obtain ⟨q1, q2⟩ := rgC_at hk
    have c1 := h.cells (g := z) (by rw [e]; rfl) _ _ q1
    have c2 := h.cells (g := z) (by rw [e]; rfl) _ _ q2
    rw [add_blk] at c1 c2
    refine ⟨⟨z, 0, none⟩, rfl, ?_, ?_, ?_⟩
    · have := World.block_lt_of_cell? W _ c1
      exact this
    · rw [add_blk]; exact c1
    · rw [add_blk]; exact c2
theorem brng_info : (Tryz.prog.info? 68).map (fun i => (i.zero, i.size, i.bytes)) = some (some (.agg #[.int .i64 0, .int .i64 0]), 2, 16) := by kernel_rfl
/-- a list of ranges is handed back -/
def GivesRngs (rs : List (Int × Int)) (w : World) (e : Ending) (w' : World) : Prop := ∃ A c, e = .returned (.tuple #[.slice A rs.length c, .int .i64 0]) ∧ IsRngs w' w'.heap.size A rs ∧ rs.length ≤ c ∧ c ≤ maxLen ∧ Below w.heap.size w w'
theorem rng_new (w : World) (x y : Int) : ∀ (j : Nat) (u : Value), [Value.int .i64 x, .int .i64 y][j]? = some u → (w.alloc (.cells #[.int .i64 x, .int .i64 y] 68)).cell? ((⟨w.heap.size, 0, none⟩ : Addr).add j) = some u := by
  intro q u hq
  rw [add_blk]
  obtain ⟨n0, n1⟩ := (Blk.new w 68 #[.int .i64 x, .int .i64 y]).c2
  match q, hq with
  | 0, hq => injection hq with hq; subst hq; exact n0
  | 1, hq => injection hq with hq; subst hq; exact n1
  | q + 2, hq => simp at hq
theorem rng_blk {W : World} {g : Nat} {x y : Int} (h : Blk W g 68 #[.int .i64 x, .int .i64 y]) : ∀ (j : Nat) (u : Value), [Value.int .i64 x, .int .i64 y][j]? = some u → W.cell? ((⟨g, 0, none⟩ : Addr).add j) = some u := by
  intro q u hq
  rw [add_blk]
  obtain ⟨n0, n1⟩ := h.c2
  match q, hq with
  | 0, hq => injection hq with hq; subst hq; exact n0
  | 1, hq => injection hq with hq; subst hq; exact n1
  | q + 2, hq => simp at hq
def aloneP (i : Nat) : Nat → Bool := fun k => ((k : Int) == (i : Int))
def strOne (m : MapD) (i : Nat) : Int × Int := (partLo m (aloneP i) (m.S i).o.toNat, partHi m (aloneP i) (m.S i).o.toNat)
def strL (m : MapD) : List (Int × Int) := (List.range m.ss.length).map (strOne m)
def bndOne (m : MapD) (d : Nat) : Int × Int := (sizeLo m (inD (ownL m) (d : Int)) m.old.length, sizeHi m (inD (ownL m) (d : Int)) m.old.length)
def bndL (m : MapD) : List (Int × Int) := (List.range m.nw.toNat).map (bndOne m)
theorem map_range_succ {α : Type} (f : Nat → α) (k : Nat) : (List.range (k + 1)).map f = (List.range k).map f ++ [f k] := by rw [List.range_succ, List.map_append]; rfl

end Go.Proofs.YtlnamjhgbdacbaaGreat
/- Two lists that grow side by side within one statement whose order is open. No condition. -/
namespace Go.Proofs.YtlnamjhgbdacbaaGreat
open Go.RowKit Go.Shelf

/-- two rows of the call's own, each before or behind its append (operations 4 and 8, slots 35 and 39) -/
structure PhC (B n6 n7 : Nat) (c6 c7 : List Value) (x6 x7 v6 v7 : Value) (li : Array Bool) (a : Act) (W : World) : Prop where
  r6 : W.ownsRow B 3 1 (if li.getD 4 false then a.tmps.getD 35 undef else v6) (if li.getD 4 false then n6 + 1 else n6) (if li.getD 4 false then c6 ++ [x6] else c6)
  r7 : W.ownsRow B 3 1 (if li.getD 8 false then a.tmps.getD 39 undef else v7) (if li.getD 8 false then n7 + 1 else n7) (if li.getD 8 false then c7 ++ [x7] else c7)
  ne : (if li.getD 4 false then a.tmps.getD 35 undef else v6).ownBlock = none ∨ (if li.getD 4 false then a.tmps.getD 35 undef else v6).ownBlock ≠ (if li.getD 8 false then a.tmps.getD 39 undef else v7).ownBlock
section
variable {B n6 n7 : Nat} {c6 c7 : List Value} {x6 x7 v6 v7 : Value} {li : Array Bool} {a : Act} {W W' : World}
theorem ne_swap {x y : Option Nat} (h : x = none ∨ x ≠ y) : y = none ∨ y ≠ x := by
  rcases h with h | h
  · cases y with
    | none => exact .inl rfl
    | some z => exact .inr (by rw [h]; intro e; cases e)
  · exact .inr fun e => h e.symm
theorem PhC.other (h : PhC B n6 n7 c6 c7 x6 x7 v6 v7 li a W) {i d : Nat} {v : Value} (h4 : i ≠ 4) (h8 : i ≠ 8) (hd : d ≠ 35) (hd2 : d ≠ 39) (hb : Below W.heap.size W W') : PhC B n6 n7 c6 c7 x6 x7 v6 v7 (li.setIfInBounds i true) (a.put (some d) v) W' := by
  have e4 : (li.setIfInBounds i true).getD 4 false = li.getD 4 false := getD_set_oth h4
  have e8 : (li.setIfInBounds i true).getD 8 false = li.getD 8 false := getD_set_oth h8
  have e35 : (a.put (some d) v).tmps.getD 35 undef = a.tmps.getD 35 undef := put_getD_other hd
  have e39 : (a.put (some d) v).tmps.getD 39 undef = a.tmps.getD 39 undef := put_getD_other hd2
  obtain ⟨r6, r7, ne⟩ := h
  refine ⟨?_, ?_, ?_⟩
  · rw [e4, e35]; exact row_kept (vo := .slice none 0 0) r6 (grown_of_below hb _) (.inl rfl)
  · rw [e8, e39]; exact row_kept (vo := .slice none 0 0) r7 (grown_of_below hb _) (.inl rfl)
  · rw [e4, e8, e35, e39]; exact ne
theorem PhC.step6 (h : PhC B n6 n7 c6 c7 x6 x7 v6 v7 li a W) {v' : Value} (hn : li.getD 4 false = false) (hs : 4 < li.size) (ht : 35 < a.tmps.size) (ho : W'.ownsRow B 3 1 v' (n6 + 1) (c6 ++ [x6])) (hg : W.grownBy W' v6.ownBlock) (hf : v'.ownBlock = v6.ownBlock ∨ v'.ownBlock = some W.heap.size) :
    PhC B n6 n7 c6 c7 x6 x7 v6 v7 (li.setIfInBounds 4 true) (a.put (some 35) v') W' := by
  have e4 : (li.setIfInBounds 4 true).getD 4 false = true := getD_set_eq hs
  have e8 : (li.setIfInBounds 4 true).getD 8 false = li.getD 8 false := getD_set_oth (by decide)
  have e35 : (a.put (some 35) v').tmps.getD 35 undef = v' := put_getD_same ht
  have e39 : (a.put (some 35) v').tmps.getD 39 undef = a.tmps.getD 39 undef := put_getD_other (by decide)
  obtain ⟨r6, r7, ne⟩ := h
  rw [hn] at ne
  simp only [Bool.false_eq_true, if_false] at ne
  refine ⟨?_, ?_, ?_⟩
  · rw [e4, e35]; exact ho
  · rw [e8, e39]; exact row_kept r7 hg ne
  · rw [e4, e8, e35, e39]
    simp only [if_true]
    rcases hf with e | e
    · rw [e]; exact ne
    · refine .inr fun e' => ?_
      rw [e] at e'
      have := (r7.lt _ e'.symm).2
      omega
theorem PhC.step7 (h : PhC B n6 n7 c6 c7 x6 x7 v6 v7 li a W) {v' : Value} (hn : li.getD 8 false = false) (hs : 8 < li.size) (ht : 39 < a.tmps.size) (ho : W'.ownsRow B 3 1 v' (n7 + 1) (c7 ++ [x7])) (hg : W.grownBy W' v7.ownBlock) (hf : v'.ownBlock = v7.ownBlock ∨ v'.ownBlock = some W.heap.size) :
    PhC B n6 n7 c6 c7 x6 x7 v6 v7 (li.setIfInBounds 8 true) (a.put (some 39) v') W' := by
  have e8 : (li.setIfInBounds 8 true).getD 8 false = true := getD_set_eq hs
  have e4 : (li.setIfInBounds 8 true).getD 4 false = li.getD 4 false := getD_set_oth (by decide)
  have e39 : (a.put (some 39) v').tmps.getD 39 undef = v' := put_getD_same ht
  have e35 : (a.put (some 39) v').tmps.getD 35 undef = a.tmps.getD 35 undef := put_getD_other (by decide)
  obtain ⟨r6, r7, ne⟩ := h
  rw [hn] at ne
  simp only [Bool.false_eq_true, if_false] at ne
  refine ⟨?_, ?_, ?_⟩
  · rw [e4, e35]; exact row_kept r6 hg (ne_swap ne)
  · rw [e8, e39]; exact ho
  · rw [e4, e8, e35, e39]
    simp only [if_true]
    rcases hf with e | e
    · rw [e]; exact ne
    · refine .inr fun e' => ?_
      rw [e] at e'
      have := (r6.lt _ e').2
      omega
end
theorem row_own {β : Type} (B base e size : Nat) (v : β → Value) (n : β → Nat) (xs : β → List Value) : OwnFrom B (fun (s : β) W => W.ownsRow base e size (v s) (n s) (xs s)) := fun s W W' row hs hg hr =>
  hs.kept hg (by
    cases row with
    | none => cases h : (v s).ownBlock with
      | none => exact .inl rfl
      | some z => exact .inr (by intro e; cases e)
    | some r =>
      obtain ⟨_, o, ho, hc⟩ := hr r rfl
      refine mown_ne hs fun cs hcs => ?_
      rw [hcs] at ho
      cases ho; cases hc)
end Go.Proofs.YtlnamjhgbdacbaaGreat
