/- The walks and the plain laws of this part of the program, part 3: what each computes. Conditions stand at each theorem. -/
import Derived.RangeFuncNested
import Derived.RangeFuncLeaves
import Derived.OwnWalkIn
import Derived.TacticsInMore
import Derived.LoopNIn
import Derived.LoopIn
import Derived.Laws.CopyOwn
import Derived.IntWalk
import Derived.Test.YtlnamjhgbdacbaaGreatK1
import Derived.Test.YtlnamjhgbdacbaaGreatK2
/- The streets of an old district: the iterator of, and a loop over it. Conditions stand at each theorem. -/
namespace Go.Proofs.YtlnamjhgbdacbaaGreat
open Go.RowKit Go.Shelf

attribute [local go_sem] Oper.semAt_some
@[go_sem] theorem FW_round_m (ro : Option Nat) : (FW ro).round = ro := rfl
@[go_sem] theorem FW_depth_m (ro : Option Nat) : (FW ro).depth = none := rfl

theorem Keep.of_other' {Z : Nat → Prop} {W W' : World} {z : Nat} (h : W.grownBy W' (some z)) (hz : ∃ o, W.heap[z]? = some o ∧ o.isCells = false) : Keep Z W W' :=
  ⟨h.os, h.tape, h.output, h.size, fun i _ _ _ hi _ => (h.block i (Array.getElem?_eq_some_iff.1 hi).1 (fun e => by
    obtain ⟨o, ho, hn⟩ := hz
    cases e
    rw [ho] at hi
    cases hi
    cases hn)).trans hi⟩
set_option maxHeartbeats 400000 in
theorem of_any (v0 v1 v2 v3 : Value) (d : Int) (w : World) : Calls Tryz.prog 56 #[.agg #[v0, v1, v2, v3], .int .i64 d] w fun e w' => e = .returned (.func (.func 80) #[] #[.pointer (some ⟨w.heap.size, 0, none⟩), .pointer (some ⟨w.heap.size + 1, 0, none⟩)]) ∧ Below w.heap.size w w' ∧ Blk w' w.heap.size 36 #[v0, v1, v2, v3] ∧ Blk w' (w.heap.size + 1) 3 #[.int .i64 d] := by
  have hB := then_below (below_box (w := w) #[v0, v1, v2, v3] 36) (below_box #[.int .i64 d] 3)
  have h1 := (Blk.new w 36 #[v0, v1, v2, v3]).alloc (.cells #[.int .i64 d] 3)
  have h2 := Blk.new (w.alloc (.cells #[v0, v1, v2, v3] 36)) 3 #[.int .i64 d]
  rw [World.size_alloc] at h2
  have H := hid (And.intro hB (And.intro h1 h2))
  clear hB h1 h2
  go_enter Tryz.func56, Tryz.ntmps56
  go_wp2
  go_ret
  exact ⟨rfl, H.out⟩

/-- the iterator g gives the streets of old district d, in order, whatever the loop's body does to the cells of X -/
def OfC (m : MapD) (d : Int) (g : Nat) (lb : Array Value) (X : Nat → Prop) (w0 : World) : Prop :=
  ∀ (l : Nat) (J : Nat → World → Prop) (Jx : World → Prop) (W : World), Below w0.heap.size w0 W →
    (∀ k W1 W2, J k W1 → Below W1.heap.size W1 W2 → J k W2) →
    (∀ k s W1, m.ss[k]? = some s → s.o ≠ d → J k W1 → J (k + 1) W1) →
    (∀ (k : Nat) s W1, m.ss[k]? = some s → s.o = d → J k W1 → YieldAt (FW none) 0 Tryz.prog l #[.int .i64 (k : Int), .agg #[.int .i64 s.o, .int .i64 s.n, .int .i64 s.wt, .int .i64 s.lo, .int .i64 s.hi]] W1 fun e W2 => (e = .returned (.bool true) ∧ J (k + 1) W2 ∧ Keep X W1 W2) ∨ (e = .returned (.bool false) ∧ Jx W2)) →
    J 0 W →
    CallsIn (FW none) 0 Tryz.prog g (#[.func (.yield l) #[] #[]] ++ lb) W fun e W' => (∃ v, e = .returned v) ∧ (J m.ss.length W' ∨ Jx W')

set_option maxRecDepth 100000 in
set_option maxHeartbeats 2000000 in
theorem of1_any {m : MapD} {A2 : Option Addr} {c2 : Nat} {v0 v1 v3 : Value} {d : Int} {n : Nat} {w0 : World} {Bm Bd : Nat} {X : Nat → Prop}
    (hm : Blk w0 Bm 36 #[v0, v1, .slice A2 m.ss.length c2, v3]) (hd : Blk w0 Bd 3 #[.int .i64 d]) (hn : n ≤ w0.heap.size) (hs : IsStts w0 n A2 m.ss) (hl : m.ss.length ≤ c2) (hc : c2 ≤ maxLen) (hX : ∀ k, X k → n ≤ k ∧ k ≠ Bd) :
    OfC m d 80 #[.pointer (some ⟨Bm, 0, none⟩), .pointer (some ⟨Bd, 0, none⟩)] X w0 := by
  intro l J Jx W hb hJg hsk hy hj
  unfold maxLen at hc
  have hm' := hm.keep hb
  have HD := hid (hd.keep hb)
  have HS := hid (hs.below (hb.mono hn))
  have HX := hid hX
  have HJ := hid (And.intro hJg (And.intro hsk hy))
  have HJ0 := hid hj
  obtain ⟨t0, t1, t2, t3⟩ := hm'.c4
  clear hm hd hs hX hJg hsk hy hj hb hm'
  refine callsIn_of_wp Tryz.func80 rfl trivial ?_ rfl
  simp only [Tryz.ntmps80, List.size_toArray, List.length_cons, List.length_nil, Nat.reduceAdd, Nat.reduceSub, Array.replicate_succ, Array.replicate_zero, List.push_toArray, List.append_toArray, List.nil_append, List.cons_append]
  gi_wp2
  clear t0 t1 t2 t3
  gi_loopw [9] (fun i wr => ∃ k : Nat, k ≤ m.ss.length ∧ i = .int .i64 k ∧ J k wr ∧ Keep X W wr) (fun i _ => m.ss.length - (intOf i).toNat)
  case atStart => exact ⟨0, Nat.zero_le _, rfl, HJ0.out, Keep.refl _ _⟩
  case round =>
    obtain ⟨k, hk, rfl, hJk, hkp⟩ := hrel
    have HK := hid (And.intro hJk hkp)
    clear hJk hkp
    by_cases hlt : k < m.ss.length
    · have hkI : (k : Int) < (m.ss.length : Int) := by omega
      obtain ⟨s, hs⟩ : ∃ s, m.ss[k]? = some s := ⟨_, List.getElem?_eq_getElem hlt⟩
      obtain ⟨a, rfl, hab, f0, f1, f2, f3, f4⟩ := HS.out k s hs
      have hna : ∀ (q : Nat), ¬ X (a.add q).block := fun q h => by rw [block_of_add] at h; have := HX.out _ h; omega
      replace f0 := HK.out.2.cell f0 (hna _)
      replace f1 := HK.out.2.cell f1 (hna _)
      replace f2 := HK.out.2.cell f2 (hna _)
      replace f3 := HK.out.2.cell f3 (hna _)
      replace f4 := HK.out.2.cell f4 (hna _)
      have hbd := HK.out.2.blk HD.out (fun h => (HX.out _ h).2 rfl)
      have d0 := hbd.c1
      have dl := hbd.lt
      have HSS := hid hs
      clear hna hbd hs
      by_cases hod : s.o = d
      · have hoB : (s.o == d) = true := by simp [hod]
        have HOD := hid hod
        clear hod
        have HY := hid (HJ.out.2.2 k s (wr.alloc (.cells #[.int .i64 s.o, .int .i64 s.n, .int .i64 s.wt, .int .i64 s.lo, .int .i64 s.hi] 70)) HSS.out HOD.out (HJ.out.1 k _ _ HK.out.1 (below_box _ _)))
        obtain ⟨fn, tmps, assign, body, hy, hR⟩ := HY.out
        have HR := hid hR
        clear hR HY
        gi_wp2
        refine HR.out.mono ?_
        rintro e W3 (⟨rfl, hJ3, hk3⟩ | ⟨rfl, hJx3⟩)
        · gi_wp2
          go_roundw
          case rel => exact ⟨k + 1, by omega, by go_num, hJ3, (HK.out.2.alloc _).trans hk3⟩
          case measure => first | (simp [intOf]; done) | (simp [intOf]; omega)
        · gi_wp2
          refine bodyPost_ret (results_none rfl _ _ _) rfl ?_
          exact ⟨⟨_, rfl⟩, .inr hJx3⟩
      · have hoB : (s.o == d) = false := by simp [hod]
        have HOD := hid hod
        clear hod
        gi_wp2
        refine ⟨(fun f hf => by cases hf), ?_⟩
        gi_wp2
        go_roundw
        case rel => exact ⟨k + 1, by omega, by go_num, HJ.out.1 _ _ _ (HJ.out.2.1 k s _ HSS.out HOD.out HK.out.1) (below_box _ _), HK.out.2.alloc _⟩
        case measure => first | (simp [intOf]; done) | (simp [intOf]; omega)
    · have hkI : decide ((k : Int) < (m.ss.length : Int)) = false := by simp; omega
      obtain rfl : k = m.ss.length := by omega
      gi_wp2
      go_end0
      exact ⟨⟨_, rfl⟩, .inl HK.out.1⟩

/-- how the body of a round may be left -/
def ofPost (B : Nat) (X : Nat → Prop) (I : Nat → World → Prop) (Ix : Code → World → Prop) (k : Nat) (W : World) : Exit → Act → World → Prop
  | .normal, _, W' => KeepsFrom B W W' ∧ Keep X W W' ∧ I (k + 1) W'
  | .ret, _, W' => KeepsFrom B W W' ∧ Ix .ret W'
  | .exit id, _, W' => KeepsFrom B W W' ∧ Ix (.exit id) W'
  | .goto t, _, W' => KeepsFrom B W W' ∧ Ix (.goto t) W'
  | .panic _, _, _ => False
  | .outgrown, _, _ => False
theorem keepsFrom_of_keep {B : Nat} {W W' : World} (h : Below W.heap.size W W') : KeepsFrom B W W' := ⟨h.size, fun k _ _ hk _ => (h.block k (Array.getElem?_eq_some_iff.1 hk).1).trans hk⟩
def stC (s : Stt) : Array Value := #[.int .i64 s.o, .int .i64 s.n, .int .i64 s.wt, .int .i64 s.lo, .int .i64 s.hi]
set_option maxHeartbeats 1000000 in
theorem wpIn_rangeFunc_of {g : Operand} {p q : Tmp} {assign body : Code} {Q : Exit → Act → World → Prop} {a : Act} {w : World} {gf : Nat} {lb : Array Value} (hg : a.eval g = .func (.func gf) #[] lb)
    (eg : ∀ args w, (callFunc gf args).run Tryz.prog w = .ok (.enter gf args) w) {m : MapD} {d : Int} {X : Nat → Prop} {w0 : World} (hseq : OfC m d gf lb X w0) (hb0 : Below w0.heap.size w0 w)
    (I : Nat → World → Prop) (Ix : Code → World → Prop) (hI : OwnFrom w.heap.size I) (hIx : ∀ c, OwnFrom w.heap.size (fun (_ : Unit) W => Ix c W)) (h0 : I 0 w)
    (hsk : ∀ k s W, m.ss[k]? = some s → s.o ≠ d → I k W → I (k + 1) W)
    (A0 : Nat → Stt → Nat → Act)
    (hassign : ∀ (l k : Nat) (s : Stt) (W : World) (K : Act → World → Prop), K (A0 k s W.heap.size) (W.alloc (.cells (stC s) 70)) →
      assign.wpIn (FW (some l)) 0 Tryz.prog (Exit.then K (fun _ _ _ => False)) { tmps := (a.tmps.setIfInBounds p (.int .i64 (k : Int))).setIfInBounds q (.agg #[.int .i64 s.o, .int .i64 s.n, .int .i64 s.wt, .int .i64 s.lo, .int .i64 s.hi]), defers := [] } W)
    (hbody : ∀ (l k : Nat) (s : Stt) (z : Nat) (W : World), w.heap.size ≤ l → w.heap.size ≤ z → (∃ r, W.heap[l]? = some (.loop r)) → m.ss[k]? = some s → s.o = d → I k W → Blk W z 70 (stC s) →
      body.wpIn (FW (some l)) 0 Tryz.prog (ofPost w.heap.size X I Ix k W) (A0 k s z) W)
    (hdone : ∀ (D : Nat) (W : World), w.heap.size ≤ D → I m.ss.length W → W.heap[D]? = some (.deferred (some [])) → Q .normal { a with defers := { target := .collected D, args := #[] } :: a.defers } W)
    (hstop : ∀ (D : Nat) (c : Code) (W : World), w.heap.size ≤ D → Ix c W → W.heap[D]? = some (.deferred (some [])) → c.wpIn (FW none) 0 Tryz.prog Q { a with defers := { target := .collected D, args := #[] } :: a.defers } W) :
    (Code.rangeFunc g #[p, q] assign body).wpIn (FW none) 0 Tryz.prog Q a w := by
  refine wpIn_rangeFunc ?_
  intro fn hfn
  obtain ⟨rec, hrec⟩ : ∃ rec : LoopState → Option Code → Loop, rec = fun st pe => { state := st, pending := pe, fn, tmps := a.tmps, params := #[p, q], assign, body, defers := w.heap.size } := ⟨_, rfl⟩
  obtain ⟨W1, hW1⟩ : ∃ W1, (w.alloc (.deferred (some []))).alloc (.loop (rec .ready none)) = W1 := ⟨_, rfl⟩
  have hL1 : W1.heap[w.heap.size + 1]? = some (.loop (rec .ready none)) := by
    rw [← hW1]; have := World.alloc_heap_new (w.alloc (.deferred (some []))) (.loop (rec .ready none)); rwa [World.size_alloc] at this
  have hK1 : W1.heap[w.heap.size]? = some (.deferred (some [])) := by
    rw [← hW1]; exact (Below.heap_alloc _ _ _ (by simp)).trans (World.alloc_heap_new w _)
  have hI1 : I 0 W1 := by rw [← hW1]; exact hI.alloc _ (hI.alloc _ h0)
  have hb1 : Below w0.heap.size w0 W1 := by
    rw [← hW1]; exact hb0.trans ((((Below.refl _ w).alloc (Nat.le_refl _) _).alloc (by simp) _).mono hb0.size)
  refine ⟨w.heap.size + 1, [{ target := .collected w.heap.size, args := #[] }], W1, { target := .fn (.func gf) lb, args := #[.func (.yield (w.heap.size + 1)) #[] #[]] }, W1, gf,
    #[.func (.yield (w.heap.size + 1)) #[] #[]] ++ lb, W1, ?_, ?_, ?_, ?_, fun h => (by simp [FW, Fence.wide] at h), ?_⟩
  · rw [← hW1, hrec]; exact run_enterLoop_outer _ _ _ _ _
  · simp only [resolve, hg]
    simp [go_sem]
  · intro f' hf'; exact trivial
  · simp [invoke, go_sem, eg]
  · refine (hseq (w.heap.size + 1)
      (fun k W => I k W ∧ W.heap[w.heap.size + 1]? = some (.loop (rec .ready none)) ∧ W.heap[w.heap.size]? = some (.deferred (some [])))
      (fun W => ∃ c, Ix c W ∧ W.heap[w.heap.size + 1]? = some (.loop (rec .done (some c))) ∧ W.heap[w.heap.size]? = some (.deferred (some [])))
      W1 hb1
      (fun k A B hs hb => ⟨hI k A B none hs.1 (grown_of_below hb none) (fun r e => by cases e), (hb.block _ (Array.getElem?_eq_some_iff.1 hs.2.1).1).trans hs.2.1, (hb.block _ (Array.getElem?_eq_some_iff.1 hs.2.2).1).trans hs.2.2⟩)
      (fun k s W hk hne hs => ⟨hsk k s W hk hne hs.1, hs.2⟩)
      ?_ ⟨hI1, hL1, hK1⟩).mono ?_
    · rintro k s W hks hod ⟨hi, hl, hk⟩
      have hlt : w.heap.size + 1 < W.heap.size := (Array.getElem?_eq_some_iff.1 hl).1
      have hy := run_yield (P := Tryz.prog) (args := #[.int .i64 (k : Int), .agg #[.int .i64 s.o, .int .i64 s.n, .int .i64 s.wt, .int .i64 s.lo, .int .i64 s.hi]]) hl (by rw [hrec]; rfl)
      rw [hrec] at hy
      refine ⟨fn, (a.tmps.setIfInBounds p (.int .i64 (k : Int))).setIfInBounds q (.agg #[.int .i64 s.o, .int .i64 s.n, .int .i64 s.wt, .int .i64 s.lo, .int .i64 s.hi]), assign, body, by simpa using hy, roundIn_of_wpIn hfn (hassign (w.heap.size + 1) k s W _ ?_)⟩
      clear hy
      have hba := below_box (w := W) (stC s) 70
      have hbz := Blk.new W 70 (stC s)
      have hz : w.heap.size ≤ W.heap.size := by omega
      have hkpa : Keep X W (W.alloc (.cells (stC s) 70)) := Keep.of_below X hba
      replace hl := (hba.block _ (Array.getElem?_eq_some_iff.1 hl).1).trans hl
      replace hk := (hba.block _ (Array.getElem?_eq_some_iff.1 hk).1).trans hk
      replace hi := hI.alloc (.cells (stC s) 70) hi
      have hbsz := hba.size
      obtain ⟨z, hzz⟩ : ∃ z, W.heap.size = z := ⟨_, rfl⟩
      rw [hzz] at hbz hz ⊢
      revert hkpa
      generalize W.alloc (.cells (stC s) 70) = Wa at *
      generalize W = Wb
      intro hkpa
      refine ⟨_, run_beginRound hl (by rw [hrec]), ?_⟩
      have hlt2 : w.heap.size + 1 < Wa.heap.size := (Array.getElem?_eq_some_iff.1 hl).1
      have hl2 : (Wa.putObj (w.heap.size + 1) (.loop { rec .ready none with state := .busy })).heap[w.heap.size + 1]? = some (.loop { rec .ready none with state := .busy }) := World.putObj_heap_same hlt2
      have hk2 : (Wa.putObj (w.heap.size + 1) (.loop { rec .ready none with state := .busy })).heap[w.heap.size]? = some (.deferred (some [])) := (World.putObj_heap_other (by omega)).trans hk
      have hn2 : ∃ o, Wa.heap[w.heap.size + 1]? = some o ∧ o.isCells = false := ⟨_, hl, rfl⟩
      have hkp2 : Keep X Wa (Wa.putObj (w.heap.size + 1) (.loop { rec .ready none with state := .busy })) := Keep.of_other' (grownBy_putObj' Wa (w.heap.size + 1) _) hn2
      have hi2 : I k (Wa.putObj (w.heap.size + 1) (.loop { rec .ready none with state := .busy })) := hI k _ _ _ hi (grownBy_putObj' Wa (w.heap.size + 1) _) (fun r e => by cases e; exact ⟨by omega, hn2⟩)
      have hbz2 := (Keep.of_other' (Z := fun _ => False) (grownBy_putObj' Wa (w.heap.size + 1) (.loop { rec .ready none with state := .busy })) hn2).blk hbz id
      refine wpIn_mono (hbody (w.heap.size + 1) k s z _ (by omega) hz ⟨_, hl2⟩ hks hod hi2 hbz2) ?_
      have fin : ∀ (jump : Option Code) (W3 : World), KeepsFrom w.heap.size (Wa.putObj (w.heap.size + 1) (.loop { rec .ready none with state := .busy })) W3 →
          (Instr.endRound (w.heap.size + 1) jump).run Tryz.prog W3 = .ok (.bool jump.isNone) (W3.putObj (w.heap.size + 1) (.loop (rec (if jump.isNone then .ready else .done) jump))) ∧
          W3.heap[w.heap.size + 1]? = some (.loop { rec .ready none with state := .busy }) ∧
          (W3.putObj (w.heap.size + 1) (.loop (rec (if jump.isNone then .ready else .done) jump))).heap[w.heap.size + 1]? = some (.loop (rec (if jump.isNone then .ready else .done) jump)) ∧
          (W3.putObj (w.heap.size + 1) (.loop (rec (if jump.isNone then .ready else .done) jump))).heap[w.heap.size]? = some (.deferred (some [])) := fun jump W3 hk3 => by
        have hl3 := hk3.same _ _ (by omega) hl2 rfl
        have := run_endRound (P := Tryz.prog) jump hl3
        rw [hrec] at this ⊢
        exact ⟨this, by rw [hrec] at hl3; exact hl3, World.putObj_heap_same (Array.getElem?_eq_some_iff.1 hl3).1, (World.putObj_heap_other (by omega)).trans (hk3.same _ _ (Nat.le_refl _) hk2 rfl)⟩
      have put : ∀ (c : Code) (W3 : World) (o' : Obj), W3.heap[w.heap.size + 1]? = some (.loop { rec .ready none with state := .busy }) → Ix c W3 → Ix c (W3.putObj (w.heap.size + 1) o') := fun c W3 o' hl3 hix =>
        hIx c () _ _ _ hix (grownBy_putObj' W3 (w.heap.size + 1) o') (fun r e => by cases e; exact ⟨by omega, _, hl3, rfl⟩)
      rintro e a3 W3 hp
      cases e with
      | normal =>
        obtain ⟨hk3, hkp3, hi3⟩ := hp
        obtain ⟨hr, hl3, hl4, hk4⟩ := fin none W3 hk3
        refine ⟨_, _, hr, .inl ⟨rfl, ⟨hI (k + 1) _ _ _ hi3 (grownBy_putObj' W3 (w.heap.size + 1) _) (fun r e => by cases e; exact ⟨by omega, _, hl3, rfl⟩), hl4, hk4⟩, ?_⟩⟩
        exact hkpa.trans (hkp2.trans (hkp3.trans (Keep.of_other' (grownBy_putObj' W3 (w.heap.size + 1) _) ⟨_, hl3, rfl⟩)))
      | ret =>
        obtain ⟨hk3, hi3⟩ := hp
        obtain ⟨hr, hl3, hl4, hk4⟩ := fin (some .ret) W3 hk3
        exact ⟨_, _, hr, .inr ⟨rfl, .ret, put _ _ _ hl3 hi3, hl4, hk4⟩⟩
      | exit id =>
        obtain ⟨hk3, hi3⟩ := hp
        obtain ⟨hr, hl3, hl4, hk4⟩ := fin (some (.exit id)) W3 hk3
        exact ⟨_, _, hr, .inr ⟨rfl, .exit id, put _ _ _ hl3 hi3, hl4, hk4⟩⟩
      | goto t =>
        obtain ⟨hk3, hi3⟩ := hp
        obtain ⟨hr, hl3, hl4, hk4⟩ := fin (some (.goto t)) W3 hk3
        exact ⟨_, _, hr, .inr ⟨rfl, .goto t, put _ _ _ hl3 hi3, hl4, hk4⟩⟩
      | panic ch => exact hp.elim
      | outgrown => exact hp.elim
    · rintro e W2 ⟨⟨v, rfl⟩, (⟨hi, hl, hk⟩ | ⟨c, hi, hl, hk⟩)⟩
      · exact ⟨none, _, by have := run_endLoop (P := Tryz.prog) hl (by rw [hrec]; simp); rw [hrec] at this; exact this, hdone _ _ (Nat.le_refl _) (hI _ _ _ _ hi (grownBy_putObj' W2 (w.heap.size + 1) _) (fun r e => by cases e; exact ⟨by omega, _, hl, rfl⟩)) ((World.putObj_heap_other (by omega)).trans hk)⟩
      · exact ⟨some c, _, by have := run_endLoop (P := Tryz.prog) hl (by rw [hrec]; simp); rw [hrec] at this; exact this, hstop _ c _ (Nat.le_refl _) (hIx c () _ _ _ hi (grownBy_putObj' W2 (w.heap.size + 1) _) (fun r e => by cases e; exact ⟨by omega, _, hl, rfl⟩)) ((World.putObj_heap_other (by omega)).trans hk)⟩
end Go.Proofs.YtlnamjhgbdacbaaGreat
/- Loops over an iterator within a loop: the marks that they leave. No condition. -/
namespace Go.Proofs.YtlnamjhgbdacbaaGreat
open Go.RowKit Go.Shelf

def mkD (D : Nat) : Deferred := { target := .collected D, args := #[] }
structure Marks (B : Nat) (Ds : List Nat) (W : World) : Prop where
  nd : Ds.Nodup
  at_ : ∀ D ∈ Ds, B ≤ D ∧ W.heap[D]? = some (.deferred (some []))
section
variable {B : Nat} {Ds : List Nat} {W W' : World}
theorem Marks.nil (B : Nat) (W : World) : Marks B [] W := ⟨List.nodup_nil, fun D h => by simp at h⟩
theorem Marks.keep (h : Marks B Ds W) (hk : KeepsFrom B W W') : Marks B Ds W' := ⟨h.nd, fun D hD => ⟨(h.at_ D hD).1, hk.same D _ (h.at_ D hD).1 (h.at_ D hD).2 rfl⟩⟩
theorem Marks.below (h : Marks B Ds W) (hb : Below W.heap.size W W') : Marks B Ds W' := h.keep (keepsFrom_of_keep hb)
theorem Marks.cons {D : Nat} {W0 : World} (h0 : Marks B Ds W0) (h : Marks B Ds W) (hD : B ≤ D) (hD0 : W0.heap.size ≤ D) (hd : W.heap[D]? = some (.deferred (some []))) : Marks B (D :: Ds) W :=
  ⟨List.nodup_cons.2 ⟨fun hm => by
    have := (Array.getElem?_eq_some_iff.1 (h0.at_ D hm).2).1
    omega, h.nd⟩, fun D' hm => (List.mem_cons.1 hm).elim (fun e => by rw [e]; exact ⟨hD, hd⟩) (h.at_ D')⟩
end
theorem KeepsFrom.of_set {B : Nat} {W : World} (a : Addr) (v : Value) : KeepsFrom B W (W.setCell a v) := (KeepsOthers.setCell W a v).from B
/-- at the function's end the marks are taken off -/
theorem leaves_marks {fn : Func} {tmps : Array Value} {R : Ending → World → Prop} {B : Nat} : ∀ (Ds : List Nat) (W : World), Marks B Ds W →
    (∀ W', Keep (fun _ => False) W W' → Below B W W' → LeavesInM (FW none) 0 Tryz.prog fn tmps R [] .returning W') → LeavesInM (FW none) 0 Tryz.prog fn tmps R (Ds.map mkD) .returning W
  | [], W, _, h => h W (Keep.refl _ _) (Below.refl _ _)
  | D :: Ds, W, hm, h => by
    obtain ⟨hB, hd⟩ := hm.at_ D (by simp)
    have hn := (List.nodup_cons.1 hm.nd)
    have hg := grownBy_putObj' W D (.deferred none)
    have hno : ∃ o, W.heap[D]? = some o ∧ o.isCells = false := ⟨_, hd, rfl⟩
    refine ⟨by simp, .inl ⟨D, W.putObj D (.deferred none), rfl, run_takeDeferred hd, leaves_marks Ds _ ⟨hn.2, fun D' hD' => ⟨(hm.at_ D' (by simp [hD'])).1, ?_⟩⟩ fun W' hk hb => h W' ((Keep.of_other' hg hno).trans hk) ?_⟩⟩
    · exact (World.putObj_heap_other (fun e => hn.1 (by rw [← e]; exact hD'))).trans (hm.at_ D' (by simp [hD'])).2
    · refine Below.trans ⟨hg.os, hg.tape, hg.output, hg.size, fun k hk => World.putObj_heap_other (by omega)⟩ hb
/-- what lay is as it lay, but for the blocks of Z -/
structure MChg (Z : Nat → Prop) (W W' : World) : Prop where
  os : W'.os = W.os
  tape : W'.tape = W.tape
  output : W'.output = W.output
  size : W.heap.size ≤ W'.heap.size
  block : ∀ k, k < W.heap.size → ¬ Z k → W'.heap[k]? = W.heap[k]?
section
variable {Z Y : Nat → Prop} {A B D : World}
theorem MChg.refl : MChg Z A A := ⟨rfl, rfl, rfl, Nat.le_refl _, fun _ _ _ => rfl⟩
theorem MChg.trans (h : MChg Z A B) (k : MChg Z B D) : MChg Z A D := ⟨k.os.trans h.os, k.tape.trans h.tape, k.output.trans h.output, Nat.le_trans h.size k.size, fun i hi hn => (k.block i (Nat.lt_of_lt_of_le hi h.size) hn).trans (h.block i hi hn)⟩
theorem MChg.of_below (h : Below A.heap.size A B) : MChg Z A B := ⟨h.os, h.tape, h.output, h.size, fun k hk _ => h.block k hk⟩
theorem MChg.of_grown {row : Option Nat} (h : A.grownBy B row) (hz : ∀ k, row = some k → Z k) : MChg Z A B := ⟨h.os, h.tape, h.output, h.size, fun k hk hn => h.block k hk (fun e => hn (hz k e.symm))⟩
theorem MChg.more {z : Nat} (h : MChg Z A B) (k : B.grownBy D (some z)) (hz : A.heap.size ≤ z) : MChg Z A D :=
  ⟨k.os.trans h.os, k.tape.trans h.tape, k.output.trans h.output, Nat.le_trans h.size k.size, fun i hi hn => (k.block i (Nat.lt_of_lt_of_le hi h.size) (fun e => by cases e; omega)).trans (h.block i hi hn)⟩
theorem MChg.sub (h : MChg Z A B) (hz : ∀ q, Z q → Y q) : MChg Y A B := ⟨h.os, h.tape, h.output, h.size, fun k hk hn => h.block k hk (fun e => hn (hz k e))⟩
theorem MChg.keep (h : MChg Z A B) : Keep Z A B := ⟨h.os, h.tape, h.output, h.size, fun i _ _ _ hi hz => (h.block i (Array.getElem?_eq_some_iff.1 hi).1 hz).trans hi⟩
theorem MChg.set (h : MChg Z A B) {g o : Nat} (hz : Z g) (v : Value) : MChg Z A (B.setCell ⟨g, o, none⟩ v) :=
  h.trans ⟨rfl, rfl, rfl, by simp [World.setCell], fun k _ hn => Below.heap_setCell B ⟨g, o, none⟩ v k (fun e => hn (by rw [e]; exact hz))⟩
theorem MChg.below {n : Nat} (h : MChg Z A B) (hZ : ∀ k, Z k → n ≤ k) (hn : n ≤ A.heap.size) : Below n A B := ⟨h.os, h.tape, h.output, h.size, fun k hk => h.block k (by omega) (fun e => by have := hZ k e; omega)⟩
theorem MChg.blk {g t : Nat} {cs : Array Value} (h : MChg Z A B) (hb : Blk A g t cs) (hz : ¬ Z g) : Blk B g t cs := (h.block g hb.lt hz).trans hb
end
theorem chg_own {β : Type} {Z : Nat → Prop} {A : World} {B : Nat} (h : A.heap.size ≤ B) : OwnFrom B (fun (_ : β) W => MChg Z A W) := fun s W W' row hs hg hr =>
  ⟨hg.os.trans hs.os, hg.tape.trans hs.tape, hg.output.trans hs.output, Nat.le_trans hs.size hg.size, fun k hk hn => (hg.block k (Nat.lt_of_lt_of_le hk hs.size) (fun e => by have := (hr k e.symm).1; omega)).trans (hs.block k hk hn)⟩
theorem blk_own {β : Type} (B g t : Nat) (f : β → Array Value) : OwnFrom B (fun (s : β) W => Blk W g t (f s)) := fun s W W' row hs hg hr =>
  (hg.block g hs.lt (fun e => by
    obtain ⟨_, o, ho, hc⟩ := hr g e.symm
    rw [show W.heap[g]? = _ from hs] at ho
    cases ho; cases hc)).trans hs
theorem Marks.chg {B : Nat} {Ds : List Nat} {Z : Nat → Prop} {A W : World} (h : Marks B Ds A) (hc : MChg Z A W) (hz : ∀ D ∈ Ds, ¬ Z D) : Marks B Ds W :=
  ⟨h.nd, fun D hD => ⟨(h.at_ D hD).1, (hc.block D (Array.getElem?_eq_some_iff.1 (h.at_ D hD).2).1 (hz D hD)).trans (h.at_ D hD).2⟩⟩
theorem Marks.ne {B g t : Nat} {Ds : List Nat} {A : World} {cs : Array Value} (h : Marks B Ds A) (hb : Blk A g t cs) : ∀ D ∈ Ds, D ≠ g := fun D hD e => by
  have := (h.at_ D hD).2
  rw [e, show A.heap[g]? = _ from hb] at this
  cases this
end Go.Proofs.YtlnamjhgbdacbaaGreat
/- Whether each old district has a street with a weight. Conditions stand at the theorem. -/
namespace Go.Proofs.YtlnamjhgbdacbaaGreat
open Go.RowKit Go.Shelf

attribute [local go_sem] Oper.semAt_some

set_option maxRecDepth 100000 in
set_option maxHeartbeats 2000000 in
theorem weighed_any (m : MapD) (A : Option Addr) (c : Nat) (A2 : Option Addr) (c2 : Nat) (A3 : Option Addr) (c3 : Nat) (w : World) (h : MIn m A c A2 c2 A3 c3 w) (h8 : m.ss.length ≤ 8) (hw : ∀ s ∈ m.ss, 0 ≤ s.wt ∧ s.wt ≤ 1000) :
    Calls Tryz.prog 54 #[.agg #[.slice A m.old.length c, .int .i64 m.nw, .slice A2 m.ss.length c2, .slice A3 m.js.length c3]] w fun e w' => e = .returned (.bool ((List.range m.old.length).all (wghOk m))) ∧ Below w.heap.size w w' := by
  have hm1 := h.m1
  have hl1 := h.l1
  unfold maxLen at hm1
  have hB := below_box (w := w) #[.slice A m.old.length c, .int .i64 m.nw, .slice A2 m.ss.length c2, .slice A3 m.js.length c3] 36
  have hT := Blk.new w 36 #[.slice A m.old.length c, .int .i64 m.nw, .slice A2 m.ss.length c2, .slice A3 m.js.length c3]
  obtain ⟨t0, t1, t2, t3⟩ := hT.c4
  have HB := hid hB
  have HT := hid hT
  have HH := hid h
  have HW := hid (show ∀ i, i < m.ss.length → 0 ≤ (m.S i).wt ∧ (m.S i).wt ≤ 1000 from fun i hi => by
    rw [MapD.S_eq (List.getElem?_eq_getElem hi)]
    exact hw _ (List.getElem_mem hi))
  clear h hB hT hw
  refine callsOf (ro := none) (n := 0) ?_
  refine callsIn_of_wp_marks Tryz.func54 rfl trivial ?_ rfl
  refine wpIn_wide.2 ?_
  simp only [Tryz.ntmps54, List.size_toArray, List.length_cons, List.length_nil, Nat.reduceAdd, Nat.reduceSub, Array.replicate_succ, Array.replicate_zero, List.push_toArray, List.append_toArray, List.nil_append, List.cons_append]
  go_wp2
  clear t0 t1 t2 t3
  refine wp_loop (fun a W => ∃ (k : Nat) (Ds : List Nat) (u2 u3 u4 u6 u11 u12 u13 u14 u15 u18 u19 u20 u21 u22 u23 u24 : Value), (k ≤ m.old.length ∧ (∀ d, d < k → wghOk m d = true) ∧ Below w.heap.size w W ∧ Blk W w.heap.size 36 #[.slice A m.old.length c, .int .i64 m.nw, .slice A2 m.ss.length c2, .slice A3 m.js.length c3] ∧ Marks w.heap.size Ds W) ∧ a = { tmps := #[.agg #[.slice A m.old.length c, .int .i64 m.nw, .slice A2 m.ss.length c2, .slice A3 m.js.length c3], .pointer (some ⟨w.heap.size, 0, none⟩), u2, u3, u4, undef, u6, .pointer (some ⟨w.heap.size, 0, none⟩), .slice A m.old.length c, .int .i64 (m.old.length : Int), .int .i64 (k : Int), u11, u12, u13, u14, u15, undef, undef, u18, u19, u20, u21, u22, u23, u24], defers := Ds.map mkD }) (fun a _ => m.old.length - (intOf (a.tmps.getD 10 undef)).toNat) ?_ ?_
  · refine ⟨0, [], ?_⟩
    (repeat apply Exists.intro)
    exact ⟨⟨Nat.zero_le _, fun d hd => by omega, HB.out, HT.out, Marks.nil _ _⟩, rfl⟩
  rintro _ wr ⟨k, Ds, u2, u3, u4, u6, u11, u12, u13, u14, u15, u18, u19, u20, u21, u22, u23, u24, ⟨hk, hok, hbr, hbm, hmk⟩, rfl⟩
  have HR := hid (And.intro hok (And.intro hbr (And.intro hbm hmk)))
  obtain ⟨t0, t1, t2, t3⟩ := hbm.c4
  have bl := hbm.lt
  clear hok hbr hbm hmk
  by_cases hlt : k < m.old.length
  · have hkI : (k : Int) < (m.old.length : Int) := by omega
    go_wp2_with fail
    refine (of_any _ _ _ _ _ _).mono ?_
    rintro e w2 ⟨rfl, h1, h2, h3⟩
    have hB4 := Blk.new wr 3 #[.int .i64 0]
    have hbw : Below wr.heap.size wr w2 := then_below (below_box _ _) h1
    have H2 := hid (And.intro h2 (And.intro h3 (And.intro (hB4.keep h1) hbw)))
    have hss : (wr.alloc (.cells #[.int .i64 0] 3)).heap.size = wr.heap.size + 1 := World.size_alloc ..
    rw [hss] at H2
    clear h1 h2 h3 hB4 hbw t0 t1 t2 t3 hss
    go_wp2
    refine (wpIn_wide (n := 0)).1 ?_
    refine wpIn_rangeFunc_of (m := m) (d := (k : Int)) (X := fun q => q = wr.heap.size) rfl (enters_of Tryz.func80 (by kernel_rfl) rfl)
      (of1_any H2.out.1 H2.out.2.1 (n := w.heap.size) (Nat.le_trans HR.out.2.1.size H2.out.2.2.2.size) (HH.out.is.below (HR.out.2.1.trans (H2.out.2.2.2.mono HR.out.2.1.size))) HH.out.l2 HH.out.m2 (fun q e => ⟨by rw [e]; exact HR.out.2.1.size, by omega⟩)) (Below.refl _ _)
      (fun j W => Blk W wr.heap.size 3 #[.int .i64 (sumO m k tt Stt.wt j)] ∧ MChg (fun q => q = wr.heap.size) w2 W) (fun _ _ => False)
      (OwnFrom.and (blk_own _ _ _ _) (chg_own (Nat.le_refl _))) (fun c s W W' row hs _ _ => hs) ⟨H2.out.2.2.1, MChg.refl⟩
      (fun j s W hs hne hi => ⟨by rw [sumO_skip hs hne]; exact hi.1, hi.2⟩)
      (fun j s z => { tmps := #[.agg #[.slice A m.old.length c, .int .i64 m.nw, .slice A2 m.ss.length c2, .slice A3 m.js.length c3], .pointer (some ⟨w.heap.size, 0, none⟩), u2, .int .i64 (k : Int), .pointer (some ⟨wr.heap.size, 0, none⟩), undef, .pointer (some ⟨z, 0, none⟩), .pointer (some ⟨w.heap.size, 0, none⟩), .slice A m.old.length c, .int .i64 (m.old.length : Int), .int .i64 (k : Int), .bool true, .int .i64 (k : Int), .agg #[.slice A m.old.length c, .int .i64 m.nw, .slice A2 m.ss.length c2, .slice A3 m.js.length c3], .int .i64 (k : Int), .func (.func 80) #[] #[.pointer (some ⟨wr.heap.size + 1, 0, none⟩), .pointer (some ⟨wr.heap.size + 1 + 1, 0, none⟩)], .int .i64 (j : Int), .agg #[.int .i64 s.o, .int .i64 s.n, .int .i64 s.wt, .int .i64 s.lo, .int .i64 s.hi], u18, u19, u20, u21, u22, u23, u24], defers := [] }) ?assign ?body ?done ?stop
    case assign =>
      intro l j s W K hK
      gi_wp2
      exact hK
    case body =>
      rintro l j s z W hl hz hlp hs hod ⟨hb4, hch⟩ hbz
      have hjl := (List.getElem?_eq_some_iff.1 hs).1
      obtain ⟨b1, b2⟩ := sumO_bounds (m := m) (g := Stt.wt) (M := 1000) (by omega) k tt j (fun i hi => HW.out i (by omega))
      have hsw := HW.out j hjl
      rw [MapD.S_eq hs] at hsw
      have HT := hid (sumO_take (m := m) (d := k) (p := tt) (g := Stt.wt) hs hod rfl)
      have HI := hid (And.intro hb4 hch)
      unfold stC at hbz
      obtain ⟨z0, z1, z2, z3, z4⟩ := hbz.c5
      have y0 := hb4.c1
      have yf := hb4.frozen 0
      have yl := hb4.lt
      generalize sumO m k tt Stt.wt j = S at *
      clear hlp hs hod hb4 hch hbz
      gi_wp2
      refine ⟨KeepsFrom.of_set _ _, (MChg.refl.set (Z := fun q => q = wr.heap.size) rfl _).keep, ?_, HI.out.2.set rfl _⟩
      rw [HT.out]
      exact HI.out.1.set_ 0 _
    case done =>
      rintro D W hD ⟨hb4, hch⟩ hdf
      have hbw : Below w.heap.size w W := (HR.out.2.1.trans (H2.out.2.2.2.mono HR.out.2.1.size)).trans (hch.below (fun q e => by rw [e]; exact HR.out.2.1.size) (Nat.le_trans HR.out.2.1.size H2.out.2.2.2.size))
      have hm2 := HR.out.2.2.2.below H2.out.2.2.2
      have hm3 := hm2.chg hch (fun D' hD' => hm2.ne H2.out.2.2.1 D' hD')
      have HM := hid (Marks.cons hm2 hm3 (by have := HR.out.2.1.size; have := H2.out.2.2.2.size; omega) hD hdf)
      have HBM := hid (hch.blk (HR.out.2.2.1.keep H2.out.2.2.2) (fun e => by have := HR.out.2.2.1.lt; omega))
      have HBW := hid hbw
      have y0 := hb4.c1
      have HWK := hid (show wghOk m k = !(sumO m k tt Stt.wt m.ss.length == 0) from rfl)
      clear hb4 hch hdf hbw hm2 hm3
      cases hz : (sumO m k tt Stt.wt m.ss.length == 0)
      · have HOK := hid (show wghOk m k = true by rw [HWK.out, hz]; rfl)
        generalize sumO m k tt Stt.wt m.ss.length = S at *
        go_wp2
        refine ⟨⟨k + 1, D :: Ds, ?_⟩, ?measure⟩
        · (repeat apply Exists.intro)
          exact ⟨⟨by omega, fun d hd => by
            by_cases e : d = k
            · rw [e]; exact HOK.out
            · exact HR.out.1 d (by omega), HBW.out, HBM.out, HM.out⟩, by go_num⟩
        case measure => first | (simp [intOf]; done) | (simp [intOf]; omega)
      · have HOK := hid (show (List.range m.old.length).all (wghOk m) = false by
          rw [List.all_eq_false]
          exact ⟨k, List.mem_range.2 hlt, by rw [HWK.out, hz]; decide⟩)
        generalize sumO m k tt Stt.wt m.ss.length = S at *
        go_wp2
        refine leaves_marks (B := w.heap.size) (D :: Ds) _ HM.out (fun W' hk hb => ?_)
        exact ⟨.bool false, results_tmp Tryz.results54 _ _ _, by rw [HOK.out], HBW.out.trans hb⟩
    case stop =>
      rintro D c W _ h _
      exact h.elim
  · have hkI : decide ((k : Int) < (m.old.length : Int)) = false := by simp; omega
    obtain rfl : k = m.old.length := by omega
    go_wp2
    refine leaves_marks (B := w.heap.size) Ds _ HR.out.2.2.2 (fun W' hk hb => ?_)
    exact ⟨.bool true, results_tmp Tryz.results54 _ _ _, by
      rw [show (List.range m.old.length).all (wghOk m) = true from List.all_eq_true.2 fun d hd => HR.out.1 d (List.mem_range.1 hd)], HR.out.2.1.trans hb⟩
end Go.Proofs.YtlnamjhgbdacbaaGreat
/- CheckMap: the error of a map, for every map that can be read. No condition. -/
namespace Go.Proofs.YtlnamjhgbdacbaaGreat
open Go.RowKit Go.Shelf

set_option maxRecDepth 100000 in
set_option maxHeartbeats 4000000 in
theorem checkm_any (m : MapD) (A : Option Addr) (c : Nat) (A2 : Option Addr) (c2 : Nat) (A3 : Option Addr) (c3 : Nat) (w : World) (h : MIn m A c A2 c2 A3 c3 w) :
    Calls Tryz.prog 22 #[.agg #[.slice A m.old.length c, .int .i64 m.nw, .slice A2 m.ss.length c2, .slice A3 m.js.length c3]] w fun e w' => e = .returned (.int .i64 (chkM m)) ∧ Below w.heap.size w w' := by
  have hB := below_box (w := w) #[.slice A m.old.length c, .int .i64 m.nw, .slice A2 m.ss.length c2, .slice A3 m.js.length c3] 36
  have HH := hid h
  have K1 := hid (fun W (hW : Below w.heap.size w W) => ball_int cntOk A c m.old W (h.at_ hW).io h.l1 h.m1 51 #[] #[] (enters_of Tryz.func51 (by kernel_rfl) rfl)
    (fun W1 x _ _ => by simpa using Calls.same_below (bcount_any x W1)))
  have K2 := hid (fun W => Calls.same_below (bwithin_any m.nw 1 4 W))
  have K3 := hid (fun W (hW : Below w.heap.size w W) (g1 : 1 ≤ m.nw) (g4 : m.nw ≤ 4) => ball_stt (sttOk m) A2 c2 m.ss W (h.at_ hW).is h.l2 h.m2 48 #[.agg #[.slice A m.old.length c, .int .i64 m.nw, .slice A2 m.ss.length c2, .slice A3 m.js.length c3]] #[] (enters_of Tryz.func48 (by kernel_rfl) rfl)
    (fun W1 x _ _ => by simpa using bstreet_any m x A c A2 c2 (.slice A3 m.js.length c3) W1 (Nat.le_trans h.l1 h.m1) g1 g4))
  have K4 := hid (fun W (hW : Below w.heap.size w W) h8 hw => weighed_any m A c A2 c2 A3 c3 W (h.at_ hW) h8 hw)
  have K5 := hid (fun W (hW : Below w.heap.size w W) => ball_jn (jnOk m) A3 c3 m.js W (h.at_ hW).ij h.l3 h.m3 49 #[.agg #[.slice A m.old.length c, .int .i64 m.nw, .slice A2 m.ss.length c2, .slice A3 m.js.length c3]] #[] (enters_of Tryz.func49 (by kernel_rfl) rfl)
    (fun W1 x _ _ => by simpa using bjoin_any m x (.slice A m.old.length c) (.int .i64 m.nw) A2 c2 (.slice A3 m.js.length c3) W1 (Nat.le_trans h.l2 h.m2)))
  clear h
  rcases Bool.eq_false_or_eq_true (decide (4 < (m.old.length : Int))) with d1 | d1
  · have HR := hid (show chkM m = 3 by unfold chkM; simp only [d1]; rfl)
    go_enter Tryz.func22, Tryz.ntmps22
    go_wp2_with fail
    go_region
    refine gen (p := Exit.then _ _ .normal _) (fun W => Below w.heap.size w W ∧ Blk W w.heap.size 36 #[.slice A m.old.length c, .int .i64 m.nw, .slice A2 m.ss.length c2, .slice A3 m.js.length c3]) ⟨hB.drew, Blk.new _ _ _⟩ ?_
    rintro W0 ⟨h0, hT0⟩
    have H0 := hid h0
    have T0 := hid hT0
    obtain ⟨t0, t1, t2, t3⟩ := hT0.c4
    clear h0 hT0
    go_wp2
    go_ret
    exact ⟨by rw [HR.out]; rfl, H0.out⟩
  rcases Bool.eq_false_or_eq_true (decide (8 < (m.ss.length : Int))) with d2 | d2
  · have HR := hid (show chkM m = 3 by unfold chkM; simp only [d1, d2]; rfl)
    go_enter Tryz.func22, Tryz.ntmps22
    go_wp2_with fail
    go_region
    refine gen (p := Exit.then _ _ .normal _) (fun W => Below w.heap.size w W ∧ Blk W w.heap.size 36 #[.slice A m.old.length c, .int .i64 m.nw, .slice A2 m.ss.length c2, .slice A3 m.js.length c3]) ⟨hB.drew, Blk.new _ _ _⟩ ?_
    rintro W0 ⟨h0, hT0⟩
    have H0 := hid h0
    have T0 := hid hT0
    obtain ⟨t0, t1, t2, t3⟩ := hT0.c4
    clear h0 hT0
    go_wp2
    go_ret
    exact ⟨by rw [HR.out]; rfl, H0.out⟩
  rcases Bool.eq_false_or_eq_true (decide (20 < (m.js.length : Int))) with d3 | d3
  · have HR := hid (show chkM m = 3 by unfold chkM; simp only [d1, d2, d3]; rfl)
    go_enter Tryz.func22, Tryz.ntmps22
    go_wp2_with fail
    go_region
    refine gen (p := Exit.then _ _ .normal _) (fun W => Below w.heap.size w W ∧ Blk W w.heap.size 36 #[.slice A m.old.length c, .int .i64 m.nw, .slice A2 m.ss.length c2, .slice A3 m.js.length c3]) ⟨hB.drew, Blk.new _ _ _⟩ ?_
    rintro W0 ⟨h0, hT0⟩
    have H0 := hid h0
    have T0 := hid hT0
    obtain ⟨t0, t1, t2, t3⟩ := hT0.c4
    clear h0 hT0
    go_wp2
    go_ret
    exact ⟨by rw [HR.out]; rfl, H0.out⟩
  rcases Bool.eq_false_or_eq_true (((m.old.length : Int) == 0)) with e1 | e1
  · have HR := hid (show chkM m = 1 by unfold chkM; simp only [d1, d2, d3, e1]; rfl)
    go_enter Tryz.func22, Tryz.ntmps22
    go_wp2_with fail
    go_region
    refine gen (p := Exit.then _ _ .normal _) (fun W => Below w.heap.size w W ∧ Blk W w.heap.size 36 #[.slice A m.old.length c, .int .i64 m.nw, .slice A2 m.ss.length c2, .slice A3 m.js.length c3]) ⟨hB.drew, Blk.new _ _ _⟩ ?_
    rintro W0 ⟨h0, hT0⟩
    have H0 := hid h0
    have T0 := hid hT0
    obtain ⟨t0, t1, t2, t3⟩ := hT0.c4
    clear h0 hT0
    go_wp2
    go_ret
    exact ⟨by rw [HR.out]; rfl, H0.out⟩
  rcases Bool.eq_false_or_eq_true (((m.ss.length : Int) == 0)) with e2 | e2
  · have HR := hid (show chkM m = 1 by unfold chkM; simp only [d1, d2, d3, e1, e2]; rfl)
    go_enter Tryz.func22, Tryz.ntmps22
    go_wp2_with fail
    go_region
    refine gen (p := Exit.then _ _ .normal _) (fun W => Below w.heap.size w W ∧ Blk W w.heap.size 36 #[.slice A m.old.length c, .int .i64 m.nw, .slice A2 m.ss.length c2, .slice A3 m.js.length c3]) ⟨hB.drew, Blk.new _ _ _⟩ ?_
    rintro W0 ⟨h0, hT0⟩
    have H0 := hid h0
    have T0 := hid hT0
    obtain ⟨t0, t1, t2, t3⟩ := hT0.c4
    clear h0 hT0
    go_wp2
    go_ret
    exact ⟨by rw [HR.out]; rfl, H0.out⟩
  have KN := hid (And.intro d1 (And.intro d2 (And.intro d3 (And.intro e1 e2))))
  go_enter Tryz.func22, Tryz.ntmps22
  go_wp2_with fail
  go_region
  refine gen (p := Exit.then _ _ .normal _) (fun W => Below w.heap.size w W ∧ Blk W w.heap.size 36 #[.slice A m.old.length c, .int .i64 m.nw, .slice A2 m.ss.length c2, .slice A3 m.js.length c3]) ⟨hB.drew, Blk.new _ _ _⟩ ?_
  rintro W0 ⟨h0, hT0⟩
  have H0 := hid h0
  have T0 := hid hT0
  obtain ⟨t0, t1, t2, t3⟩ := hT0.c4
  clear h0 hT0
  go_wp2_with fail
  refine (K1.out W0 H0.out).mono ?_
  rintro e W1 ⟨rfl, hb⟩
  have H1 := hid (then_below H0.out hb)
  have T1 := hid (T0.out.keep hb)
  clear hb t0 t1 t2 t3
  obtain ⟨t0, t1, t2, t3⟩ := T1.out.c4
  rcases Bool.eq_false_or_eq_true (m.old.all cntOk) with k1 | k1
  rotate_left
  · have HR := hid (show chkM m = 1 by unfold chkM; simp only [KN.out.1, KN.out.2.1, KN.out.2.2.1, KN.out.2.2.2.1, KN.out.2.2.2.2, k1]; rfl)
    rw [k1]
    clear k1
    go_wp2
    go_ret
    exact ⟨by rw [HR.out]; rfl, H1.out⟩
  rw [k1]
  have Q1 := hid k1
  clear k1
  go_wp2_with fail
  refine (K2.out W1).mono ?_
  rintro e W2 ⟨rfl, hb⟩
  have H2 := hid (then_below H1.out hb)
  have T2 := hid (T1.out.keep hb)
  clear hb t0 t1 t2 t3
  obtain ⟨t0, t1, t2, t3⟩ := T2.out.c4
  rcases Bool.eq_false_or_eq_true (inB m.nw 1 4) with k2 | k2
  rotate_left
  · have HR := hid (show chkM m = 1 by unfold chkM; simp only [KN.out.1, KN.out.2.1, KN.out.2.2.1, KN.out.2.2.2.1, KN.out.2.2.2.2, Q1.out, k2]; rfl)
    rw [k2]
    clear k2
    go_wp2
    go_ret
    exact ⟨by rw [HR.out]; rfl, H2.out⟩
  rw [k2]
  have Q2 := hid k2
  have HN := hid (inB_iff.1 k2)
  clear k2
  go_wp2_with fail
  refine (K3.out W2 H2.out HN.out.1 HN.out.2).mono ?_
  rintro e W3 ⟨rfl, hb⟩
  have H3 := hid (then_below H2.out hb)
  have T3 := hid (T2.out.keep hb)
  clear hb t0 t1 t2 t3
  obtain ⟨t0, t1, t2, t3⟩ := T3.out.c4
  rcases Bool.eq_false_or_eq_true (m.ss.all (sttOk m)) with k3 | k3
  rotate_left
  · have HR := hid (show chkM m = 1 by unfold chkM; simp only [KN.out.1, KN.out.2.1, KN.out.2.2.1, KN.out.2.2.2.1, KN.out.2.2.2.2, Q1.out, Q2.out, k3]; rfl)
    rw [k3]
    clear k3
    go_wp2
    go_ret
    exact ⟨by rw [HR.out]; rfl, H3.out⟩
  rw [k3]
  have Q3 := hid k3
  have H8 := hid (show m.ss.length ≤ 8 ∧ ∀ s ∈ m.ss, 0 ≤ s.wt ∧ s.wt ≤ 1000 from ⟨by have := of_decide_eq_false KN.out.2.1; omega, fun s hs => by have := sttOk_iff.1 (List.all_eq_true.1 k3 s hs); omega⟩)
  clear k3
  go_wp2_with fail
  refine (K4.out W3 H3.out H8.out.1 H8.out.2).mono ?_
  rintro e W4 ⟨rfl, hb⟩
  have H4 := hid (then_below H3.out hb)
  have T4 := hid (T3.out.keep hb)
  clear hb t0 t1 t2 t3
  obtain ⟨t0, t1, t2, t3⟩ := T4.out.c4
  rcases Bool.eq_false_or_eq_true ((List.range m.old.length).all (wghOk m)) with k4 | k4
  rotate_left
  · have HR := hid (show chkM m = 1 by unfold chkM; simp only [KN.out.1, KN.out.2.1, KN.out.2.2.1, KN.out.2.2.2.1, KN.out.2.2.2.2, Q1.out, Q2.out, Q3.out, k4]; rfl)
    rw [k4]
    clear k4
    go_wp2
    go_ret
    exact ⟨by rw [HR.out]; rfl, H4.out⟩
  rw [k4]
  have Q4 := hid k4
  clear k4
  go_wp2_with fail
  refine (K5.out W4 H4.out).mono ?_
  rintro e W5 ⟨rfl, hb⟩
  have H5 := hid (then_below H4.out hb)
  have T5 := hid (T4.out.keep hb)
  clear hb t0 t1 t2 t3
  obtain ⟨t0, t1, t2, t3⟩ := T5.out.c4
  rcases Bool.eq_false_or_eq_true (m.js.all (jnOk m)) with k5 | k5
  rotate_left
  · have HR := hid (show chkM m = 1 by unfold chkM; simp only [KN.out.1, KN.out.2.1, KN.out.2.2.1, KN.out.2.2.2.1, KN.out.2.2.2.2, Q1.out, Q2.out, Q3.out, Q4.out, k5]; rfl)
    rw [k5]
    clear k5
    go_wp2
    go_ret
    exact ⟨by rw [HR.out]; rfl, H5.out⟩
  have HR := hid (show chkM m = 0 by unfold chkM; simp only [KN.out.1, KN.out.2.1, KN.out.2.2.1, KN.out.2.2.2.1, KN.out.2.2.2.2, Q1.out, Q2.out, Q3.out, Q4.out, k5]; rfl)
  rw [k5]
  clear k5
  go_wp2
  go_ret
  exact ⟨by rw [HR.out]; rfl, H5.out⟩
end Go.Proofs.YtlnamjhgbdacbaaGreat
/- consistent: the error of a map, also if it is not consistent. No condition. -/
namespace Go.Proofs.YtlnamjhgbdacbaaGreat
open Go.RowKit Go.Shelf

end Go.Proofs.YtlnamjhgbdacbaaGreat
/- smallest: the smallest of some numbers, at least one. -/
namespace Go.Proofs.YtlnamjhgbdacbaaGreat
open Go.RowKit

def minTo (xs : List Int) (k : Nat) : Int := (xs.take k).foldl min (xs.getD 0 0)
def minOf (xs : List Int) : Int := xs.foldl min (xs.getD 0 0)
theorem minTo_succ {xs : List Int} {k : Nat} (h : k < xs.length) : minTo xs (k + 1) = min (minTo xs k) xs[k] := by
  unfold minTo; rw [List.take_succ_eq_append_getElem h, List.foldl_append]; rfl
theorem minTo_one {xs : List Int} (h : 0 < xs.length) : minTo xs 1 = xs[0] := by
  cases xs with
  | nil => simp at h
  | cons x l => simp [minTo]
theorem minTo_all (xs : List Int) : minTo xs xs.length = minOf xs := by unfold minTo minOf; rw [List.take_length]
theorem minOf_two (x y : Int) : minOf [x, y] = min x y := by simp [minOf]

end Go.Proofs.YtlnamjhgbdacbaaGreat
/- low, high, both; the tests of part. No condition. -/
namespace Go.Proofs.YtlnamjhgbdacbaaGreat
open Go.RowKit Go.Shelf

/-- borders in an array of eight cells -/
def liC (f : Nat → Int) : Array Value := #[.int .i64 (f 0), .int .i64 (f 1), .int .i64 (f 2), .int .i64 (f 3), .int .i64 (f 4), .int .i64 (f 5), .int .i64 (f 6), .int .i64 (f 7)]
theorem liC_get (f : Nat → Int) {i : Nat} (h : i < 8) : (liC f)[i]? = some (.int .i64 (f i)) := by
  rcases (by omega : i = 0 ∨ i = 1 ∨ i = 2 ∨ i = 3 ∨ i = 4 ∨ i = 5 ∨ i = 6 ∨ i = 7) with rfl | rfl | rfl | rfl | rfl | rfl | rfl | rfl <;> rfl
end Go.Proofs.YtlnamjhgbdacbaaGreat
/- The frame behind a statement whose order is open, written out. -/
namespace Go.Proofs.YtlnamjhgbdacbaaGreat
open Go.RowKit

/-- a list in which some places are replaced -/
def mix (ds : List Nat) (g : Nat → Value) : Nat → List Value → List Value
  | _, [] => []
  | i, v :: vs => (bif ds.contains i then g i else v) :: mix ds g (i + 1) vs
theorem mix_get (ds : List Nat) (g : Nat → Value) : ∀ (vs : List Value) (i k : Nat), (mix ds g i vs)[k]? = (vs[k]?).map fun v => bif ds.contains (i + k) then g (i + k) else v
  | [], i, k => by simp [mix]
  | v :: vs, i, 0 => by simp [mix]
  | v :: vs, i, k + 1 => by
    simp only [mix, List.getElem?_cons_succ]
    rw [mix_get ds g vs (i + 1) k, Nat.add_assoc, Nat.add_comm 1 k]
theorem act_mix {a a' : Act} (ds : List Nat) (hs : a'.tmps.size = a.tmps.size) (hd : a'.defers = a.defers) (h : ∀ i, i < a.tmps.size → ds.contains i = false → a'.tmps.getD i undef = a.tmps.getD i undef) :
    a' = { tmps := (mix ds (fun i => a'.tmps.getD i undef) 0 a.tmps.toList).toArray, defers := a.defers } := by
  obtain ⟨t', d'⟩ := a'
  obtain ⟨t, d⟩ := a
  simp only at hs hd h ⊢
  subst hd
  congr 1
  apply Array.ext_getElem?
  intro i
  show t'[i]? = (mix ds (fun i => t'.getD i undef) 0 t.toList).toArray[i]?
  rw [show (mix ds (fun i => t'.getD i undef) 0 t.toList).toArray[i]? = (mix ds (fun i => t'.getD i undef) 0 t.toList)[i]? from by simp, mix_get, Nat.zero_add]
  by_cases hi : i < t.size
  · have h1 : t.toList[i]? = some t[i] := by simp [hi]
    rw [h1]
    simp only [Option.map_some]
    have h2 : t'[i]? = some (t'.getD i undef) := by simp [Array.getD, hs, hi]
    rw [h2]
    cases hc : ds.contains i
    · simp only [cond_false]
      rw [h i hi hc]
      simp [Array.getD, hi]
    · simp only [cond_true]
  · have h1 : t.toList[i]? = none := by simp; omega
    rw [h1]
    simp only [Option.map_none]
    exact Array.getElem?_eq_none (by omega)
def dstsIn (l : List Oper) (n : Nat) (ds : List Nat) : Bool := (List.range n).all fun i => ((l.toArray[i]?).bind (·.dst)).all fun d => ds.contains d
section
variable {l : List Oper} {n : Nat} {R : Nat → Value → World → Prop} {St : World → World → Prop} {G : Array Bool → World → Prop} {a : Act} {w : World} {li : Array Bool} {a' : Act} {W : World}
theorem Done.act (h : Done l n R St G a w li a' W) (ds : List Nat) (hds : dstsIn l n ds = true) :
    a' = { tmps := (mix ds (fun i => a'.tmps.getD i undef) 0 a.tmps.toList).toArray, defers := a.defers } := by
  refine act_mix ds h.size h.defers fun i hi hc => h.rest i fun k hk e => ?_
  have h1 := List.all_eq_true.1 hds k (List.mem_range.2 hk)
  rw [e] at h1
  simp only [Option.all_some] at h1
  rw [h1] at hc
  cases hc
theorem Done.act_then (h : Done l n R St G a w li a' W) (ds : List Nat) (hds : dstsIn l n ds = true) {a4 : Act} {d : Nat} (hs : a4.tmps.size = a'.tmps.size) (hd : a4.defers = a'.defers) (ho : ∀ d', d' ≠ d → a4.tmps.getD d' undef = a'.tmps.getD d' undef) (hdd : ds.contains d = true) :
    a4 = { tmps := (mix ds (fun i => a4.tmps.getD i undef) 0 a.tmps.toList).toArray, defers := a.defers } := by
  refine act_mix ds (hs.trans h.size) (hd.trans h.defers) fun i hi hc => (ho i (fun e => by rw [e, hdd] at hc; cases hc)).trans (h.rest i fun k hk e => ?_)
  have h1 := List.all_eq_true.1 hds k (List.mem_range.2 hk)
  rw [e] at h1
  simp only [Option.all_some] at h1
  rw [h1] at hc
  cases hc
theorem Done.keeps (h : Done l n R St G a w li a' W) {ds : List Nat} (hds : dstsIn l n ds = true) : ∀ i, ds.contains i = false → a'.tmps.getD i undef = a.tmps.getD i undef := fun i hc => h.rest i fun k hk e => by
  have h1 := List.all_eq_true.1 hds k (List.mem_range.2 hk)
  rw [e] at h1
  simp only [Option.all_some] at h1
  rw [h1] at hc
  cases hc
theorem keeps_then {ds : List Nat} {b b' : Act} {d : Nat} (h : ∀ i, ds.contains i = false → b.tmps.getD i undef = a.tmps.getD i undef) (ho : ∀ d', d' ≠ d → b'.tmps.getD d' undef = b.tmps.getD d' undef) (hdd : ds.contains d = true) :
    ∀ i, ds.contains i = false → b'.tmps.getD i undef = a.tmps.getD i undef := fun i hc => (ho i (fun e => by rw [e, hdd] at hc; cases hc)).trans (h i hc)
end
end Go.Proofs.YtlnamjhgbdacbaaGreat
/- A statement whose order is open: the law, with a phase that sees the activation. -/
namespace Go.Proofs.YtlnamjhgbdacbaaGreat
open Go.RowKit

structure Known2 (ops : Array Oper) (n : Nat) (R : Nat → Value → World → Prop) (St : World → World → Prop) (G : Array Bool → Act → World → Prop) (a : Act) (w : World) (listed : Array Bool) (a' : Act) (W : World) : Prop where
  inv : HeadInv .any ops n listed
  st : St w W
  ph : G listed a' W
  defers : a'.defers = a.defers
  size : a'.tmps.size = a.tmps.size
  rest : ∀ d, (∀ i, i < n → (ops[i]?).bind (·.dst) ≠ some d) → a'.tmps.getD d undef = a.tmps.getD d undef
  rel : ∀ i, i < n → listed.getD i false = true → ∀ d, (ops[i]?).bind (·.dst) = some d → R i (a'.tmps.getD d undef) W

theorem wpAnyIn_rel2 {F : Fence} {m : Nat} {P : Program} {ops : Array Oper} {n : Nat} {Q : Exit → Act → World → Prop} {a : Act} {w : World} {R : Nat → Value → World → Prop} {St : World → World → Prop} {G : Array Bool → Act → World → Prop}
    (hB : relB ops n = true) (hR : ∀ i v W W', St W W' → R i v W → R i v W') (hT : ∀ {A B C : World}, St A B → St B C → St A C)
    (hds : ∀ i, i < n → ∀ d, (ops[i]?).bind (·.dst) = some d → d < a.tmps.size)
    (hstep : ∀ i o (listed : Array Bool) (a' : Act) (W : World), i < n → ops[i]? = some o → listed.size = ops.size → listed.getD i false = false →
      (∀ j oj, ops[j]? = some oj → listed.getD j false = true → ∀ e ∈ oj.after, Region.binds .any e = true → listed.getD e.on false = true) →
      G listed a' W → St w W → a'.defers = a.defers → a'.tmps.size = a.tmps.size →
      (∀ d, (∀ i, i < n → (ops[i]?).bind (·.dst) ≠ some d) → a'.tmps.getD d undef = a.tmps.getD d undef) →
      (∀ j, (∃ e, e ∈ o.after ∧ Region.binds .any e = true ∧ e.on = j) → listed.getD j false = true ∧ ∀ d, (ops[j]?).bind (·.dst) = some d → R j (a'.tmps.getD d undef) W) →
      ∀ K : Act → World → Prop, (∀ v W', R i v W' → St W W' → G (listed.setIfInBounds i true) (a'.put o.dst v) W' → K (a'.put o.dst v) W') → wpOpIn F m P ops Q i K a' W)
    (hend : ∀ (listed : Array Bool) (a' : Act) (W : World), (∀ i, i < n → listed.getD i false = true) → G listed a' W → St w W → a'.defers = a.defers → a'.tmps.size = a.tmps.size →
      (∀ d, (∀ i, i < n → (ops[i]?).bind (·.dst) ≠ some d) → a'.tmps.getD d undef = a.tmps.getD d undef) →
      (∀ i, i < n → ∀ d, (ops[i]?).bind (·.dst) = some d → R i (a'.tmps.getD d undef) W) → wpListIn F m P ops Q (ops.toList.drop n) a' W) :
    ∀ (f : Nat) (listed : Array Bool) (a' : Act) (W : World), (unlistedOf n listed).length = f → Known2 ops n R St G a w listed a' W → wpAnyIn F m P .any ops Q (f + (ops.size - n)) listed a' W := by
  simp only [relB, Bool.and_eq_true, decide_eq_true_eq] at hB
  obtain ⟨⟨⟨⟨⟨hdeps, hdst⟩, hn⟩, hs⟩, hc⟩, hseq⟩ := hB
  intro f
  induction f with
  | zero =>
    intro listed a' W hf hk
    have hnone : ∀ i, i < n → listed.getD i false = true := by
      intro i hi
      cases hl : listed.getD i false with
      | true => rfl
      | false =>
        have : i ∈ unlistedOf n listed := List.mem_filter.2 ⟨List.mem_range.2 hi, by simp [hl]⟩
        rw [List.eq_nil_of_length_eq_zero hf] at this
        cases this
    have hcan : listed = Array.replicate n true ++ Array.replicate (ops.size - n) false := by
      apply Array.ext
      · simp [hk.inv.size]; omega
      · intro i h1 h2
        by_cases hi : i < n
        · have := hnone i hi
          rw [Array.getElem_append_left (by simpa using hi)]
          simpa [Array.getD_eq_getD_getElem?, h1] using this
        · have := hk.inv.tail i (by omega) (by rw [← hk.inv.size]; exact h1)
          rw [Array.getElem_append_right (by simpa using hi)]
          simpa [Array.getD_eq_getD_getElem?, h1] using this
    have hl : (ops.toList.drop n).length = ops.size - n := by simp
    rw [Nat.zero_add, ← hl]
    refine wpAnyIn_of_seq (ops.toList.drop n) n listed a' W (fun j => by simp [List.getElem?_drop]) (by rw [hl, hcan]; exact hseq) ?_
    exact hend listed a' W hnone hk.ph hk.st hk.defers hk.size hk.rest (fun i hi d hd => hk.rel i hi (hnone i hi) d hd)
  | succ f ih =>
    intro listed a' W hf hk
    have hne : unlistedOf n listed ≠ [] := fun h => by rw [h] at hf; cases hf
    obtain ⟨i0, hi0⟩ := List.exists_mem_of_ne_nil _ hne
    have hi0n : i0 < n := List.mem_range.1 (List.mem_filter.1 hi0).1
    have hi0f : listed.getD i0 false = false := by simpa using (List.mem_filter.1 hi0).2
    have hhead : ∀ i ∈ Region.ready .any ops listed, i < n := by
      intro i hi
      rcases Nat.lt_or_ge i n with h | h
      · exact h
      · exact absurd hi (tail_waits hs hc hn hk.inv (n - i0) i0 rfl hi0n (getD_in (by rw [hk.inv.size]; omega) hi0f) i h)
    have hready : Region.ready .any ops listed ≠ [] := by
      have key : ∀ m i, i ≤ m → i < n → listed.getD i false = false → ∃ j, j ∈ Region.ready .any ops listed := by
        intro m
        induction m with
        | zero =>
          intro i hi hin hl
          obtain rfl : i = 0 := by omega
          have ho : ops[0]? = some (ops[0]'(by omega)) := Array.getElem?_eq_getElem _
          exact ⟨0, mem_ready.2 ⟨getD_in (by rw [hk.inv.size]; omega) hl, _, ho, fun e he hb => absurd (depsB_spec hdeps ho he hb) (Nat.not_lt_zero _)⟩⟩
        | succ m ihm =>
          intro i hi hin hl
          have ho : ops[i]? = some (ops[i]'(by omega)) := Array.getElem?_eq_getElem _
          by_cases hall : ∀ e ∈ (ops[i]'(by omega)).after, Region.binds .any e = true → listed.getD e.on false = true
          · exact ⟨i, mem_ready.2 ⟨getD_in (by rw [hk.inv.size]; omega) hl, _, ho, hall⟩⟩
          · simp only [Classical.not_forall] at hall
            obtain ⟨e, he, hb, hnl⟩ := hall
            have hlt := depsB_spec hdeps ho he hb
            exact ihm e.on (by omega) (by omega) (by simpa using hnl)
      obtain ⟨j, hj⟩ := key i0 i0 (Nat.le_refl _) hi0n hi0f
      exact List.ne_nil_of_mem hj
    rw [show f + 1 + (ops.size - n) = (f + (ops.size - n)) + 1 by omega]
    refine ⟨fun h => absurd h hready, fun i hi => ?_⟩
    have hin := hhead i hi
    obtain ⟨hlt, o, ho, hall⟩ := mem_ready.1 hi
    have hif : listed.getD i false = false := getD_both hlt
    refine hstep i o listed a' W hin ho hk.inv.size hif hk.inv.closed hk.ph hk.st hk.defers hk.size hk.rest (fun j ⟨e, he, hb, hj⟩ => by
      subst hj
      exact ⟨hall e he hb, fun d hd => hk.rel e.on (by have := depsB_spec hdeps ho he hb; omega) (hall e he hb) d hd⟩) _ ?_
    intro v W' hv hst hg
    refine ih _ _ _ ?_ ⟨hk.inv.set hi hin, hT hk.st hst, hg, by rw [put_defers]; exact hk.defers, by rw [put_size]; exact hk.size, fun d hd => ?_, fun j hj hl d hd => ?_⟩
    · have hsz : i < listed.size := by rw [hk.inv.size]; omega
      have : (unlistedOf n (listed.setIfInBounds i true)) = (unlistedOf n listed).filter (fun j => !(j == i)) := by
        unfold unlistedOf
        rw [List.filter_filter]
        apply List.filter_congr
        intro j _
        by_cases hji : j = i
        · subst hji; rw [getD_set_eq hsz]; simp
        · rw [getD_set_oth (fun h => hji h.symm)]; simp [hji]
      rw [this]
      have hnd : (unlistedOf n listed).Nodup := List.Nodup.sublist List.filter_sublist List.nodup_range
      have hmem : i ∈ unlistedOf n listed := List.mem_filter.2 ⟨List.mem_range.2 hin, by simp [hif]⟩
      have he : (unlistedOf n listed).filter (fun j => !(j == i)) = (unlistedOf n listed).erase i := by
        rw [hnd.erase_eq_filter]; rfl
      rw [he, List.length_erase_of_mem hmem, hf]; rfl
    · have hne' : o.dst ≠ some d := by
        have := hd i hin
        rw [ho] at this
        exact this
      cases hod : o.dst with
      | none => simpa [Act.put, hod] using hk.rest d hd
      | some d' =>
        rw [put_getD_other (by rintro rfl; exact hne' hod)]
        exact hk.rest d hd
    · by_cases hji : j = i
      · subst hji
        rw [ho] at hd
        have hod : o.dst = some d := hd
        rw [hod, put_getD_same (by rw [hk.size]; exact hds j hj d (by rw [ho]; exact hod))]
        exact hv
      · rw [getD_set_oth (fun h => hji h.symm)] at hl
        have hR' := hR j _ _ _ hst (hk.rel j hj hl d hd)
        cases hod : o.dst with
        | none => simpa [Act.put, hod] using hR'
        | some d' =>
          rw [put_getD_other (by
            rintro rfl
            exact dstsB_spec hdst hin hj (fun h => hji h.symm) (by rw [ho]; exact hod) hd)]
          exact hR'

theorem wpIn_region_rel2 {F : Fence} {m : Nat} {P : Program} {id : Nat} {Q : Exit → Act → World → Prop} {a : Act} {w : World} {l : List Oper} (n : Nat) (R : Nat → Value → World → Prop) (St : World → World → Prop) (G : Array Bool → Act → World → Prop) (hm : P.follows .mixedOrders = true)
    (hB : relB l.toArray n = true) (hR : ∀ i v W W', St W W' → R i v W → R i v W') (hT : ∀ {A B C : World}, St A B → St B C → St A C) (h0 : St w { w with drawn := w.drawn + 1 }) (hG : G (Array.replicate l.length false) a { w with drawn := w.drawn + 1 })
    (hds : (List.range n).all (fun i => (((l.toArray[i]?).bind (·.dst)).all fun d => decide (d < a.tmps.size))) = true)
    (hstep : ∀ i o (listed : Array Bool) (a' : Act) (W : World), i < n → l[i]? = some o → listed.size = l.length → listed.getD i false = false →
      (∀ j oj, l[j]? = some oj → listed.getD j false = true → ∀ e ∈ oj.after, Region.binds .any e = true → listed.getD e.on false = true) →
      G listed a' W → St w W → a'.defers = a.defers → a'.tmps.size = a.tmps.size →
      (∀ d, (∀ i, i < n → (l.toArray[i]?).bind (·.dst) ≠ some d) → a'.tmps.getD d undef = a.tmps.getD d undef) →
      (∀ j, (∃ e, e ∈ o.after ∧ Region.binds .any e = true ∧ e.on = j) → listed.getD j false = true ∧ ∀ d, (l.toArray[j]?).bind (·.dst) = some d → R j (a'.tmps.getD d undef) W) →
      ∀ K : Act → World → Prop, (∀ v W', R i v W' → St W W' → G (listed.setIfInBounds i true) (a'.put o.dst v) W' → K (a'.put o.dst v) W') → wpOpIn F m P l.toArray Q i K a' W)
    (hend : ∀ (listed : Array Bool) (a' : Act) (W : World), (∀ i, i < n → listed.getD i false = true) → G listed a' W → St w W → a'.defers = a.defers → a'.tmps.size = a.tmps.size →
      (∀ d, (∀ i, i < n → (l.toArray[i]?).bind (·.dst) ≠ some d) → a'.tmps.getD d undef = a.tmps.getD d undef) →
      (∀ i, i < n → ∀ d, (l.toArray[i]?).bind (·.dst) = some d → R i (a'.tmps.getD d undef) W) → wpListIn F m P l.toArray Q (l.drop n) a' W) :
    (Code.region id l.toArray true).wpIn F m P Q a w := by
  refine wpIn_region_any hm ?_
  have hn : n < l.toArray.size := by
    simp only [relB, Bool.and_eq_true, decide_eq_true_eq] at hB
    exact hB.1.1.1.2
  have hu : (unlistedOf n (Array.replicate l.toArray.size false)).length = n := by
    have : unlistedOf n (Array.replicate l.toArray.size false) = List.range n := by
      unfold unlistedOf
      rw [List.filter_eq_self]
      intro i _
      rw [getD_replicate_false]; rfl
    rw [this, List.length_range]
  have hds' : ∀ i, i < n → ∀ d, (l.toArray[i]?).bind (·.dst) = some d → d < a.tmps.size := by
    intro i hi d hd
    have := List.all_eq_true.1 hds i (List.mem_range.2 hi)
    rw [hd] at this
    simpa using this
  have H := wpAnyIn_rel2 (F := F) (m := m) (P := P) (ops := l.toArray) (n := n) (Q := Q) (a := a) (w := w) (R := R) (St := St) (G := G) hB hR hT hds' (fun i o listed a' W hi ho hs h1 h2 => hstep i o listed a' W hi (by simpa using ho) (by simpa using hs) h1 (fun j oj hj => h2 j oj (by simpa using hj)))
    (fun listed a' W h0 h1 h2 h3 h4 h5 h6 => by simpa using hend listed a' W h0 h1 h2 h3 h4 h5 h6) n (Array.replicate l.toArray.size false) a { w with drawn := w.drawn + 1 } hu
    ⟨⟨by simp, fun j oj _ hl => (by rw [getD_replicate_false] at hl; cases hl), fun t _ ht => getD_in (by simpa using ht) (getD_replicate_false _ _)⟩, h0, by simpa using hG, rfl, rfl, fun _ _ => rfl, fun i _ hl => by rw [getD_replicate_false] at hl; cases hl⟩
  rwa [show n + (l.toArray.size - n) = l.toArray.size by omega] at H

structure At2 (l : List Oper) (n : Nat) (R : Nat → Value → World → Prop) (St : World → World → Prop) (G : Array Bool → Act → World → Prop) (a : Act) (w : World) (i : Nat) (o : Oper) (listed : Array Bool) (a' : Act) (W : World) : Prop where
  lsize : listed.size = l.length
  new : listed.getD i false = false
  closed : ∀ j oj, l[j]? = some oj → listed.getD j false = true → ∀ e ∈ oj.after, Region.binds .any e = true → listed.getD e.on false = true
  ph : G listed a' W
  st : St w W
  defers : a'.defers = a.defers
  size : a'.tmps.size = a.tmps.size
  rest : ∀ d, (∀ i, i < n → (l.toArray[i]?).bind (·.dst) ≠ some d) → a'.tmps.getD d undef = a.tmps.getD d undef
  dep : ∀ j, (∃ e, e ∈ o.after ∧ Region.binds .any e = true ∧ e.on = j) → listed.getD j false = true ∧ ∀ d, (l.toArray[j]?).bind (·.dst) = some d → R j (a'.tmps.getD d undef) W

structure Done2 (l : List Oper) (n : Nat) (R : Nat → Value → World → Prop) (St : World → World → Prop) (G : Array Bool → Act → World → Prop) (a : Act) (w : World) (listed : Array Bool) (a' : Act) (W : World) : Prop where
  all : ∀ i, i < n → listed.getD i false = true
  ph : G listed a' W
  st : St w W
  defers : a'.defers = a.defers
  size : a'.tmps.size = a.tmps.size
  rest : ∀ d, (∀ i, i < n → (l.toArray[i]?).bind (·.dst) ≠ some d) → a'.tmps.getD d undef = a.tmps.getD d undef
  dep : ∀ i, i < n → ∀ d, (l.toArray[i]?).bind (·.dst) = some d → R i (a'.tmps.getD d undef) W

section
variable {l : List Oper} {n : Nat} {R : Nat → Value → World → Prop} {St : World → World → Prop} {G : Array Bool → Act → World → Prop} {a : Act} {w : World} {i : Nat} {o : Oper} {listed : Array Bool} {a' : Act} {W : World}
theorem At2.val (h : At2 l n R St G a w i o listed a' W) (j d : Nat) (hj : edgeB o j = true) (hd : dstB l j d = true) : R j (a'.tmps.getD d undef) W := by
  refine (h.dep j (edgeB_spec hj)).2 d ?_
  simpa [dstB] using hd
theorem At2.has (h : At2 l n R St G a w i o listed a' W) (j : Nat) (hj : edgeB o j = true) : listed.getD j false = true := (h.dep j (edgeB_spec hj)).1
theorem At2.past (h : At2 l n R St G a w i o listed a' W) {j : Nat} (hl : listed.getD j false = true) (k : Nat) (hj : ((l[j]?).map fun o => edgeB o k).getD false = true) : listed.getD k false = true := by
  cases ho : l[j]? with
  | none => rw [ho] at hj; cases hj
  | some oj =>
    rw [ho] at hj
    obtain ⟨e, he, hb, hk⟩ := edgeB_spec (show edgeB oj k = true from hj)
    rw [← hk]
    exact h.closed j oj ho hl e he hb
theorem At2.par (h : At2 l n R St G a w i o listed a' W) (d : Nat) (hd : parB l n d = true) : a'.tmps.getD d undef = a.tmps.getD d undef := h.rest d (parB_spec hd)
theorem Done2.val (h : Done2 l n R St G a w listed a' W) (j d : Nat) (hj : decide (j < n) = true) (hd : dstB l j d = true) : R j (a'.tmps.getD d undef) W := by
  refine h.dep j (of_decide_eq_true hj) d ?_
  simpa [dstB] using hd
theorem Done2.par (h : Done2 l n R St G a w listed a' W) (d : Nat) (hd : parB l n d = true) : a'.tmps.getD d undef = a.tmps.getD d undef := h.rest d (parB_spec hd)
end
theorem wpIn_region_each2 {F : Fence} {m : Nat} {P : Program} {id : Nat} {Q : Exit → Act → World → Prop} {a : Act} {w : World} {l : List Oper} (n : Nat) (R : Nat → Value → World → Prop) (St : World → World → Prop) (G : Array Bool → Act → World → Prop) (hm : P.follows .mixedOrders = true)
    (hB : relB l.toArray n = true) (hR : ∀ i v W W', St W W' → R i v W → R i v W') (hT : ∀ {A B C : World}, St A B → St B C → St A C) (h0 : St w { w with drawn := w.drawn + 1 }) (hG : G (Array.replicate l.length false) a { w with drawn := w.drawn + 1 })
    (hds : (List.range n).all (fun i => (((l.toArray[i]?).bind (·.dst)).all fun d => decide (d < a.tmps.size))) = true)
    (hstep : AllI (fun i o => ∀ (listed : Array Bool) (a' : Act) (W : World), At2 l n R St G a w i o listed a' W →
      ∀ K : Act → World → Prop, (∀ v W', R i v W' → St W W' → G (listed.setIfInBounds i true) (a'.put o.dst v) W' → K (a'.put o.dst v) W') → wpOpIn F m P l.toArray Q i K a' W) 0 (l.take n))
    (hend : ∀ (listed : Array Bool) (a' : Act) (W : World), Done2 l n R St G a w listed a' W → wpListIn F m P l.toArray Q (l.drop n) a' W) :
    (Code.region id l.toArray true).wpIn F m P Q a w := by
  refine wpIn_region_rel2 n R St G hm hB hR hT h0 hG hds ?_ ?_
  · intro i o listed a' W hi ho h1 h2 h3 h4 h5 h6 h7 h8 h9 K hK
    have := hstep.get (i := i) (o := o) (by rw [List.getElem?_take_of_lt hi]; exact ho)
    rw [Nat.zero_add] at this
    exact this listed a' W ⟨h1, h2, h3, h4, h5, h6, h7, h8, h9⟩ K hK
  · intro listed a' W h1 h2 h3 h4 h5 h6 h7
    exact hend listed a' W ⟨h1, h2, h3, h4, h5, h6, h7⟩
section
variable {l : List Oper} {n : Nat} {R : Nat → Value → World → Prop} {St : World → World → Prop} {G : Array Bool → Act → World → Prop} {a : Act} {w : World} {li : Array Bool} {a' : Act} {W : World}
theorem Done2.act (h : Done2 l n R St G a w li a' W) (ds : List Nat) (hds : dstsIn l n ds = true) :
    a' = { tmps := (mix ds (fun i => a'.tmps.getD i undef) 0 a.tmps.toList).toArray, defers := a.defers } := by
  refine act_mix ds h.size h.defers fun i hi hc => h.rest i fun k hk e => ?_
  have h1 := List.all_eq_true.1 hds k (List.mem_range.2 hk)
  rw [e] at h1
  simp only [Option.all_some] at h1
  rw [h1] at hc
  cases hc
theorem Done2.act_then (h : Done2 l n R St G a w li a' W) (ds : List Nat) (hds : dstsIn l n ds = true) {a4 : Act} {d : Nat} (hs : a4.tmps.size = a'.tmps.size) (hd : a4.defers = a'.defers) (ho : ∀ d', d' ≠ d → a4.tmps.getD d' undef = a'.tmps.getD d' undef) (hdd : ds.contains d = true) :
    a4 = { tmps := (mix ds (fun i => a4.tmps.getD i undef) 0 a.tmps.toList).toArray, defers := a.defers } := by
  refine act_mix ds (hs.trans h.size) (hd.trans h.defers) fun i hi hc => (ho i (fun e => by rw [e, hdd] at hc; cases hc)).trans (h.rest i fun k hk e => ?_)
  have h1 := List.all_eq_true.1 hds k (List.mem_range.2 hk)
  rw [e] at h1
  simp only [Option.all_some] at h1
  rw [h1] at hc
  cases hc
theorem Done2.keeps (h : Done2 l n R St G a w li a' W) {ds : List Nat} (hds : dstsIn l n ds = true) : ∀ i, ds.contains i = false → a'.tmps.getD i undef = a.tmps.getD i undef := fun i hc => h.rest i fun k hk e => by
  have h1 := List.all_eq_true.1 hds k (List.mem_range.2 hk)
  rw [e] at h1
  simp only [Option.all_some] at h1
  rw [h1] at hc
  cases hc
end

end Go.Proofs.YtlnamjhgbdacbaaGreat
/- bits.Mul at small numbers. -/
namespace Go.Proofs.YtlnamjhgbdacbaaGreat
open Go.RowKit

end Go.Proofs.YtlnamjhgbdacbaaGreat
/- Repeat: a row of ranges, all alike. -/
namespace Go.Proofs.YtlnamjhgbdacbaaGreat
open Go.RowKit

theorem run_copy_sz {P : Program} (w : World) (dT sT ty elem : TypeId) (g o dLen dCap : Nat) (a : Addr) (sLen sCap sz : Nat) (cur : Array Value) (t : TypeId) (cs : List Value)
    (hu : P.underlying dT = some (.slice elem)) (hs : (P.info? elem).map (·.size) = some sz)
    (hg : w.heap[g]? = some (.cells cur t (0, 0))) (hn : cs.length = Nat.min sLen dLen * sz)
    (hsrc : ∀ j v, cs[j]? = some v → w.cell? (a.add j) = some v) (hfit : o + cs.length ≤ cur.size) (h1 : ∀ v ∈ cs, v.oneCell' = true) (new : Array Value) (hnew : cur.toList.take o ++ cs ++ cur.toList.drop (o + cs.length) = new.toList) :
    (Builtin.copy_ #[dT, sT] ty #[.slice (some ⟨g, o, none⟩) dLen dCap, .slice (some a) sLen sCap]).run P w =
      .ok (goInt (Nat.min sLen dLen)) (w.setRow g new) := by
  have hl := run_loadCells_list (P := P) w a cs hsrc
  have hst := run_storeCells_at P g o t cs 0 cur w hg (by simpa using hfit) h1
  have e : (cur.toList.take o ++ cs ++ cur.toList.drop (o + cs.length)).toArray = new := by rw [hnew]
  cases hq : P.info? elem with
  | none => simp [hq] at hs
  | some i =>
    have hi : i.size = sz := by simpa [hq] using hs
    simp only [Nat.add_zero, e] at hst
    simp [Builtin.copy_, run_underlying hu, Builtin.lenOf, Builtin.firstCells, sizeOf, typeInfo, hq, hi, ← hn, hl, hst]
theorem grown_setRow {w : World} {g : Nat} {cs : Array Value} : w.grownBy (w.setRow g cs) (some g) := ⟨rfl, rfl, rfl, by simp [World.setRow], fun k _ hn => setRow_other w g k cs (fun e => hn (by rw [e]))⟩

theorem wpList_copy_sz {P : Program} {w : World} {ops : Array Oper} {rest : List Oper} {o : Oper} {a : Act} {Q : Exit → Act → World → Prop} (hgd : o.guard = none) (d s : Operand) (dT sT : TypeId)
    (ho : o.op = .call { callee := .builtin .copy, args := #[d, s], argTypes := #[dT, sT] }) (elem sz : Nat) (hu : P.underlying dT = some (.slice elem)) (hsz : (P.info? elem).map (·.size) = some sz)
    (g off dLen dCap : Nat) (ad : Addr) (sLen sCap : Nat) (hd : a.eval d = .slice (some ⟨g, off, none⟩) dLen dCap) (hs : a.eval s = .slice (some ad) sLen sCap)
    (cur : Array Value) (t : TypeId) (hg : w.heap[g]? = some (.cells cur t (0, 0))) (cs : List Value) (hn : cs.length = Nat.min sLen dLen * sz)
    (hsrc : ∀ j v, cs[j]? = some v → w.cell? (ad.add j) = some v) (hfit : off + cs.length ≤ cur.size) (h1 : ∀ v ∈ cs, v.oneCell' = true) (new : Array Value) (hnew : cur.toList.take off ++ cs ++ cur.toList.drop (off + cs.length) = new.toList)
    (h : ∀ w', Hid (w'.heap[g]? = some (.cells new t (0, 0))) → w.grownBy w' (some g) → wpList P ops Q rest (a.put o.dst (goInt (Nat.min sLen dLen))) w') : wpList P ops Q (o :: rest) a w := by
  refine wpList_plain hgd fun K hK => ?_
  have hrun := run_copy_sz (P := P) w dT sT o.type elem g off dLen dCap ad sLen sCap sz cur t cs hu hsz hg hn hsrc hfit h1 new hnew
  unfold Oper.wp
  simp [execOp, ho, resolve, invoke, builtin, hd, hs, hrun, Result.andThen]
  exact hK _ _ (h _ (hid (setRow_heap w g _ _ t _ hg)) grown_setRow)

theorem range_info : (Tryz.prog.info? 48).map (·.size) = some 2 := by kernel_rfl
/-- a row of c ranges, the first k of which are filled -/
def rptL (x y : Int) (c k : Nat) : List Value := (List.replicate k [Value.int .i64 x, .int .i64 y] ++ List.replicate (c - k) [Value.int .i64 0, .int .i64 0]).flatten
theorem range_info3 : (Tryz.prog.info? 48).map (fun i => (i.zero, i.size, i.bytes)) = some (some (.agg #[.int .i64 0, .int .i64 0]), 2, 16) := by kernel_rfl
theorem rpt_made (x y : Int) {c : Nat} (hc : 1 ≤ c ∧ c ≤ 4) : madeCells #[.int .i64 0, .int .i64 0] (c * 2) = (rptL x y c 0).toArray := by
  have : c = 1 ∨ c = 2 ∨ c = 3 ∨ c = 4 := by omega
  rcases this with rfl | rfl | rfl | rfl <;> (rw [madeCells, ← List.toArray_range]; simp [rptL, List.range, List.range.loop, List.replicate])
theorem rpt_len {x y : Int} {c k : Nat} (hk : k ≤ c) : (rptL x y c k).length = c * 2 := by
  simp [rptL, List.length_flatten]; omega
theorem rpt_fill {x y : Int} {c k : Nat} (hc : c ≤ 4) (hk : k < c) : (rptL x y c k).take (k * 2) ++ (List.replicate (Nat.min (if k = 0 then 1 else k) (c - k)) [Value.int .i64 x, .int .i64 y]).flatten ++ (rptL x y c k).drop (k * 2 + (List.replicate (Nat.min (if k = 0 then 1 else k) (c - k)) [Value.int .i64 x, .int .i64 y]).flatten.length) = rptL x y c (k + Nat.min (if k = 0 then 1 else k) (c - k)) := by
  have h1 : c = 1 ∨ c = 2 ∨ c = 3 ∨ c = 4 := by omega
  have h2 : k = 0 ∨ k = 1 ∨ k = 2 ∨ k = 3 := by omega
  rcases h1 with rfl | rfl | rfl | rfl <;> rcases h2 with rfl | rfl | rfl | rfl <;> first | omega | rfl
theorem rpt_cell {x y : Int} {c k : Nat} : ∀ (j : Nat) (v : Value), (List.replicate (Nat.min k (c - k)) [Value.int .i64 x, Value.int .i64 y]).flatten[j]? = some v → (rptL x y c k)[j]? = some v := by
  intro j v h
  unfold rptL
  obtain ⟨d, hd⟩ : ∃ d, k = Nat.min k (c - k) + d := ⟨k - Nat.min k (c - k), by have : Nat.min k (c - k) ≤ k := Nat.min_le_left k (c - k); omega⟩
  have e : List.replicate k [Value.int .i64 x, Value.int .i64 y] = List.replicate (Nat.min k (c - k)) [Value.int .i64 x, Value.int .i64 y] ++ List.replicate d [Value.int .i64 x, Value.int .i64 y] := by
    rw [List.replicate_append_replicate, ← hd]
  rw [e, List.append_assoc, List.flatten_append, List.getElem?_append_left (List.getElem?_eq_some_iff.1 h).1]
  exact h
theorem rpt_one {x y : Int} {n : Nat} : ∀ v ∈ (List.replicate n [Value.int .i64 x, .int .i64 y]).flatten, v.oneCell' = true := by
  intro v hv
  rw [List.mem_flatten] at hv
  obtain ⟨l, hl, hv⟩ := hv
  obtain rfl := (List.mem_replicate.1 hl).2
  simp at hv
  rcases hv with rfl | rfl <;> rfl

theorem add_blk (g j : Nat) : (⟨g, 0, none⟩ : Addr).add j = ⟨g, j, none⟩ := by unfold Addr.add; split <;> simp_all
theorem rpt_first {x y : Int} {c : Nat} (hc : 1 ≤ c ∧ c ≤ 4) : (rptL x y c 0).toArray.toList.take 0 ++ [Value.int .i64 x, .int .i64 y] ++ (rptL x y c 0).toArray.toList.drop (0 + [Value.int .i64 x, .int .i64 y].length) = (rptL x y c 1).toArray.toList := by
  have : c = 1 ∨ c = 2 ∨ c = 3 ∨ c = 4 := by omega
  rcases this with rfl | rfl | rfl | rfl <;> rfl
theorem rpt_next {x y : Int} {c k : Nat} (hc : c ≤ 4) (h1 : 1 ≤ k) (hk : k < c) : (rptL x y c k).toArray.toList.take (k * 2) ++ (List.replicate (Nat.min k (c - k)) [Value.int .i64 x, .int .i64 y]).flatten ++ (rptL x y c k).toArray.toList.drop (k * 2 + (List.replicate (Nat.min k (c - k)) [Value.int .i64 x, .int .i64 y]).flatten.length) = (rptL x y c (k + Nat.min k (c - k))).toArray.toList := by
  have := rpt_fill (x := x) (y := y) hc hk
  rw [if_neg (by omega)] at this
  exact this

theorem grown_same {A B C : World} {m : Option Nat} (h : A.grownBy B m) (k : B.grownBy C m) : A.grownBy C m :=
  ⟨k.os.trans h.os, k.tape.trans h.tape, k.output.trans h.output, Nat.le_trans h.size k.size, fun i hi hn => (k.block i (Nat.lt_of_lt_of_le hi h.size) hn).trans (h.block i hi hn)⟩
def RptPh (x y : Int) (c k g : Nat) (li : Array Bool) (W : World) : Prop := Blk W g 48 (if li.getD 7 false = true then rptL x y c (k + Nat.min k (c - k)) else rptL x y c k).toArray
theorem rpt_ph {x y : Int} {c k g i : Nat} {li : Array Bool} {W : World} (h : RptPh x y c k g li W) (hi : i ≠ 7) : RptPh x y c k g (li.setIfInBounds i true) W := by unfold RptPh; rw [getD_set_oth hi]; exact h
/-- a row of ranges, in memory of its own -/
def GivesRanges (x y : Int) (c : Nat) (w : World) (e : Ending) (w' : World) : Prop := ∃ g, e = .returned (.slice (some ⟨g, 0, none⟩) c c) ∧ w.heap.size ≤ g ∧ Blk w' g 48 (rptL x y c c).toArray ∧ Below w.heap.size w w'

end Go.Proofs.YtlnamjhgbdacbaaGreat
/- The bounds of the people of an old district in the streets that pass a test. Conditions stand at the theorem. -/
namespace Go.Proofs.YtlnamjhgbdacbaaGreat
open Go.RowKit Go.Shelf

attribute [local go_sem] Oper.semAt_some

theorem two_ints {W : World} {g : Nat} {x y : Int} (h : Blk W g 3 #[.int .i64 x, .int .i64 y]) : IsInts W W.heap.size (some ⟨g, 0, none⟩) [x, y] := fun k v hk => by
  obtain ⟨c0, c1⟩ := h.c2
  match k, hk with
  | 0, hk => injection hk with hk; subst hk; exact ⟨_, rfl, h.lt, c0⟩
  | 1, hk => injection hk with hk; subst hk; exact ⟨_, rfl, h.lt, by rw [add_blk]; exact c1⟩
  | k + 2, hk => simp at hk
end Go.Proofs.YtlnamjhgbdacbaaGreat
/- The size of a new district, and the map's own borders. Conditions stand at each theorem. -/
namespace Go.Proofs.YtlnamjhgbdacbaaGreat
open Go.RowKit Go.Shelf

theorem part_bounds {m : MapD} (ok : OkM m) (p : Nat → Bool) {d : Nat} (hd : d < m.old.length) : -80000 ≤ partLo m p d ∧ partLo m p d ≤ 80000 ∧ -80000 ≤ partHi m p d ∧ partHi m p d ≤ 80000 := by
  have hs8 := ok.s8
  have sb : ∀ (g : Stt → Int) (r : Nat → Bool), (g = Stt.lo ∨ g = Stt.hi) → 0 ≤ sumO m d r g m.ss.length ∧ sumO m d r g m.ss.length ≤ 80000 := fun g r hg => by
    obtain ⟨b1, b2⟩ := sumO_bounds (m := m) (g := g) (M := 10000) (by omega) d r m.ss.length (fun i hi => by have := ok.sAt (i := i) (by omega); rcases hg with rfl | rfl <;> omega)
    omega
  have a1 := sb Stt.lo p (.inl rfl)
  have a2 := sb Stt.hi p (.inr rfl)
  have a3 := sb Stt.lo (nt p) (.inl rfl)
  have a4 := sb Stt.hi (nt p) (.inr rfl)
  have a5 := ok.atB hd
  unfold partLo partHi
  omega
theorem size_bounds {m : MapD} (ok : OkM m) (p : Nat → Bool) : ∀ k, k ≤ m.old.length → -80000 * (k : Int) ≤ sizeLo m p k ∧ sizeLo m p k ≤ 80000 * k ∧ -80000 * (k : Int) ≤ sizeHi m p k ∧ sizeHi m p k ≤ 80000 * k
  | 0, _ => by simp [sizeLo, sizeHi, sumN]
  | k + 1, hk => by
    have ih := size_bounds ok p k (by omega)
    have hb := part_bounds ok p (d := k) (by omega)
    unfold sizeLo sizeHi at *
    rw [sumN_succ, sumN_succ]
    omega
theorem Blk.c8 {w : World} {g : Nat} {t : TypeId} {x0 x1 x2 x3 x4 x5 x6 x7 : Value} (h : Blk w g t #[x0, x1, x2, x3, x4, x5, x6, x7]) : w.cell? ⟨g, 0, none⟩ = some x0 ∧ w.cell? ⟨g, 1, none⟩ = some x1 ∧ w.cell? ⟨g, 2, none⟩ = some x2 ∧ w.cell? ⟨g, 3, none⟩ = some x3 ∧ w.cell? ⟨g, 4, none⟩ = some x4 ∧ w.cell? ⟨g, 5, none⟩ = some x5 ∧ w.cell? ⟨g, 6, none⟩ = some x6 ∧ w.cell? ⟨g, 7, none⟩ = some x7 :=
  ⟨by rw [h.cell]; rfl, by rw [h.cell]; rfl, by rw [h.cell]; rfl, by rw [h.cell]; rfl, by rw [h.cell]; rfl, by rw [h.cell]; rfl, by rw [h.cell]; rfl, by rw [h.cell]; rfl⟩
theorem liC_congr {f g : Nat → Int} (h : ∀ i, i < 8 → f i = g i) : liC f = liC g := by
  unfold liC
  rw [h 0 (by omega), h 1 (by omega), h 2 (by omega), h 3 (by omega), h 4 (by omega), h 5 (by omega), h 6 (by omega), h 7 (by omega)]
theorem liC_set {f g : Nat → Int} {k : Nat} {v : Int} (_hk : k < 8) (hv : g k = v) (h : ∀ i, i < 8 → i ≠ k → g i = f i) : (liC f).setIfInBounds k (.int .i64 v) = liC g := by
  apply Array.ext
  · simp [liC]
  · intro i h1 h2
    have hi : i < 8 := by simpa [liC] using h2
    have e2 : (liC g)[i]? = some (.int .i64 (g i)) := liC_get g hi
    have e1 : (liC f)[i]? = some (.int .i64 (f i)) := liC_get f hi
    rw [Array.getElem_setIfInBounds (by simpa [liC] using hi)]
    have q2 := Array.getElem?_eq_some_iff.1 e2
    have q1 := Array.getElem?_eq_some_iff.1 e1
    obtain ⟨_, q2⟩ := q2
    obtain ⟨_, q1⟩ := q1
    split
    · rename_i e
      rw [q2, ← e, hv]
    · rename_i e
      rw [q1, q2, h i hi (fun e' => e e'.symm)]

theorem Blk.liSame {w : World} {g : Nat} {t : TypeId} {f : Nat → Int} (h : Blk w g t (liC f)) {i : Nat} (hi : i < 8) : Blk (w.setCell ⟨g, i, none⟩ (.int .i64 (f i))) g t (liC f) := by
  have := h.set_ i (.int .i64 (f i))
  rwa [liC_set hi rfl (fun _ _ _ => rfl)] at this

def ownTo (m : MapD) (k : Nat) : Nat → Int := fun i => if i < k then ownL m i else 0
theorem ownTo_all {m : MapD} : ownTo m m.ss.length = ownL m := by
  funext i
  unfold ownTo ownL
  split
  · rfl
  · unfold MapD.S
    rw [List.getD, List.getElem?_eq_none (by omega)]; rfl
set_option maxRecDepth 100000 in
set_option maxHeartbeats 2000000 in
theorem bown_any (m : MapD) (A : Option Addr) (c : Nat) (A2 : Option Addr) (c2 : Nat) (A3 : Option Addr) (c3 : Nat) (w : World) (h : MIn m A c A2 c2 A3 c3 w) (h8 : m.ss.length ≤ 8) :
    Calls Tryz.prog 40 #[.agg #[.slice A m.old.length c, .int .i64 m.nw, .slice A2 m.ss.length c2, .slice A3 m.js.length c3]] w fun e w' => e = .returned (.agg (liC (ownL m))) ∧ Below w.heap.size w w' := by
  have hm1 := h.m2
  have hl1 := h.l2
  unfold maxLen at hm1
  have hb : Below w.heap.size w ((w.alloc (.cells #[.slice A m.old.length c, .int .i64 m.nw, .slice A2 m.ss.length c2, .slice A3 m.js.length c3] 36)).alloc (.cells #[.int .i64 0, .int .i64 0, .int .i64 0, .int .i64 0, .int .i64 0, .int .i64 0, .int .i64 0, .int .i64 0] 120)) := (((Below.refl w.heap.size w).alloc (Nat.le_refl _) (.cells #[.slice A m.old.length c, .int .i64 m.nw, .slice A2 m.ss.length c2, .slice A3 m.js.length c3] 36)).alloc (by simp) (.cells #[.int .i64 0, .int .i64 0, .int .i64 0, .int .i64 0, .int .i64 0, .int .i64 0, .int .i64 0, .int .i64 0] 120))
  have k1 := ((Blk.new w 36 #[.slice A m.old.length c, .int .i64 m.nw, .slice A2 m.ss.length c2, .slice A3 m.js.length c3]).alloc (.cells #[.int .i64 0, .int .i64 0, .int .i64 0, .int .i64 0, .int .i64 0, .int .i64 0, .int .i64 0, .int .i64 0] 120))
  have k2 := (Blk.new (w.alloc (.cells #[.slice A m.old.length c, .int .i64 m.nw, .slice A2 m.ss.length c2, .slice A3 m.js.length c3] 36)) 120 #[.int .i64 0, .int .i64 0, .int .i64 0, .int .i64 0, .int .i64 0, .int .i64 0, .int .i64 0, .int .i64 0])
  simp only [World.size_alloc] at k2
  have HS := hid (show Below w.heap.size w ((w.alloc (.cells #[.slice A m.old.length c, .int .i64 m.nw, .slice A2 m.ss.length c2, .slice A3 m.js.length c3] 36)).alloc (.cells #[.int .i64 0, .int .i64 0, .int .i64 0, .int .i64 0, .int .i64 0, .int .i64 0, .int .i64 0, .int .i64 0] 120)) ∧ Blk ((w.alloc (.cells #[.slice A m.old.length c, .int .i64 m.nw, .slice A2 m.ss.length c2, .slice A3 m.js.length c3] 36)).alloc (.cells #[.int .i64 0, .int .i64 0, .int .i64 0, .int .i64 0, .int .i64 0, .int .i64 0, .int .i64 0, .int .i64 0] 120)) w.heap.size 36 #[.slice A m.old.length c, .int .i64 m.nw, .slice A2 m.ss.length c2, .slice A3 m.js.length c3] ∧ Blk ((w.alloc (.cells #[.slice A m.old.length c, .int .i64 m.nw, .slice A2 m.ss.length c2, .slice A3 m.js.length c3] 36)).alloc (.cells #[.int .i64 0, .int .i64 0, .int .i64 0, .int .i64 0, .int .i64 0, .int .i64 0, .int .i64 0, .int .i64 0] 120)) (w.heap.size + 1) 120 (liC (ownTo m 0)) from ⟨hb, k1, k2⟩)
  obtain ⟨t0, t1, t2, t3⟩ := k1.c4
  have HH := hid h
  clear h hb k1 k2
  go_enter Tryz.func40, Tryz.ntmps40
  go_wp2
  go_loopw [8] (fun i W => ∃ k : Nat, k ≤ m.ss.length ∧ i = .int .i64 k ∧ Below w.heap.size w W ∧ Blk W w.heap.size 36 #[.slice A m.old.length c, .int .i64 m.nw, .slice A2 m.ss.length c2, .slice A3 m.js.length c3] ∧ Blk W (w.heap.size + 1) 120 (liC (ownTo m k))) (fun i _ => m.ss.length - (intOf i).toNat)
  case atStart => exact ⟨0, Nat.zero_le _, rfl, HS.out⟩
  case round =>
    obtain ⟨k, hk, rfl, hb, k1, k2⟩ := hrel
    clear HS t0 t1 t2 t3
    by_cases hlt : k < m.ss.length
    · have hkI : (k : Int) < (m.ss.length : Int) := by omega
      have hk8 : (k : Int) < 8 := by omega
      obtain ⟨s, hs⟩ : ∃ s, m.ss[k]? = some s := ⟨_, List.getElem?_eq_getElem hlt⟩
      obtain ⟨a, rfl, hab, f0, f1, f2, f3, f4⟩ := (HH.out.at_ hb).is k s hs
      have hc := k2.cell k
      rw [liC_get _ (by omega)] at hc
      have hf := k2.frozen k
      have hl := k2.lt
      have HST := hid (liC_set (f := ownTo m k) (g := ownTo m (k + 1)) (k := k) (v := s.n) (by omega) (by unfold ownTo ownL; rw [if_pos (by omega), MapD.S_eq hs]) (fun i _ hne => by
        unfold ownTo
        by_cases e : i < k
        · rw [if_pos e, if_pos (by omega)]
        · rw [if_neg e, if_neg (by omega)]))
      have HK := hid (And.intro hb (And.intro k1 k2))
      clear hb k1 k2 hs
      go_wp2
      go_roundw
      case rel =>
        obtain ⟨hb, k1, k2⟩ := HK.out
        have hne := Blk.ne_ k1 k2 (by decide)
        have q := hb.setCell (p := ⟨w.heap.size + 1, k, none⟩) (by show w.heap.size ≤ w.heap.size + 1; omega) (.int .i64 s.n)
        refine ⟨k + 1, by omega, by go_num, ?_, ?_, ?_⟩
        · exact q.alloc q.size _
        · exact (k1.far (p := ⟨w.heap.size + 1, k, none⟩) hne _).alloc _
        · rw [← HST.out]
          exact (k2.set_ k _).alloc _
      case measure => first | (simp [intOf]; done) | (simp [intOf]; omega)
    · have hkI : decide ((k : Int) < (m.ss.length : Int)) = false := by simp; omega
      obtain rfl : k = m.ss.length := by omega
      rw [ownTo_all] at k2
      have hl := k2.lt
      have hf0 := k2.frozen 0
      have hf1 := k2.frozen 1
      have hf2 := k2.frozen 2
      have hf3 := k2.frozen 3
      have hf4 := k2.frozen 4
      have hf5 := k2.frozen 5
      have hf6 := k2.frozen 6
      have hf7 := k2.frozen 7
      have HB := hid hb
      have K2 := hid k2
      unfold liC at k2
      obtain ⟨c0, c1, c2, c3, c4, c5, c6, c7⟩ := k2.c8
      clear k1 k2 hb
      obtain ⟨f, hf⟩ : ∃ f, ownL m = f := ⟨_, rfl⟩
      rw [hf] at c0 c1 c2 c3 c4 c5 c6 c7 K2
      have HV := hid hf
      clear hf
      go_wp2
      have k9 : Blk ((((((((wr.setCell ⟨w.heap.size + 1, 0, none⟩ (.int .i64 (f 0))).setCell ⟨w.heap.size + 1, 1, none⟩ (.int .i64 (f 1))).setCell ⟨w.heap.size + 1, 2, none⟩ (.int .i64 (f 2))).setCell ⟨w.heap.size + 1, 3, none⟩ (.int .i64 (f 3))).setCell ⟨w.heap.size + 1, 4, none⟩ (.int .i64 (f 4))).setCell ⟨w.heap.size + 1, 5, none⟩ (.int .i64 (f 5))).setCell ⟨w.heap.size + 1, 6, none⟩ (.int .i64 (f 6))).setCell ⟨w.heap.size + 1, 7, none⟩ (.int .i64 (f 7))) (w.heap.size + 1) 120 (liC f) := ((((((((K2.out.liSame (i := 0) (by omega)).liSame (i := 1) (by omega)).liSame (i := 2) (by omega)).liSame (i := 3) (by omega)).liSame (i := 4) (by omega)).liSame (i := 5) (by omega)).liSame (i := 6) (by omega)).liSame (i := 7) (by omega))
      have hbe : Below w.heap.size w ((((((((wr.setCell ⟨w.heap.size + 1, 0, none⟩ (.int .i64 (f 0))).setCell ⟨w.heap.size + 1, 1, none⟩ (.int .i64 (f 1))).setCell ⟨w.heap.size + 1, 2, none⟩ (.int .i64 (f 2))).setCell ⟨w.heap.size + 1, 3, none⟩ (.int .i64 (f 3))).setCell ⟨w.heap.size + 1, 4, none⟩ (.int .i64 (f 4))).setCell ⟨w.heap.size + 1, 5, none⟩ (.int .i64 (f 5))).setCell ⟨w.heap.size + 1, 6, none⟩ (.int .i64 (f 6))).setCell ⟨w.heap.size + 1, 7, none⟩ (.int .i64 (f 7))) := ((((((((HB.out.setCell (p := ⟨w.heap.size + 1, 0, none⟩) (by show w.heap.size ≤ w.heap.size + 1; omega) _).setCell (p := ⟨w.heap.size + 1, 1, none⟩) (by show w.heap.size ≤ w.heap.size + 1; omega) _).setCell (p := ⟨w.heap.size + 1, 2, none⟩) (by show w.heap.size ≤ w.heap.size + 1; omega) _).setCell (p := ⟨w.heap.size + 1, 3, none⟩) (by show w.heap.size ≤ w.heap.size + 1; omega) _).setCell (p := ⟨w.heap.size + 1, 4, none⟩) (by show w.heap.size ≤ w.heap.size + 1; omega) _).setCell (p := ⟨w.heap.size + 1, 5, none⟩) (by show w.heap.size ≤ w.heap.size + 1; omega) _).setCell (p := ⟨w.heap.size + 1, 6, none⟩) (by show w.heap.size ≤ w.heap.size + 1; omega) _).setCell (p := ⟨w.heap.size + 1, 7, none⟩) (by show w.heap.size ≤ w.heap.size + 1; omega) _)
      generalize ((((((((wr.setCell ⟨w.heap.size + 1, 0, none⟩ (.int .i64 (f 0))).setCell ⟨w.heap.size + 1, 1, none⟩ (.int .i64 (f 1))).setCell ⟨w.heap.size + 1, 2, none⟩ (.int .i64 (f 2))).setCell ⟨w.heap.size + 1, 3, none⟩ (.int .i64 (f 3))).setCell ⟨w.heap.size + 1, 4, none⟩ (.int .i64 (f 4))).setCell ⟨w.heap.size + 1, 5, none⟩ (.int .i64 (f 5))).setCell ⟨w.heap.size + 1, 6, none⟩ (.int .i64 (f 6))).setCell ⟨w.heap.size + 1, 7, none⟩ (.int .i64 (f 7))) = W9 at *
      unfold liC at k9
      obtain ⟨d0, d1, d2, d3, d4, d5, d6, d7⟩ := k9.c8
      exact bodyPost_ret (v := .agg (liC f)) (by simp [results, Tryz.results40, go_sem, d0, d1, d2, d3, d4, d5, d6, d7, liC]) rfl ⟨by rw [HV.out], hbe⟩
end Go.Proofs.YtlnamjhgbdacbaaGreat
/- choose: all numbers for a row that are neighbours of its cells, one after the other; the recursion behind the iterator. -/
namespace Go.Proofs.YtlnamjhgbdacbaaGreat
open Go.RowKit Go.Shelf

def cands (b : Int) : List Int → List (List Int)
  | [] => [[]]
  | n :: ns => (cands b ns).map (lowOf b n :: ·) ++ (if lowOf b n == highOf b n then [] else (cands b ns).map (highOf b n :: ·))
def testB (b : Int) (cells : List Int) (fs : List Fx) (row : Int) (l : List Int) : Bool := nearB b l.sum cells.sum && holdsB fs row l
/-- the lists that begin with pre, for the cells that are left -/
def outs (b : Int) (cells : List Int) (fs : List Fx) (row : Int) (pre rest : List Int) : List (List Int) := ((cands b rest).map (pre ++ ·)).filter (testB b cells fs row)
theorem outs_nil (b : Int) (cells : List Int) (fs : List Fx) (row : Int) (pre : List Int) : outs b cells fs row pre [] = if testB b cells fs row pre then [pre] else [] := by
  simp [outs, cands, List.filter_cons]
theorem outs_cons (b : Int) (cells : List Int) (fs : List Fx) (row : Int) (pre : List Int) (n : Int) (ns : List Int) :
    outs b cells fs row pre (n :: ns) = outs b cells fs row (pre ++ [lowOf b n]) ns ++ (if lowOf b n == highOf b n then [] else outs b cells fs row (pre ++ [highOf b n]) ns) := by
  unfold outs
  simp only [cands, List.map_append, List.filter_append, List.map_map]
  congr 1
  · congr 1; apply List.map_congr_left; intro x _; simp
  · split
    · rfl
    · simp only [List.map_map]; congr 1; apply List.map_congr_left; intro x _; simp

/-- block y is an array of m numbers that begin with pre -/
def LB (W : World) (y m : Nat) (pre : List Int) : Prop := ∃ arr : Array Value, W.heap[y]? = some (.cells arr 3 (0, 0)) ∧ arr.size = m ∧ ∀ (k : Nat) (x : Int), pre[k]? = some x → arr[k]? = some (Value.int .i64 x)
theorem LB.ints {W : World} {y m : Nat} {pre : List Int} (h : LB W y m pre) {n : Nat} (hn : y < n) : IsInts W n (some ⟨y, 0, none⟩) pre := by
  obtain ⟨arr, hb, hs, hc⟩ := h
  intro k x hk
  refine ⟨_, rfl, hn, ?_⟩
  have ha : (⟨y, 0, none⟩ : Addr).add k = ⟨y, k, none⟩ := by unfold Addr.add; split <;> simp_all
  rw [ha, cell_of_row W y k arr 3 (0, 0) hb]
  exact hc k x hk
theorem LB.lt {W : World} {y m : Nat} {pre : List Int} (h : LB W y m pre) : y < W.heap.size := by
  obtain ⟨arr, hb, _⟩ := h
  exact (Array.getElem?_eq_some_iff.1 hb).1
theorem LB.keep {Z : Nat → Prop} {W W' : World} {y m : Nat} {pre : List Int} (h : LB W y m pre) (hk : Keep Z W W') (hz : ¬ Z y) : LB W' y m pre := by
  obtain ⟨arr, hb, hs, hc⟩ := h
  exact ⟨arr, hk.cells y arr _ _ hb hz, hs, hc⟩
theorem LB.below {W W' : World} {y m : Nat} {pre : List Int} (h : LB W y m pre) (hk : Below W.heap.size W W') : LB W' y m pre := by
  have hy := h.lt
  obtain ⟨arr, hb, hs, hc⟩ := h
  exact ⟨arr, (hk.block y hy).trans hb, hs, hc⟩
theorem LB.shrink {W : World} {y m : Nat} {pre : List Int} {x : Int} (h : LB W y m (pre ++ [x])) : LB W y m pre := by
  obtain ⟨arr, hb, hs, hc⟩ := h
  exact ⟨arr, hb, hs, fun k z hk => hc k z (by rw [List.getElem?_append_left (List.getElem?_eq_some_iff.1 hk).1]; exact hk)⟩

/-- what the recursion reads -/
structure Env (Bc Bw Br By Bh P l n : Nat) (A0 : Option Addr) (c0 : Nat) (cells : List Int) (row b : Int) (At : Option Addr) (ct nt : Nat) (Af : Option Addr) (cf : Nat) (fs : List Fx) (mp : Value) (W : World) : Prop where
  bc : Blk W Bc 22 #[.slice A0 cells.length c0]
  bw : Blk W Bw 94 #[.pointer (some ⟨P, 0, none⟩)]
  br : Blk W Br 3 #[.int .i64 row]
  bY : Blk W By 129 #[.func (.yield l) #[] #[]]
  bh : Blk W Bh 129 #[.func (.func 96) #[] #[.pointer (some ⟨Bc, 0, none⟩), .pointer (some ⟨Bw, 0, none⟩), .pointer (some ⟨Br, 0, none⟩), .pointer (some ⟨By, 0, none⟩), .pointer (some ⟨Bh, 0, none⟩)]]
  bp : Blk W P 143 #[.int .i64 b, .slice At nt ct, .slice Af fs.length cf, mp]
  ic : IsInts W n A0 cells
  ix : IsFixes W n Af fs

section
variable {Bc Bw Br By Bh P l n : Nat} {A0 : Option Addr} {c0 : Nat} {cells : List Int} {row b : Int} {At : Option Addr} {ct nt : Nat} {Af : Option Addr} {cf : Nat} {fs : List Fx} {mp : Value} {W W' : World}
theorem Env.keep {Z : Nat → Prop} (h : Env Bc Bw Br By Bh P l n A0 c0 cells row b At ct nt Af cf fs mp W) (hk : Keep Z W W') (z1 : ¬ Z Bc) (z2 : ¬ Z Bw) (z3 : ¬ Z Br) (z4 : ¬ Z By) (z5 : ¬ Z Bh) (z6 : ¬ Z P) (hz : ∀ k, Z k → n ≤ k) :
    Env Bc Bw Br By Bh P l n A0 c0 cells row b At ct nt Af cf fs mp W' :=
  ⟨hk.blk h.bc z1, hk.blk h.bw z2, hk.blk h.br z3, hk.blk h.bY z4, hk.blk h.bh z5, hk.blk h.bp z6, hk.ints' h.ic hz, hk.fixes h.ix hz⟩
theorem Env.below (h : Env Bc Bw Br By Bh P l n A0 c0 cells row b At ct nt Af cf fs mp W) (hk : Below W.heap.size W W') (hn : n ≤ W.heap.size) : Env Bc Bw Br By Bh P l n A0 c0 cells row b At ct nt Af cf fs mp W' :=
  ⟨h.bc.keep hk, h.bw.keep hk, h.br.keep hk, h.bY.keep hk, h.bh.keep hk, h.bp.keep hk, h.ic.below (hk.mono hn), h.ix.below (hk.mono hn)⟩
theorem Env.reads (h : Env Bc Bw Br By Bh P l n A0 c0 cells row b At ct nt Af cf fs mp W) :
    W.cell? ⟨Bc, 0, none⟩ = some (.slice A0 cells.length c0) ∧ W.cell? ⟨Bw, 0, none⟩ = some (.pointer (some ⟨P, 0, none⟩)) ∧ W.cell? ⟨Br, 0, none⟩ = some (.int .i64 row) ∧ W.cell? ⟨By, 0, none⟩ = some (.func (.yield l) #[] #[]) ∧
    W.cell? ⟨Bh, 0, none⟩ = some (.func (.func 96) #[] #[.pointer (some ⟨Bc, 0, none⟩), .pointer (some ⟨Bw, 0, none⟩), .pointer (some ⟨Br, 0, none⟩), .pointer (some ⟨By, 0, none⟩), .pointer (some ⟨Bh, 0, none⟩)]) ∧
    W.cell? ⟨P, 0, none⟩ = some (.int .i64 b) ∧ W.cell? ⟨P, 1, none⟩ = some (.slice At nt ct) ∧ W.cell? ⟨P, 2, none⟩ = some (.slice Af fs.length cf) :=
  ⟨h.bc.c1, h.bw.c1, h.br.c1, h.bY.c1, h.bh.c1, h.bp.c4.1, h.bp.c4.2.1, h.bp.c4.2.2.1⟩
end
end Go.Proofs.YtlnamjhgbdacbaaGreat
/- The order of Divide's parts: the two functions by which it is sorted. -/
namespace Go.Proofs.YtlnamjhgbdacbaaGreat
open Go.RowKit

/-- what is left of a part -/
def restOf (whole sum : Int) (ws : List Int) (i : Nat) : Int := (whole * ws.getD i 0) % sum
/-- what the two functions have captured -/
structure DMem (Bw Bl Bs : Nat) (whole sum : Int) (A : Option Addr) (c : Nat) (ws : List Int) (n : Nat) (W : World) : Prop where
  bw : Blk W Bw 3 #[.int .i64 whole]
  bl : Blk W Bl 22 #[.slice A ws.length c]
  bs : Blk W Bs 3 #[.int .i64 sum]
  iw : IsInts W n A ws
  hn : n ≤ W.heap.size
structure DOk (whole sum : Int) (ws : List Int) : Prop where
  w0 : 0 ≤ whole
  w1 : whole ≤ 100000
  s0 : 1 ≤ sum
  s1 : sum ≤ 1000000
  x : ∀ x ∈ ws, 0 ≤ x ∧ x ≤ 10000
  l : ws.length ≤ 12
section
variable {Bw Bl Bs : Nat} {whole sum : Int} {A : Option Addr} {c : Nat} {ws : List Int} {n : Nat} {W W' : World}
theorem DMem.below (h : DMem Bw Bl Bs whole sum A c ws n W) (hb : Below W.heap.size W W') : DMem Bw Bl Bs whole sum A c ws n W' := ⟨h.bw.keep hb, h.bl.keep hb, h.bs.keep hb, h.iw.below (hb.mono h.hn), Nat.le_trans h.hn hb.size⟩
theorem DMem.keep {Z : Nat → Prop} (h : DMem Bw Bl Bs whole sum A c ws n W) (hk : Keep Z W W') (h1 : ¬ Z Bw) (h2 : ¬ Z Bl) (h3 : ¬ Z Bs) (hz : ∀ k, Z k → n ≤ k) : DMem Bw Bl Bs whole sum A c ws n W' := ⟨hk.blk h.bw h1, hk.blk h.bl h2, hk.blk h.bs h3, hk.ints' h.iw hz, Nat.le_trans h.hn hk.size⟩
theorem mul_bound {a b M N : Int} (h1 : 0 ≤ a) (h2 : a ≤ M) (h3 : 0 ≤ b) (h4 : b ≤ N) : 0 ≤ a * b ∧ a * b ≤ M * N :=
  ⟨Int.mul_nonneg h1 h3, Int.mul_le_mul h2 h4 h3 (by omega)⟩
theorem restOf_bound (ok : DOk whole sum ws) (i : Nat) : 0 ≤ restOf whole sum ws i ∧ restOf whole sum ws i < sum := by
  have := ok.s0
  exact ⟨Int.emod_nonneg _ (by omega), Int.emod_lt_of_pos _ (by omega)⟩

set_option maxRecDepth 100000 in
set_option maxHeartbeats 1000000 in
theorem rest_any (ok : DOk whole sum ws) (i : Nat) (hi : i < ws.length) (h : DMem Bw Bl Bs whole sum A c ws n W) :
    Calls Tryz.prog 84 #[.int .i64 i, .pointer (some ⟨Bw, 0, none⟩), .pointer (some ⟨Bl, 0, none⟩), .pointer (some ⟨Bs, 0, none⟩)] W fun e W' => e = .returned (.int .i64 (restOf whole sum ws i)) ∧ Below W.heap.size W W' := by
  have q1 := xt_c1 h.bw
  have q2 := xt_c1 h.bl
  have q3 := xt_c1 h.bs
  obtain ⟨a, rfl, hab, hac⟩ := h.iw i ws[i] (List.getElem?_eq_getElem hi)
  have q4 := xt_cell hac
  have hx := ok.x ws[i] (List.getElem_mem hi)
  have HE := hid (show restOf whole sum ws i = (whole * ws[i]) % sum by unfold restOf; rw [show ws.getD i 0 = ws[i] by simp [List.getD, List.getElem?_eq_getElem hi]])
  have hm := mul_bound ok.w0 ok.w1 hx.1 hx.2
  have hiI : (i : Int) < (ws.length : Int) := by omega
  have hs0 := ok.s0
  have hs1 := ok.s1
  obtain ⟨hm1, hm2⟩ := hm
  generalize ws[i] = x at *
  clear h hac hab
  obtain ⟨y, hy⟩ : ∃ y, y = whole * x := ⟨_, rfl⟩
  have hw : IntKind.i64.wrap (whole * x) = y := by rw [IntKind.wrap_i64, ← hy]; omega
  rw [← hy] at hm1 hm2 HE
  have HY := hid hy
  clear hy
  have hne : (sum == 0) = false := by simp; omega
  have hmod : (y % sum) = y % sum := rfl
  clear hmod
  go_enter Tryz.func84, Tryz.ntmps84
  go_wp2
  refine wp_region_quiet_xt (by kernel_rfl) (by kernel_rfl) ?_
  repeat (go_big_quiet_step (fail))
  refine wpQuiet_nil ?_
  intro W2 hw2
  replace hw2 := of_xt hw2
  have HW := hid hw2
  clear hw2 q1 q2 q3 q4
  go_wp2
  go_ret
  exact ⟨ret_int HE.out.symm, HW.out⟩

set_option maxRecDepth 100000 in
set_option maxHeartbeats 1000000 in
theorem cmp_any {Bc : Nat} (ok : DOk whole sum ws) (i k : Nat) (hi : i < ws.length) (hk : k < ws.length) (h : DMem Bw Bl Bs whole sum A c ws n W) (hc : Blk W Bc 168 #[.func (.func 84) #[] #[.pointer (some ⟨Bw, 0, none⟩), .pointer (some ⟨Bl, 0, none⟩), .pointer (some ⟨Bs, 0, none⟩)]]) :
    Calls Tryz.prog 86 #[.int .i64 i, .int .i64 k, .pointer (some ⟨Bc, 0, none⟩)] W fun e W' => e = .returned (.int .i64 (restOf whole sum ws k - restOf whole sum ws i)) ∧ Below W.heap.size W W' := by
  have q1 := xt_c1 hc
  have hb1 := restOf_bound ok i
  have hb2 := restOf_bound ok k
  have hs1 := ok.s1
  have HX := hid (fun q j (hj : j < ws.length) => rest_any (W := xt W q) ok j hj (h.below (below_xt W q)))
  obtain ⟨hb1, hb3⟩ := hb1
  obtain ⟨hb2, hb4⟩ := hb2
  clear h hc ok
  go_enter Tryz.func86, Tryz.ntmps86
  go_wp2
  refine wp_region_quiet_xt (by kernel_rfl) (by kernel_rfl) ?_
  repeat (go_big_quiet_step ((go_at_call 84; exact Calls.xt (HX.out _ _ (by assumption)))))
  refine wpQuiet_nil ?_
  intro W2 hw2
  replace hw2 := of_xt hw2
  have HW := hid hw2
  clear hw2 q1
  go_wp2
  go_ret
  exact ⟨rfl, HW.out⟩
end
end Go.Proofs.YtlnamjhgbdacbaaGreat
