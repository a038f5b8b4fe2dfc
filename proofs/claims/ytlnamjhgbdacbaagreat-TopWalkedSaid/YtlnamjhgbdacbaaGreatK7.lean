/- The walks and the plain laws of this part of the program, part 7: what each computes. Conditions stand at each theorem. -/
import Derived.Deep.Cut
import Derived.Handy
import Derived.Test.YtlnamjhgbdacbaaGreatK3
import Derived.Test.YtlnamjhgbdacbaaGreatK6
/- The places that are joined with a place: the iterator next, and a loop over it. Conditions stand at each theorem. -/
namespace Go.Proofs.YtlnamjhgbdacbaaGreat
open Go.RowKit Go.Shelf

attribute [local go_sem] Oper.semAt_some
def othB (r : Rd) (p : Int) : Int := if p = r.a then r.b else r.a
/-- the iterator g gives the places joined with p, in the roads' order, whatever the loop's body does to the cells of X -/
def NxC (m : WMD) (p : Int) (g : Nat) (lb : Array Value) (X : Nat → Prop) (w0 : World) : Prop :=
  ∀ (l : Nat) (J : Nat → World → Prop) (Jx : World → Prop) (W : World), Below w0.heap.size w0 W →
    (∀ k W1 W2, J k W1 → Below W1.heap.size W1 W2 → J k W2) →
    (∀ k r W1, m.roads[k]? = some r → r.a ≠ p → r.b ≠ p → J k W1 → J (k + 1) W1) →
    (∀ (k : Nat) r W1, m.roads[k]? = some r → (r.a = p ∨ r.b = p) → J k W1 → YieldAt (FW none) 0 Tryz.prog l #[.int .i64 (othB r p), .int .i64 r.hi] W1 fun e W2 => (e = .returned (.bool true) ∧ J (k + 1) W2 ∧ Keep X W1 W2) ∨ (e = .returned (.bool false) ∧ Jx W2)) →
    J 0 W →
    CallsIn (FW none) 0 Tryz.prog g (#[.func (.yield l) #[] #[]] ++ lb) W fun e W' => (∃ v, e = .returned v) ∧ (J m.roads.length W' ∨ Jx W')

set_option maxRecDepth 100000 in
set_option maxHeartbeats 4000000 in
theorem wnext1_any {m : WMD} {A2 : Option Addr} {c2 : Nat} {v0 : Value} {p : Int} {n : Nat} {w0 : World} {Bm Bd : Nat} {X : Nat → Prop} (ok : OkW m)
    (hm : Blk w0 Bm 65 #[v0, .slice A2 m.roads.length c2]) (hd : Blk w0 Bd 3 #[.int .i64 p]) (hn : n ≤ w0.heap.size) (hs : IsRds w0 n A2 m.roads) (_hl : m.roads.length ≤ c2) (_hc : c2 ≤ maxLen) (hX : ∀ k, X k → n ≤ k ∧ k ≠ Bd) :
    NxC m p 109 #[.pointer (some ⟨Bm, 0, none⟩), .pointer (some ⟨Bd, 0, none⟩)] X w0 := by
  intro l J Jx W hb hJg hsk hy hj
  unfold maxLen at _hc
  have hr20 := ok.r20
  have hw8 := ok.w8
  have hm' := hm.keep hb
  have HD := hid (hd.keep hb)
  have HS := hid (hs.below (hb.mono hn))
  have HX := hid hX
  have HJ := hid (And.intro hJg (And.intro hsk hy))
  have HJ0 := hid hj
  have OK := hid ok
  obtain ⟨t0, t1⟩ := hm'.c2
  clear hm hd hs hX hJg hsk hy hj hb hm' ok
  refine callsIn_of_wp Tryz.func109 rfl trivial ?_ rfl
  simp only [Tryz.ntmps109, List.size_toArray, List.length_cons, List.length_nil, Nat.reduceAdd, Nat.reduceSub, Array.replicate_succ, Array.replicate_zero, List.push_toArray, List.append_toArray, List.nil_append, List.cons_append]
  gi_wp2
  clear t0 t1
  gi_loopw [10] (fun i wr => ∃ k : Nat, k ≤ m.roads.length ∧ i = .int .i64 k ∧ J k wr ∧ Keep X W wr) (fun i _ => m.roads.length - (intOf i).toNat)
  case atStart => exact ⟨0, Nat.zero_le _, rfl, HJ0.out, Keep.refl _ _⟩
  case round =>
    obtain ⟨k, hk, rfl, hJk, hkp⟩ := hrel
    have HK := hid (And.intro hJk hkp)
    clear hJk hkp
    by_cases hlt : k < m.roads.length
    · have hkI : (k : Int) < (m.roads.length : Int) := by omega
      obtain ⟨r, hs⟩ : ∃ r, m.roads[k]? = some r := ⟨_, List.getElem?_eq_getElem hlt⟩
      have hrb := OK.out.rd r (List.mem_of_getElem? hs)
      obtain ⟨a, rfl, hab, f0, f1, f2, f3⟩ := HS.out k r hs
      have hna : ∀ (q : Nat), ¬ X (a.add q).block := fun q h => by rw [block_of_add] at h; have := HX.out _ h; omega
      replace f0 := HK.out.2.cell f0 (hna _)
      replace f1 := HK.out.2.cell f1 (hna _)
      replace f2 := HK.out.2.cell f2 (hna _)
      replace f3 := HK.out.2.cell f3 (hna _)
      have hbd := HK.out.2.blk HD.out (fun h => (HX.out _ h).2 rfl)
      have d0 := hbd.c1
      have dl := hbd.lt
      have HSS := hid hs
      clear hna hbd hs
      obtain ⟨h1, h2, h3, h4, h5, h6, h7, h8⟩ := hrb
      by_cases hpa : r.a = p
      · have e1 : (p == r.a) = true := by simp [hpa]
        have hoth : othB r p = r.b := by unfold othB; rw [if_pos hpa.symm]
        have hge : decide (0 ≤ r.b) = true := by simp; omega
        have HY := hid (HJ.out.2.2 k r (wr.alloc (.cells #[.int .i64 r.a, .int .i64 r.b, .int .i64 r.lo, .int .i64 r.hi] 115)) HSS.out (.inl hpa) (HJ.out.1 k _ _ HK.out.1 (below_box _ _)))
        rw [hoth] at HY
        obtain ⟨fn, tmps, assign, body, hy, hR⟩ := HY.out
        have HR := hid hR
        clear hR HY hpa hoth
        gi_wp2
        refine HR.out.mono ?_
        rintro e W3 (⟨rfl, hJ3, hk3⟩ | ⟨rfl, hJx3⟩)
        · gi_wp2
          go_roundw
          case rel => exact ⟨k + 1, by omega, by go_num, hJ3, (HK.out.2.alloc _).trans hk3⟩
          case measure => first | (simp [intOf]; done) | (simp [intOf]; omega)
        · gi_wp2
          refine bodyPost_ret (results_none rfl _ _ _) rfl ?_
          exact ⟨⟨_, rfl⟩, .inr hJx3⟩
      · have e1 : (p == r.a) = false := by simp; exact fun e => hpa e.symm
        by_cases hpb : r.b = p
        · have e2 : (p == r.b) = true := by simp [hpb]
          have hoth : othB r p = r.a := by unfold othB; rw [if_neg (fun e => hpa e.symm)]
          have hge : decide (0 ≤ r.a) = true := by simp; omega
          have HY := hid (HJ.out.2.2 k r (wr.alloc (.cells #[.int .i64 r.a, .int .i64 r.b, .int .i64 r.lo, .int .i64 r.hi] 115)) HSS.out (.inr hpb) (HJ.out.1 k _ _ HK.out.1 (below_box _ _)))
          rw [hoth] at HY
          obtain ⟨fn, tmps, assign, body, hy, hR⟩ := HY.out
          have HR := hid hR
          clear hR HY hpa hpb hoth
          gi_wp2
          refine HR.out.mono ?_
          rintro e W3 (⟨rfl, hJ3, hk3⟩ | ⟨rfl, hJx3⟩)
          · gi_wp2
            go_roundw
            case rel => exact ⟨k + 1, by omega, by go_num, hJ3, (HK.out.2.alloc _).trans hk3⟩
            case measure => first | (simp [intOf]; done) | (simp [intOf]; omega)
          · gi_wp2
            refine bodyPost_ret (results_none rfl _ _ _) rfl ?_
            exact ⟨⟨_, rfl⟩, .inr hJx3⟩
        · have e2 : (p == r.b) = false := by simp; exact fun e => hpb e.symm
          have HNO := hid (And.intro hpa hpb)
          clear hpa hpb
          gi_wp2
          try refine ⟨(fun f hf => by cases hf), ?_⟩
          try gi_wp2
          go_roundw
          case rel => exact ⟨k + 1, by omega, by go_num, HJ.out.1 _ _ _ (HJ.out.2.1 k r _ HSS.out HNO.out.1 HNO.out.2 HK.out.1) (below_box _ _), HK.out.2.alloc _⟩
          case measure => first | (simp [intOf]; done) | (simp [intOf]; omega)
    · have hkI : decide ((k : Int) < (m.roads.length : Int)) = false := by simp; omega
      obtain rfl : k = m.roads.length := by omega
      gi_wp2
      go_end0
      exact ⟨⟨_, rfl⟩, .inl HK.out.1⟩
end Go.Proofs.YtlnamjhgbdacbaaGreat
/- A loop over the places that are joined with a place. Conditions stand at each theorem. -/
namespace Go.Proofs.YtlnamjhgbdacbaaGreat
open Go.RowKit Go.Shelf

attribute [local go_sem] Oper.semAt_some
set_option maxHeartbeats 1000000 in
theorem wpIn_rangeFunc_nx {g : Operand} {p q : Tmp} {assign body : Code} {Q : Exit → Act → World → Prop} {a : Act} {w : World} {gf : Nat} {lb : Array Value} (hg : a.eval g = .func (.func gf) #[] lb)
    (eg : ∀ args w, (callFunc gf args).run Tryz.prog w = .ok (.enter gf args) w) {m : WMD} {d : Int} {X : Nat → Prop} {w0 : World} (hseq : NxC m d gf lb X w0) (hb0 : Below w0.heap.size w0 w)
    (I : Nat → World → Prop) (Ix : Code → World → Prop) (hI : OwnFrom w.heap.size I) (hIx : ∀ c, OwnFrom w.heap.size (fun (_ : Unit) W => Ix c W)) (h0 : I 0 w)
    (hsk : ∀ k r W, m.roads[k]? = some r → r.a ≠ d → r.b ≠ d → I k W → I (k + 1) W)
    (A0 : Nat → Rd → Act)
    (hassign : ∀ (l k : Nat) (r : Rd) (W : World) (K : Act → World → Prop), K (A0 k r) W →
      assign.wpIn (FW (some l)) 0 Tryz.prog (Exit.then K (fun _ _ _ => False)) { tmps := (a.tmps.setIfInBounds p (.int .i64 (othB r d))).setIfInBounds q (.int .i64 r.hi), defers := [] } W)
    (hbody : ∀ (l k : Nat) (r : Rd) (W : World), w.heap.size ≤ l → (∃ r, W.heap[l]? = some (.loop r)) → m.roads[k]? = some r → (r.a = d ∨ r.b = d) → I k W →
      body.wpIn (FW (some l)) 0 Tryz.prog (ofPost w.heap.size X I Ix k W) (A0 k r) W)
    (hdone : ∀ (D : Nat) (W : World), w.heap.size ≤ D → I m.roads.length W → W.heap[D]? = some (.deferred (some [])) → Q .normal { a with defers := { target := .collected D, args := #[] } :: a.defers } W)
    (hstop : ∀ (D : Nat) (c : Code) (W : World), w.heap.size ≤ D → Ix c W → W.heap[D]? = some (.deferred (some [])) → c.wpIn (FW none) 0 Tryz.prog Q { a with defers := { target := .collected D, args := #[] } :: a.defers } W) :
    (Code.rangeFunc g #[p, q] assign body).wpIn (FW none) 0 Tryz.prog Q a w := by
  refine wpIn_rangeFunc ?_
  intro fn hfn
  obtain ⟨rec, hrec⟩ : ∃ rec : LoopState → Option Code → Loop, rec = fun st pe => { state := st, pending := pe, fn, tmps := a.tmps, params := #[p, q], assign, body, defers := w.heap.size } := ⟨_, rfl⟩
  obtain ⟨W1, hW1⟩ : ∃ W1, (w.alloc (.deferred (some []))).alloc (.loop (rec .ready none)) = W1 := ⟨_, rfl⟩
  have hL1 : W1.heap[w.heap.size + 1]? = some (.loop (rec .ready none)) := by
    rw [← hW1]; have := World.alloc_heap_new (w.alloc (.deferred (some []))) (.loop (rec .ready none)); rwa [World.size_alloc] at this
  have hK1 : W1.heap[w.heap.size]? = some (.deferred (some [])) := by
    rw [← hW1]; exact (Below.heap_alloc _ _ _ (by simp)).trans (World.alloc_heap_new w _)
  have hI1 : I 0 W1 := by rw [← hW1]; exact hI.alloc _ (hI.alloc _ h0)
  have hb1 : Below w0.heap.size w0 W1 := by
    rw [← hW1]; exact hb0.trans ((((Below.refl _ w).alloc (Nat.le_refl _) _).alloc (by simp) _).mono hb0.size)
  refine ⟨w.heap.size + 1, [{ target := .collected w.heap.size, args := #[] }], W1, { target := .fn (.func gf) lb, args := #[.func (.yield (w.heap.size + 1)) #[] #[]] }, W1, gf,
    #[.func (.yield (w.heap.size + 1)) #[] #[]] ++ lb, W1, ?_, ?_, ?_, ?_, fun h => (by simp [FW, Fence.wide] at h), ?_⟩
  · rw [← hW1, hrec]; exact run_enterLoop_outer _ _ _ _ _
  · simp only [resolve, hg]
    simp [go_sem]
  · intro f' hf'; exact trivial
  · simp [invoke, go_sem, eg]
  · refine (hseq (w.heap.size + 1)
      (fun k W => I k W ∧ W.heap[w.heap.size + 1]? = some (.loop (rec .ready none)) ∧ W.heap[w.heap.size]? = some (.deferred (some [])))
      (fun W => ∃ c, Ix c W ∧ W.heap[w.heap.size + 1]? = some (.loop (rec .done (some c))) ∧ W.heap[w.heap.size]? = some (.deferred (some [])))
      W1 hb1
      (fun k A B hs hb => ⟨hI k A B none hs.1 (grown_of_below hb none) (fun r e => by cases e), (hb.block _ (Array.getElem?_eq_some_iff.1 hs.2.1).1).trans hs.2.1, (hb.block _ (Array.getElem?_eq_some_iff.1 hs.2.2).1).trans hs.2.2⟩)
      (fun k r W hk hna hnb hs => ⟨hsk k r W hk hna hnb hs.1, hs.2⟩)
      ?_ ⟨hI1, hL1, hK1⟩).mono ?_
    · rintro k r W hks hod ⟨hi, hl, hk⟩
      have hlt : w.heap.size + 1 < W.heap.size := (Array.getElem?_eq_some_iff.1 hl).1
      have hy := run_yield (P := Tryz.prog) (args := #[.int .i64 (othB r d), .int .i64 r.hi]) hl (by rw [hrec]; rfl)
      rw [hrec] at hy
      refine ⟨fn, (a.tmps.setIfInBounds p (.int .i64 (othB r d))).setIfInBounds q (.int .i64 r.hi), assign, body, by simpa using hy, roundIn_of_wpIn hfn (hassign (w.heap.size + 1) k r W _ ?_)⟩
      clear hy
      refine ⟨_, run_beginRound hl (by rw [hrec]), ?_⟩
      have hl2 : (W.putObj (w.heap.size + 1) (.loop { rec .ready none with state := .busy })).heap[w.heap.size + 1]? = some (.loop { rec .ready none with state := .busy }) := World.putObj_heap_same hlt
      have hk2 : (W.putObj (w.heap.size + 1) (.loop { rec .ready none with state := .busy })).heap[w.heap.size]? = some (.deferred (some [])) := (World.putObj_heap_other (by omega)).trans hk
      have hn2 : ∃ o, W.heap[w.heap.size + 1]? = some o ∧ o.isCells = false := ⟨_, hl, rfl⟩
      have hkp2 : Keep X W (W.putObj (w.heap.size + 1) (.loop { rec .ready none with state := .busy })) := Keep.of_other' (grownBy_putObj' W (w.heap.size + 1) _) hn2
      have hi2 : I k (W.putObj (w.heap.size + 1) (.loop { rec .ready none with state := .busy })) := hI k _ _ _ hi (grownBy_putObj' W (w.heap.size + 1) _) (fun r e => by cases e; exact ⟨by omega, hn2⟩)
      refine wpIn_mono (hbody (w.heap.size + 1) k r _ (by omega) ⟨_, hl2⟩ hks hod hi2) ?_
      have fin : ∀ (jump : Option Code) (W3 : World), KeepsFrom w.heap.size (W.putObj (w.heap.size + 1) (.loop { rec .ready none with state := .busy })) W3 →
          (Instr.endRound (w.heap.size + 1) jump).run Tryz.prog W3 = .ok (.bool jump.isNone) (W3.putObj (w.heap.size + 1) (.loop (rec (if jump.isNone then .ready else .done) jump))) ∧
          W3.heap[w.heap.size + 1]? = some (.loop { rec .ready none with state := .busy }) ∧
          (W3.putObj (w.heap.size + 1) (.loop (rec (if jump.isNone then .ready else .done) jump))).heap[w.heap.size + 1]? = some (.loop (rec (if jump.isNone then .ready else .done) jump)) ∧
          (W3.putObj (w.heap.size + 1) (.loop (rec (if jump.isNone then .ready else .done) jump))).heap[w.heap.size]? = some (.deferred (some [])) := fun jump W3 hk3 => by
        have hl3 := hk3.same _ _ (by omega) hl2 rfl
        have := run_endRound (P := Tryz.prog) jump hl3
        rw [hrec] at this ⊢
        exact ⟨this, by rw [hrec] at hl3; exact hl3, World.putObj_heap_same (Array.getElem?_eq_some_iff.1 hl3).1, (World.putObj_heap_other (by omega)).trans (hk3.same _ _ (Nat.le_refl _) hk2 rfl)⟩
      have put : ∀ (c : Code) (W3 : World) (o' : Obj), W3.heap[w.heap.size + 1]? = some (.loop { rec .ready none with state := .busy }) → Ix c W3 → Ix c (W3.putObj (w.heap.size + 1) o') := fun c W3 o' hl3 hix =>
        hIx c () _ _ _ hix (grownBy_putObj' W3 (w.heap.size + 1) o') (fun r e => by cases e; exact ⟨by omega, _, hl3, rfl⟩)
      rintro e a3 W3 hp
      cases e with
      | normal =>
        obtain ⟨hk3, hkp3, hi3⟩ := hp
        obtain ⟨hr, hl3, hl4, hk4⟩ := fin none W3 hk3
        refine ⟨_, _, hr, .inl ⟨rfl, ⟨hI (k + 1) _ _ _ hi3 (grownBy_putObj' W3 (w.heap.size + 1) _) (fun r e => by cases e; exact ⟨by omega, _, hl3, rfl⟩), hl4, hk4⟩, ?_⟩⟩
        exact hkp2.trans (hkp3.trans (Keep.of_other' (grownBy_putObj' W3 (w.heap.size + 1) _) ⟨_, hl3, rfl⟩))
      | ret =>
        obtain ⟨hk3, hi3⟩ := hp
        obtain ⟨hr, hl3, hl4, hk4⟩ := fin (some .ret) W3 hk3
        exact ⟨_, _, hr, .inr ⟨rfl, .ret, put _ _ _ hl3 hi3, hl4, hk4⟩⟩
      | exit id =>
        obtain ⟨hk3, hi3⟩ := hp
        obtain ⟨hr, hl3, hl4, hk4⟩ := fin (some (.exit id)) W3 hk3
        exact ⟨_, _, hr, .inr ⟨rfl, .exit id, put _ _ _ hl3 hi3, hl4, hk4⟩⟩
      | goto t =>
        obtain ⟨hk3, hi3⟩ := hp
        obtain ⟨hr, hl3, hl4, hk4⟩ := fin (some (.goto t)) W3 hk3
        exact ⟨_, _, hr, .inr ⟨rfl, .goto t, put _ _ _ hl3 hi3, hl4, hk4⟩⟩
      | panic ch => exact hp.elim
      | outgrown => exact hp.elim
    · rintro e W2 ⟨⟨v, rfl⟩, (⟨hi, hl, hk⟩ | ⟨c, hi, hl, hk⟩)⟩
      · exact ⟨none, _, by have := run_endLoop (P := Tryz.prog) hl (by rw [hrec]; simp); rw [hrec] at this; exact this, hdone _ _ (Nat.le_refl _) (hI _ _ _ _ hi (grownBy_putObj' W2 (w.heap.size + 1) _) (fun r e => by cases e; exact ⟨by omega, _, hl, rfl⟩)) ((World.putObj_heap_other (by omega)).trans hk)⟩
      · exact ⟨some c, _, by have := run_endLoop (P := Tryz.prog) hl (by rw [hrec]; simp); rw [hrec] at this; exact this, hstop _ c _ (Nat.le_refl _) (hIx c () _ _ _ hi (grownBy_putObj' W2 (w.heap.size + 1) _) (fun r e => by cases e; exact ⟨by omega, _, hl, rfl⟩)) ((World.putObj_heap_other (by omega)).trans hk)⟩
end Go.Proofs.YtlnamjhgbdacbaaGreat
/- The atlas of a map with one place and no road, walked. Conditions stand at each theorem. -/
namespace Go.Proofs.YtlnamjhgbdacbaaGreat
open Go.RowKit Go.Shelf

attribute [local go_sem] Oper.semAt_some
/-- the atlas, while it is being made -/
structure AtOne (W : World) (g mp : Nat) (A : Option Addr) (c : Nat) (t f : Value) : Prop where
  blk : ∃ cs : Array Value, Blk W g 127 cs ∧ cs.size = 131 ∧ cs[0]? = some (.slice A 1 c) ∧ cs[1]? = some (.slice none 0 0) ∧ cs[2]? = some t ∧ cs[66]? = some f ∧ cs[130]? = some (.map (some mp))
theorem AtOne.lt {W : World} {g mp : Nat} {A : Option Addr} {c : Nat} {t f : Value} (h : AtOne W g mp A c t f) : g < W.heap.size := by
  obtain ⟨cs, hb, _⟩ := h.blk
  exact hb.lt
theorem AtOne.cells {W : World} {g mp : Nat} {A : Option Addr} {c : Nat} {t f : Value} (h : AtOne W g mp A c t f) :
    W.cell? ⟨g, 0, none⟩ = some (.slice A 1 c) ∧ W.cell? ⟨g, 1, none⟩ = some (.slice none 0 0) ∧ W.cell? ⟨g, 2, none⟩ = some t ∧ W.cell? ⟨g, 66, none⟩ = some f ∧ W.cell? ⟨g, 130, none⟩ = some (.map (some mp)) := by
  obtain ⟨cs, hb, h0, h1, h2, h3, h4, h5⟩ := h.blk
  exact ⟨(hb.cell 0).trans h1, (hb.cell 1).trans h2, (hb.cell 2).trans h3, (hb.cell 66).trans h4, (hb.cell 130).trans h5⟩
theorem AtOne.froz {W : World} {g mp : Nat} {A : Option Addr} {c : Nat} {t f : Value} (h : AtOne W g mp A c t f) (i : Nat) : W.frozen? ⟨g, i, none⟩ = false := by
  obtain ⟨cs, hb, _⟩ := h.blk
  exact hb.frozen i
theorem AtOne.keep {W W' : World} {g mp : Nat} {A : Option Addr} {c : Nat} {t f : Value} (h : AtOne W g mp A c t f) (hb : Below W.heap.size W W') : AtOne W' g mp A c t f := by
  obtain ⟨cs, hc, hr⟩ := h.blk
  exact ⟨cs, hc.keep hb, hr⟩
theorem AtOne.set2 {W : World} {g mp : Nat} {A : Option Addr} {c : Nat} {t f : Value} (h : AtOne W g mp A c t f) (u : Value) : AtOne (W.setCell ⟨g, 2, none⟩ u) g mp A c u f := by
  obtain ⟨cs, hc, h0, h1, h2, h3, h4, h5⟩ := h.blk
  refine ⟨cs.setIfInBounds 2 u, hc.set_ 2 u, by simp [h0], ?_, ?_, ?_, ?_, ?_⟩
  · rw [Array.getElem?_setIfInBounds_ne (by decide)]; exact h1
  · rw [Array.getElem?_setIfInBounds_ne (by decide)]; exact h2
  · rw [Array.getElem?_setIfInBounds_self_of_lt (by omega)]
  · rw [Array.getElem?_setIfInBounds_ne (by decide)]; exact h4
  · rw [Array.getElem?_setIfInBounds_ne (by decide)]; exact h5
theorem AtOne.set66 {W : World} {g mp : Nat} {A : Option Addr} {c : Nat} {t f : Value} (h : AtOne W g mp A c t f) (u : Value) : AtOne (W.setCell ⟨g, 66, none⟩ u) g mp A c t u := by
  obtain ⟨cs, hc, h0, h1, h2, h3, h4, h5⟩ := h.blk
  refine ⟨cs.setIfInBounds 66 u, hc.set_ 66 u, by simp [h0], ?_, ?_, ?_, ?_, ?_⟩
  · rw [Array.getElem?_setIfInBounds_ne (by decide)]; exact h1
  · rw [Array.getElem?_setIfInBounds_ne (by decide)]; exact h2
  · rw [Array.getElem?_setIfInBounds_ne (by decide)]; exact h3
  · rw [Array.getElem?_setIfInBounds_self_of_lt (by omega)]
  · rw [Array.getElem?_setIfInBounds_ne (by decide)]; exact h5
theorem AtOne.far {W : World} {g mp : Nat} {A : Option Addr} {c : Nat} {t f : Value} (h : AtOne W g mp A c t f) {p : Addr} (hp : g ≠ p.block) (u : Value) : AtOne (W.setCell p u) g mp A c t f := by
  obtain ⟨cs, hc, hr⟩ := h.blk
  exact ⟨cs, hc.far hp u, hr⟩
theorem blk_three {w : World} {o1 o2 o3 : Obj} (t : TypeId) (cs : Array Value) : Blk ((((w.alloc o1).alloc o2).alloc o3).alloc (.cells cs t)) (w.heap.size + 3) t cs := by
  have h := Blk.new (((w.alloc o1).alloc o2).alloc o3) t cs
  rw [World.size_alloc, World.size_alloc, World.size_alloc] at h
  exact h
/-- what the walk of the atlas carries along: n the first block of its own -/
structure AtS (w : World) (n : Nat) (A : Option Addr) (c : Nat) (t f : Value) (W : World) : Prop where
  below : Below n w W
  bm : Blk W n 65 #[.slice A 1 c, .slice none 0 0]
  mp : W.heap[n + 1]? = some (.map #[] 0)
  at_ : AtOne W (n + 2) (n + 1) A c t f
  pa : Blk W (n + 3) 107 #[.pointer (some ⟨n + 2, 0, none⟩)]
theorem AtS.keep {w : World} {n : Nat} {A : Option Addr} {c : Nat} {t f : Value} {W W' : World} (h : AtS w n A c t f W) (hb : Below W.heap.size W W') : AtS w n A c t f W' :=
  ⟨h.below.trans (hb.mono (by have := h.bm.lt; omega)), h.bm.keep hb, (hb.block _ (Array.getElem?_eq_some_iff.1 h.mp).1).trans h.mp, h.at_.keep hb, h.pa.keep hb⟩
theorem AtS.upto {w : World} {n : Nat} {A : Option Addr} {c : Nat} {t f : Value} {W W' : World} (h : AtS w n A c t f W) (hb : Below (n + 4) W W') : AtS w n A c t f W' :=
  ⟨h.below.trans (hb.mono (by omega)), h.bm.below hb (by omega), (hb.block _ (by omega)).trans h.mp, (by obtain ⟨cs, hc, hr⟩ := h.at_.blk; exact ⟨cs, hc.below hb (by omega), hr⟩), h.pa.below hb (by omega)⟩
theorem AtS.drew {w : World} {n : Nat} {A : Option Addr} {c : Nat} {t f : Value} {W : World} (h : AtS w n A c t f W) : AtS w n A c t f W.drew := h.keep ⟨rfl, rfl, rfl, Nat.le_refl _, fun _ _ => rfl⟩
theorem AtS.far {w : World} {n : Nat} {A : Option Addr} {c : Nat} {t f : Value} {W : World} (h : AtS w n A c t f W) {p : Addr} (hp : n + 4 ≤ p.block) (u : Value) : AtS w n A c t f (W.setCell p u) :=
  ⟨h.below.setCell (by omega) u, h.bm.far (by omega) u, (Below.heap_setCell W p u _ (by omega)).trans h.mp, h.at_.far (by omega) u, h.pa.far (by omega) u⟩
theorem AtS.set2 {w : World} {n : Nat} {A : Option Addr} {c : Nat} {t f : Value} {W : World} (h : AtS w n A c t f W) (u : Value) : AtS w n A c u f (W.setCell ⟨n + 2, 2, none⟩ u) :=
  ⟨h.below.setCell (p := ⟨n + 2, 2, none⟩) (by show n ≤ n + 2; omega) u, h.bm.far (p := ⟨n + 2, 2, none⟩) (by show n ≠ n + 2; omega) u, (Below.heap_setCell W ⟨n + 2, 2, none⟩ u _ (by show n + 1 ≠ n + 2; omega)).trans h.mp, h.at_.set2 u, h.pa.far (p := ⟨n + 2, 2, none⟩) (by show n + 3 ≠ n + 2; omega) u⟩
theorem AtS.set66 {w : World} {n : Nat} {A : Option Addr} {c : Nat} {t f : Value} {W : World} (h : AtS w n A c t f W) (u : Value) : AtS w n A c t u (W.setCell ⟨n + 2, 66, none⟩ u) :=
  ⟨h.below.setCell (p := ⟨n + 2, 66, none⟩) (by show n ≤ n + 2; omega) u, h.bm.far (p := ⟨n + 2, 66, none⟩) (by show n ≠ n + 2; omega) u, (Below.heap_setCell W ⟨n + 2, 66, none⟩ u _ (by show n + 1 ≠ n + 2; omega)).trans h.mp, h.at_.set66 u, h.pa.far (p := ⟨n + 2, 66, none⟩) (by show n + 3 ≠ n + 2; omega) u⟩

structure Ph11 (w : World) (A : Option Addr) (c y : Nat) (li : Array Bool) (W : World) : Prop where
  at_ : AtS w w.heap.size A c (.int .i64 (if li.getD 11 false = true then 0 else 1048576)) (.int .i64 0) W
  gl : Blk W y 3 #[.int .i64 0]
  st : Blk W (y + 1) 162 (Array.replicate 8 (.bool false))
theorem Ph11.other {w : World} {A : Option Addr} {c y i : Nat} {li : Array Bool} {W : World} (h : Ph11 w A c y li W) (hi : i ≠ 11) : Ph11 w A c y (li.setIfInBounds i true) W :=
  ⟨by rw [getD_set_oth hi]; exact h.at_, h.gl, h.st⟩
set_option maxRecDepth 100000 in
set_option maxHeartbeats 4000000 in
theorem watlas_one (A : Option Addr) (c : Nat) (w : World) : Calls Tryz.prog 43 #[.agg #[.slice A 1 c, .slice none 0 0]] w fun e w' => e = .returned (.pointer (some ⟨w.heap.size + 2, 0, none⟩)) ∧ AtS w w.heap.size A c (.int .i64 0) (.int .i64 0) w' := by
  have hB := below_box (w := w) #[.slice A 1 c, .slice none 0 0] 65
  have hT := Blk.new w 65 #[.slice A 1 c, .slice none 0 0]
  obtain ⟨t0, t1⟩ := hT.c2
  have HB := hid hB
  have HT := hid hT
  clear hB hT
  refine callsOf (ro := none) (n := 0) ?_
  refine callsIn_of_wp_marks Tryz.func43 rfl trivial ?_ rfl
  refine wpIn_wide.2 ?_
  simp only [Tryz.ntmps43, List.size_toArray, List.length_cons, List.length_nil, Nat.reduceAdd, Nat.reduceSub, Array.replicate_succ, Array.replicate_zero, List.push_toArray, List.append_toArray, List.nil_append, List.cons_append]
  have hmm := @run_makeMap Tryz.prog
  go_upto_region 2 with (fail)
  clear t0 t1 hmm
  refine gen (p := Code.wp _ _ _ _) (fun W => AtS w w.heap.size A c (.int .i64 0) (.int .i64 0) W) ⟨((HB.out.alloc HB.out.size _).alloc (by simp; omega) _).alloc (by simp; omega) _, ((HT.out.alloc _).alloc _).alloc _, ?_, ⟨_, (by rw [show w.heap.size + 2 = (((w.alloc (.cells #[.slice A 1 c, .slice none 0 0] 65)).alloc (.map #[] 0))).heap.size by simp]; exact (Blk.new _ _ _).alloc _), rfl, rfl, rfl, rfl, rfl, rfl⟩, ?_⟩ ?_
  · exact (Below.heap_alloc _ _ _ (by simp)).trans ((Below.heap_alloc _ _ _ (by simp)).trans (by have := World.alloc_heap_new (w.alloc (.cells #[.slice A 1 c, .slice none 0 0] 65)) (.map #[] 0); rwa [World.size_alloc] at this))
  · exact blk_three _ _
  rintro W1 h1
  have H1 := hid h1
  obtain ⟨t0, t1⟩ := h1.bm.c2
  have x0 := h1.pa.c1
  have pl := h1.pa.lt
  clear h1
  go_wp2
  refine wp_loop_rounds 2 ?_
  rw [rounds_succ]
  go_upto_region 6 with (fail)
  clear t0 t1 x0
  refine gen (p := Code.wp _ _ _ _) (fun W => AtS w w.heap.size A c (.int .i64 0) (.int .i64 0) W ∧ Blk W W1.heap.size 3 #[.int .i64 0] ∧ Blk W (W1.heap.size + 1) 162 (Array.replicate 8 (.bool false))) ⟨H1.out.keep (((Below.refl _ _).alloc (Nat.le_refl _) _).alloc (by simp) _), (Blk.new _ _ _).alloc _, by have h := Blk.new (W1.alloc (.cells #[.int .i64 0] 3)) 162 (Array.replicate 8 (.bool false)); rw [World.size_alloc] at h; exact h⟩ ?_
  rintro W2 ⟨h1, h2, h3⟩
  have H2 := hid h1
  have H2g := hid h2
  have H2s := hid h3
  obtain ⟨t0, t1⟩ := h1.bm.c2
  have x0 := h1.pa.c1
  have g0 := h2.c1
  obtain ⟨a0, a1, a2, a3, a4⟩ := h1.at_.cells
  have af := h1.at_.froz 2
  have al := h1.at_.lt
  obtain ⟨y, hy⟩ : ∃ y, W1.heap.size = y := ⟨_, rfl⟩
  rw [hy] at pl g0 H2g H2s
  simp only [hy]
  clear h1 h2 h3 hy
  go_wp2
  refine wp_loop_rounds 2 ?_
  rw [rounds_succ]
  go_upto_region 9 with (fail)
  go_region
  go_wp2
  refine gen (p := Code.rounds _ _ _ _ _) (fun W => AtS w w.heap.size A c (.int .i64 1048576) (.int .i64 0) W ∧ Blk W y 3 #[.int .i64 0] ∧ Blk W (y + 1) 162 (Array.replicate 8 (.bool false))) ?_ ?_
  · have hy2 := H2g.out.lt
    exact ⟨(H2.out.set2 _).drew, (H2g.out.far (by show y ≠ w.heap.size + 2; omega) _).drew, (H2s.out.far (by show y + 1 ≠ w.heap.size + 2; omega) _).drew⟩
  clear H2 H2g H2s t0 t1 x0 g0 a0 a1 a2 a3 a4 af al
  rintro W3 ⟨h1, h2, h3⟩
  have H3 := hid h1
  have H3g := hid h2
  have H3s := hid h3
  obtain ⟨t0, t1⟩ := h1.bm.c2
  have x0 := h1.pa.c1
  have g0 := h2.c1
  obtain ⟨a0, a1, a2, a3, a4⟩ := h1.at_.cells
  have af := h1.at_.froz 2
  have af6 := h1.at_.froz 66
  have al := h1.at_.lt
  clear h1 h2 h3
  rw [rounds_succ]
  go_upto_region 11 with (fail)
  have HY := hid (show y ≠ w.heap.size + 2 ∧ y + 1 ≠ w.heap.size + 2 by omega)
  have HG0 := hid (show Ph11 w A c y (Array.replicate 17 false) W3.drew from ⟨by rw [getD_replicate_false, if_neg (by decide)]; exact H3.out.drew, H3g.out.drew, H3s.out.drew⟩)
  clear t0 t1 x0 g0 a0 a1 a2 a3 a4 af af6 al
  refine (wpIn_wide (n := 0)).1 ?_
  refine wpIn_region_each2 16 (fun i v W' => match i with | 0 => v = .pointer (some ⟨w.heap.size + 2, 0, none⟩) | 1 => v = .int .i64 0 | 2 => v = .int .i64 0 | 3 => v = .pointer (some ⟨w.heap.size + 2, 0, none⟩) | 4 => v = .int .i64 0 | 5 => v = .int .i64 0 | 6 => v = .int .i64 0 | 7 => v = .pointer (some ⟨w.heap.size + 2, 0, none⟩) | 8 => v = .pointer (some ⟨w.heap.size + 2, 2, none⟩) | 9 => v = .pointer (some ⟨w.heap.size + 2, 2, none⟩) | 10 => v = .pointer (some ⟨w.heap.size + 2, 2, none⟩) | 12 => v = .pointer (some ⟨w.heap.size + 2, 0, none⟩) | 13 => v = .pointer (some ⟨w.heap.size + 2, 66, none⟩) | 14 => v = .pointer (some ⟨w.heap.size + 2, 66, none⟩) | 15 => v = .pointer (some ⟨w.heap.size + 2, 66, none⟩) | _ => True) (fun _ _ => True) (fun li _ W => Ph11 w A c y li W) (by kernel_rfl) (by kernel_rfl) ?_ (fun _ _ => trivial) trivial HG0.out (by kernel_rfl) ?_ ?_
  · intro i v W1 W2 hb h; exact h
  · refine ⟨?_, ?_, ?_, ?_, ?_, ?_, ?_, ?_, ?_, ?_, ?_, ?_, ?_, ?_, ?_, ?_, trivial⟩
    · -- 0
      intro li a1 W2 hA K hK
      have e3 := hA.par 3 (by kernel_rfl)
      obtain ⟨p1, p2, p3⟩ := hA.ph
      have x0 := p1.pa.c1
      have g0 := p2.c1
      obtain ⟨a0, a1', a2, a3, a4⟩ := p1.at_.cells
      have af := p1.at_.froz 2
      have af6 := p1.at_.froz 66
      have al := p1.at_.lt
      refine opStep none 0 rfl rfl (fun c hc => by cases hc) ?_
      go_simp
      exact hK _ _ rfl trivial (hA.ph.other (by decide))
    · -- 1
      intro li a1 W2 hA K hK
      have e4 := hA.par 4 (by kernel_rfl)
      obtain ⟨p1, p2, p3⟩ := hA.ph
      have x0 := p1.pa.c1
      have g0 := p2.c1
      obtain ⟨a0, a1', a2, a3, a4⟩ := p1.at_.cells
      have af := p1.at_.froz 2
      have af6 := p1.at_.froz 66
      have al := p1.at_.lt
      refine opStep none 0 rfl rfl (fun c hc => by cases hc) ?_
      go_simp
      exact hK _ _ rfl trivial (hA.ph.other (by decide))
    · -- 2
      intro li a1 W2 hA K hK
      have e4 := hA.par 4 (by kernel_rfl)
      obtain ⟨p1, p2, p3⟩ := hA.ph
      have x0 := p1.pa.c1
      have g0 := p2.c1
      obtain ⟨a0, a1', a2, a3, a4⟩ := p1.at_.cells
      have af := p1.at_.froz 2
      have af6 := p1.at_.froz 66
      have al := p1.at_.lt
      refine opStep none 0 rfl rfl (fun c hc => by cases hc) ?_
      go_simp
      exact hK _ _ rfl trivial (hA.ph.other (by decide))
    · -- 3
      intro li a1 W2 hA K hK
      have e3 := hA.par 3 (by kernel_rfl)
      obtain ⟨p1, p2, p3⟩ := hA.ph
      have x0 := p1.pa.c1
      have g0 := p2.c1
      obtain ⟨a0, a1', a2, a3, a4⟩ := p1.at_.cells
      have af := p1.at_.froz 2
      have af6 := p1.at_.froz 66
      have al := p1.at_.lt
      refine opStep none 0 rfl rfl (fun c hc => by cases hc) ?_
      go_simp
      exact hK _ _ rfl trivial (hA.ph.other (by decide))
    · -- 4
      intro li a1 W2 hA K hK
      have e4 := hA.par 4 (by kernel_rfl)
      obtain ⟨p1, p2, p3⟩ := hA.ph
      have x0 := p1.pa.c1
      have g0 := p2.c1
      obtain ⟨a0, a1', a2, a3, a4⟩ := p1.at_.cells
      have af := p1.at_.froz 2
      have af6 := p1.at_.froz 66
      have al := p1.at_.lt
      refine opStep none 0 rfl rfl (fun c hc => by cases hc) ?_
      go_simp
      exact hK _ _ rfl trivial (hA.ph.other (by decide))
    · -- 5
      intro li a1 W2 hA K hK
      have e4 := hA.par 4 (by kernel_rfl)
      obtain ⟨p1, p2, p3⟩ := hA.ph
      have x0 := p1.pa.c1
      have g0 := p2.c1
      obtain ⟨a0, a1', a2, a3, a4⟩ := p1.at_.cells
      have af := p1.at_.froz 2
      have af6 := p1.at_.froz 66
      have al := p1.at_.lt
      refine opStep none 0 rfl rfl (fun c hc => by cases hc) ?_
      go_simp
      exact hK _ _ rfl trivial (hA.ph.other (by decide))
    · -- 6
      intro li a1 W2 hA K hK
      have e4 := hA.par 4 (by kernel_rfl)
      obtain ⟨p1, p2, p3⟩ := hA.ph
      have x0 := p1.pa.c1
      have g0 := p2.c1
      obtain ⟨a0, a1', a2, a3, a4⟩ := p1.at_.cells
      have af := p1.at_.froz 2
      have af6 := p1.at_.froz 66
      have al := p1.at_.lt
      refine opStep none 0 rfl rfl (fun c hc => by cases hc) ?_
      go_simp
      exact hK _ _ rfl trivial (hA.ph.other (by decide))
    · -- 7
      intro li a1 W2 hA K hK
      have e36 : a1.tmps.getD 36 undef = .pointer (some ⟨w.heap.size + 2, 0, none⟩) := hA.val 0 36 (by kernel_rfl) (by kernel_rfl)
      refine opStep none 0 rfl rfl (fun c hc => by cases hc) ?_
      go_simp
      exact hK _ _ rfl trivial (hA.ph.other (by decide))
    · -- 8
      intro li a1 W2 hA K hK
      have e43 : a1.tmps.getD 43 undef = .pointer (some ⟨w.heap.size + 2, 0, none⟩) := hA.val 7 43 (by kernel_rfl) (by kernel_rfl)
      refine opStep none 0 rfl rfl (fun c hc => by cases hc) ?_
      go_simp
      exact hK _ _ rfl trivial (hA.ph.other (by decide))
    · -- 9
      intro li a1 W2 hA K hK
      have e44 : a1.tmps.getD 44 undef = .pointer (some ⟨w.heap.size + 2, 2, none⟩) := hA.val 8 44 (by kernel_rfl) (by kernel_rfl)
      have e37 : a1.tmps.getD 37 undef = .int .i64 0 := hA.val 1 37 (by kernel_rfl) (by kernel_rfl)
      refine opStep none 0 rfl rfl (fun c hc => by cases hc) ?_
      go_simp
      exact hK _ _ rfl trivial (hA.ph.other (by decide))
    · -- 10
      intro li a1 W2 hA K hK
      have e45 : a1.tmps.getD 45 undef = .pointer (some ⟨w.heap.size + 2, 2, none⟩) := hA.val 9 45 (by kernel_rfl) (by kernel_rfl)
      have e38 : a1.tmps.getD 38 undef = .int .i64 0 := hA.val 2 38 (by kernel_rfl) (by kernel_rfl)
      refine opStep none 0 rfl rfl (fun c hc => by cases hc) ?_
      go_simp
      exact hK _ _ rfl trivial (hA.ph.other (by decide))
    · -- 11
      intro li a1 W2 hA K hK
      have e46 : a1.tmps.getD 46 undef = .pointer (some ⟨w.heap.size + 2, 2, none⟩) := hA.val 10 46 (by kernel_rfl) (by kernel_rfl)
      obtain ⟨p1, p2, p3⟩ := hA.ph
      have x0 := p1.pa.c1
      have g0 := p2.c1
      obtain ⟨a0, a1', a2, a3, a4⟩ := p1.at_.cells
      have af := p1.at_.froz 2
      have af6 := p1.at_.froz 66
      have al := p1.at_.lt
      have hy9 := p2.lt
      refine opStep none 0 rfl rfl (fun c hc => by cases hc) ?_
      go_simp
      exact hK undef _ trivial trivial ⟨by rw [getD_set_eq (by rw [hA.lsize]; decide)]; exact p1.set2 _, p2.far (p := ⟨w.heap.size + 2, 2, none⟩) HY.out.1 _, p3.far (p := ⟨w.heap.size + 2, 2, none⟩) HY.out.2 _⟩
    · -- 12
      intro li a1 W2 hA K hK
      have e39 : a1.tmps.getD 39 undef = .pointer (some ⟨w.heap.size + 2, 0, none⟩) := hA.val 3 39 (by kernel_rfl) (by kernel_rfl)
      refine opStep none 0 rfl rfl (fun c hc => by cases hc) ?_
      go_simp
      exact hK _ _ rfl trivial (hA.ph.other (by decide))
    · -- 13
      intro li a1 W2 hA K hK
      have e47 : a1.tmps.getD 47 undef = .pointer (some ⟨w.heap.size + 2, 0, none⟩) := hA.val 12 47 (by kernel_rfl) (by kernel_rfl)
      refine opStep none 0 rfl rfl (fun c hc => by cases hc) ?_
      go_simp
      exact hK _ _ rfl trivial (hA.ph.other (by decide))
    · -- 14
      intro li a1 W2 hA K hK
      have e48 : a1.tmps.getD 48 undef = .pointer (some ⟨w.heap.size + 2, 66, none⟩) := hA.val 13 48 (by kernel_rfl) (by kernel_rfl)
      have e40 : a1.tmps.getD 40 undef = .int .i64 0 := hA.val 4 40 (by kernel_rfl) (by kernel_rfl)
      refine opStep none 0 rfl rfl (fun c hc => by cases hc) ?_
      go_simp
      exact hK _ _ rfl trivial (hA.ph.other (by decide))
    · -- 15
      intro li a1 W2 hA K hK
      have e49 : a1.tmps.getD 49 undef = .pointer (some ⟨w.heap.size + 2, 66, none⟩) := hA.val 14 49 (by kernel_rfl) (by kernel_rfl)
      have e41 : a1.tmps.getD 41 undef = .int .i64 0 := hA.val 5 41 (by kernel_rfl) (by kernel_rfl)
      refine opStep none 0 rfl rfl (fun c hc => by cases hc) ?_
      go_simp
      exact hK _ _ rfl trivial (hA.ph.other (by decide))
  intro li a1 W2 hD
  have e50 : a1.tmps.getD 50 undef = .pointer (some ⟨w.heap.size + 2, 66, none⟩) := hD.val 15 50 (by kernel_rfl) (by kernel_rfl)
  have e42 : a1.tmps.getD 42 undef = .int .i64 0 := hD.val 6 42 (by kernel_rfl) (by kernel_rfl)
  obtain ⟨p1, p2, p3⟩ := hD.ph
  rw [hD.all 11 (by decide), if_pos rfl] at p1
  have x0 := p1.pa.c1
  have af6 := p1.at_.froz 66
  obtain ⟨a0, a1', a2, a3, a4⟩ := p1.at_.cells
  have al := p1.at_.lt
  have hkp2 := hD.keeps (ds := [36, 37, 38, 39, 40, 41, 42, 43, 44, 45, 46, 47, 48, 49, 50]) (by kernel_rfl)
  refine tail_store (i := 16) (W' := W2.setCell ⟨w.heap.size + 2, 66, none⟩ (.int .i64 0)) none 0 rfl rfl rfl (fun c hc => by cases hc) (by go_simp) ?_
  have e := act_mix [36, 37, 38, 39, 40, 41, 42, 43, 44, 45, 46, 47, 48, 49, 50] hD.size hD.defers (fun i _ hc => hkp2 i hc)
  generalize (fun i => a1.tmps.getD i undef) = g' at e
  refine wpListIn_nil ?_
  rw [e]
  have H4 := hid (show AtS w w.heap.size A c (.int .i64 0) (.int .i64 0) (W2.setCell ⟨w.heap.size + 2, 66, none⟩ (.int .i64 0)) ∧ Blk (W2.setCell ⟨w.heap.size + 2, 66, none⟩ (.int .i64 0)) y 3 #[.int .i64 0] ∧ Blk (W2.setCell ⟨w.heap.size + 2, 66, none⟩ (.int .i64 0)) (y + 1) 162 (Array.replicate 8 (.bool false)) from ⟨p1.set66 _, p2.far (p := ⟨w.heap.size + 2, 66, none⟩) HY.out.1 _, p3.far (p := ⟨w.heap.size + 2, 66, none⟩) HY.out.2 _⟩)
  clear e hD hkp2 e50 e42 p1 p2 p3 x0 af6 a0 a1' a2 a3 a4 al
  simp only [mix, List.contains_cons, List.contains_nil, Nat.reduceAdd, Nat.reduceBEq, Bool.or_false, Bool.or_true, cond_true, cond_false]
  generalize W2.setCell ⟨w.heap.size + 2, 66, none⟩ (.int .i64 0) = W4 at *
  obtain ⟨t0, t1⟩ := H4.out.1.bm.c2
  go_wp2
  clear t0 t1
  refine wp_loop_rounds 2 ?_
  rw [rounds_succ]
  go_upto_region 15 with (fail)
  refine gen (p := Code.wp _ _ _ _) (fun W => (AtS w w.heap.size A c (.int .i64 0) (.int .i64 0) W ∧ Blk W y 3 #[.int .i64 0] ∧ Blk W (y + 1) 162 (Array.replicate 8 (.bool false))) ∧ Blk W W4.heap.size 3 #[.int .i64 (-1)]) ⟨⟨H4.out.1.keep (below_box _ _), H4.out.2.1.alloc _, H4.out.2.2.alloc _⟩, Blk.new _ _ _⟩ ?_
  have hzy := H4.out.2.2.lt
  obtain ⟨z, hz⟩ : ∃ z, W4.heap.size = z := ⟨_, rfl⟩
  rw [hz] at hzy
  simp only [hz]
  rintro W5 ⟨h5, h6⟩
  have H5 := hid h5
  have H5z := hid h6
  obtain ⟨t0, t1⟩ := h5.1.bm.c2
  clear h5 h6 hz H4
  go_wp2
  clear t0 t1
  refine wp_loop_rounds 2 ?_
  rw [rounds_succ]
  go_upto_region 18 with (fail)
  have q1 := xt_cell ((H5.out.2.2.cell 0).trans (show (Array.replicate 8 (Value.bool false))[0]? = some (.bool false) from rfl))
  have q2 := xt_cell H5z.out.c1
  refine wp_region_quiet_xt (by kernel_rfl) (by kernel_rfl) ?_
  repeat go_big_quiet_step (fail)
  refine wpQuiet_nil ?_
  intro W7 hw7
  have hb7 := of_xt hw7
  have H7 := hid (show AtS w w.heap.size A c (.int .i64 0) (.int .i64 0) W7 ∧ Blk W7 y 3 #[.int .i64 0] ∧ Blk W7 (y + 1) 162 (Array.replicate 8 (.bool false)) ∧ Blk W7 z 3 #[.int .i64 (-1)] from ⟨H5.out.1.keep hb7, H5.out.2.1.keep hb7, H5.out.2.2.keep hb7, H5z.out.keep hb7⟩)
  clear hw7 hb7 q1 q2 H5 H5z
  obtain ⟨t0, t1⟩ := H7.out.1.bm.c2
  have z0 := H7.out.2.2.2.c1
  have zf := H7.out.2.2.2.frozen 0
  have zl := H7.out.2.2.2.lt
  go_wp2
  refine gen (p := Code.rounds _ _ _ _ _) (fun W => AtS w w.heap.size A c (.int .i64 0) (.int .i64 0) W ∧ Blk W y 3 #[.int .i64 0] ∧ Blk W (y + 1) 162 (Array.replicate 8 (.bool false)) ∧ Blk W z 3 #[.int .i64 0]) ⟨H7.out.1.far (p := ⟨z, 0, none⟩) (by show w.heap.size + 4 ≤ z; omega) _, H7.out.2.1.far (p := ⟨z, 0, none⟩) (by show y ≠ z; omega) _, H7.out.2.2.1.far (p := ⟨z, 0, none⟩) (by show y + 1 ≠ z; omega) _, H7.out.2.2.2.set_ 0 _⟩ ?_
  clear t0 t1 z0 zf zl H7
  rintro W8 h8
  have H8 := hid h8
  obtain ⟨t0, t1⟩ := h8.1.bm.c2
  have z0 := h8.2.2.2.c1
  have sf := h8.2.2.1.frozen 0
  have sl := h8.2.2.1.lt
  have s0 := (h8.2.2.1.cell 0).trans (show (Array.replicate 8 (Value.bool false))[0]? = some (.bool false) from rfl)
  clear h8
  rw [rounds_succ]
  go_upto_region 22 with (fail)
  refine gen (p := Code.wp _ _ _ _) (fun W => AtS w w.heap.size A c (.int .i64 0) (.int .i64 0) W ∧ Blk W z 3 #[.int .i64 0]) ⟨H8.out.1.far (p := ⟨y + 1, 0, none⟩) (by show w.heap.size + 4 ≤ y + 1; omega) _, H8.out.2.2.2.far (p := ⟨y + 1, 0, none⟩) (by show z ≠ y + 1; omega) _⟩ ?_
  clear t0 t1 z0 sf sl s0 H8
  rintro W9 h9
  have H9 := hid h9
  obtain ⟨t0, t1⟩ := h9.1.bm.c2
  have z0 := h9.2.c1
  clear h9
  go_wp2_with fail
  refine (wnext_any _ _ _ _).mono ?_
  rintro e W10 ⟨rfl, h1, h2, h3⟩
  have H10 := hid (And.intro (H9.out.1.keep h1) (And.intro h2 h3))
  clear h1 h2 h3 t0 t1 z0 H9
  go_wp2
  refine (wpIn_wide (n := 0)).1 ?_
  refine wpIn_rangeFunc_none rfl (enters_of Tryz.func109 (by kernel_rfl) rfl) (fun l W hb => wnext1_none H10.out.2.1 hb) ?_
  intro D W11 hD hb11 hdf
  have H11 := hid (And.intro (H10.out.1.keep hb11) hdf)
  have HD := hid (show w.heap.size + 4 ≤ D by have := H10.out.1.pa.lt; omega)
  have hbm := H11.out.1.bm
  obtain ⟨t0, t1⟩ := hbm.c2
  have x0 := H11.out.1.pa.c1
  clear hD hb11 hdf hbm H10
  go_wp2
  rw [rounds_succ]
  go_wp2
  rw [rounds_succ]
  go_wp2
  have HM := hid (show Marks (w.heap.size + 4) [D] W11 from ⟨by simp, fun D' h => by simp at h; subst h; exact ⟨HD.out, H11.out.2⟩⟩)
  refine leaves_marks (B := w.heap.size + 4) [D] _ HM.out (fun W' hk hb => ?_)
  exact ⟨.pointer (some ⟨w.heap.size + 2, 0, none⟩), results_tmp Tryz.results43 _ _ _, rfl, H11.out.1.upto hb⟩
end Go.Proofs.YtlnamjhgbdacbaaGreat
/- The atlas while it is made: what its walk carries along. Conditions stand at each theorem. -/
namespace Go.Proofs.YtlnamjhgbdacbaaGreat
open Go.RowKit Go.Shelf

def col (T : Nat → Nat → Int) (g : Nat) : Nat → Int := fun n => T n g
theorem col_same (T : Nat → Nat → Int) (o g : Nat) (v : Int) : col (upd2 T o g v) g = upd (col T g) o v := by
  funext n
  unfold col upd2 upd
  by_cases e : n = o
  · rw [if_pos ⟨e, rfl⟩, if_pos e]
  · rw [if_neg (fun h => e h.1), if_neg e]
theorem col_oth (T : Nat → Nat → Int) (o : Nat) {g g' : Nat} (v : Int) (h : g' ≠ g) : col (upd2 T o g v) g' = col T g' := by
  funext n
  unfold col upd2
  rw [if_neg (fun e => h e.2)]
/-- the first G goals are done -/
def PreD (m : WMD) (G : Nat) (T F : Nat → Nat → Int) : Prop := ∀ g, g < G → DoneC m g (col T g) (col F g)
theorem PreD.updT {m : WMD} {G : Nat} {T F : Nat → Nat → Int} (h : PreD m G T F) (o : Nat) (v : Int) : PreD m G (upd2 T o G v) F := fun g hg => by
  rw [col_oth _ _ _ (by omega)]; exact h g hg
theorem PreD.updF {m : WMD} {G : Nat} {T F : Nat → Nat → Int} (h : PreD m G T F) (o : Nat) (v : Int) : PreD m G T (upd2 F o G v) := fun g hg => by
  rw [col_oth F _ _ (by omega)]; exact h g hg
theorem PreD.next {m : WMD} {G : Nat} {T F : Nat → Nat → Int} (h : PreD m G T F) (hd : DoneC m G (col T G) (col F G)) : PreD m (G + 1) T F := fun g hg => by
  by_cases e : g = G
  · subst e; exact hd
  · exact h g (by omega)
/-- the worlds of the walk: n the first block of its own -/
structure AS (w : World) (n : Nat) (m : WMD) (A : Option Addr) (c : Nat) (A2 : Option Addr) (c2 : Nat) (T F : Nat → Nat → Int) (W : World) : Prop where
  below : Below n w W
  bm : Blk W n 65 #[.slice A m.work.length c, .slice A2 m.roads.length c2]
  mp : W.heap[n + 1]? = some (.map #[] 0)
  at_ : AtW W (n + 2) (n + 1) m A c A2 c2 T F
  pa : Blk W (n + 3) 107 #[.pointer (some ⟨n + 2, 0, none⟩)]
section
variable {w W W' : World} {n a k : Nat} {m : WMD} {A A2 : Option Addr} {c c2 : Nat} {T F : Nat → Nat → Int}
theorem AS.size (h : AS w n m A c A2 c2 T F W) : n + 4 ≤ W.heap.size := h.pa.lt
theorem AS.keep (h : AS w n m A c A2 c2 T F W) (hb : Below W.heap.size W W') : AS w n m A c A2 c2 T F W' :=
  ⟨h.below.trans (hb.mono (by have := h.bm.lt; omega)), h.bm.keep hb, (hb.block _ (Array.getElem?_eq_some_iff.1 h.mp).1).trans h.mp, h.at_.keep hb, h.pa.keep hb⟩
theorem AS.upto (h : AS w n m A c A2 c2 T F W) (hb : Below (n + 4) W W') : AS w n m A c A2 c2 T F W' :=
  ⟨h.below.trans (hb.mono (by omega)), h.bm.below hb (by omega), (hb.block _ (by omega)).trans h.mp, (by obtain ⟨cs, hc, hr⟩ := h.at_.blk; exact ⟨cs, hc.below hb (by omega), hr⟩), h.pa.below hb (by omega)⟩
theorem AS.drew (h : AS w n m A c A2 c2 T F W) : AS w n m A c A2 c2 T F W.drew := h.keep ⟨rfl, rfl, rfl, Nat.le_refl _, fun _ _ => rfl⟩
theorem AS.far (h : AS w n m A c A2 c2 T F W) {p : Addr} (hp : n + 4 ≤ p.block) (u : Value) : AS w n m A c A2 c2 T F (W.setCell p u) :=
  ⟨h.below.setCell (by omega) u, h.bm.far (by omega) u, (Below.heap_setCell W p u _ (by omega)).trans h.mp, h.at_.far (by omega) u, h.pa.far (by omega) u⟩
theorem AS.setT (h : AS w n m A c A2 c2 T F W) (ha : a < 8) (hk : k < 8) (v : Int) : AS w n m A c A2 c2 (upd2 T a k v) F (W.setCell ⟨n + 2, 2 + a * 8 + k, none⟩ (.int .i64 v)) :=
  ⟨h.below.setCell (p := ⟨n + 2, _, none⟩) (by show n ≤ n + 2; omega) _, h.bm.far (p := ⟨n + 2, _, none⟩) (by show n ≠ n + 2; omega) _, (Below.heap_setCell W ⟨n + 2, _, none⟩ _ _ (by show n + 1 ≠ n + 2; omega)).trans h.mp, h.at_.setT ha hk v, h.pa.far (p := ⟨n + 2, _, none⟩) (by show n + 3 ≠ n + 2; omega) _⟩
theorem AS.setF (h : AS w n m A c A2 c2 T F W) (ha : a < 8) (hk : k < 8) (v : Int) : AS w n m A c A2 c2 T (upd2 F a k v) (W.setCell ⟨n + 2, 66 + a * 8 + k, none⟩ (.int .i64 v)) :=
  ⟨h.below.setCell (p := ⟨n + 2, _, none⟩) (by show n ≤ n + 2; omega) _, h.bm.far (p := ⟨n + 2, _, none⟩) (by show n ≠ n + 2; omega) _, (Below.heap_setCell W ⟨n + 2, _, none⟩ _ _ (by show n + 1 ≠ n + 2; omega)).trans h.mp, h.at_.setF ha hk v, h.pa.far (p := ⟨n + 2, _, none⟩) (by show n + 3 ≠ n + 2; omega) _⟩
/-- what rounds of a loop over an iterator do besides leaves it -/
theorem AS.grown {B : Nat} {row : Option Nat} (h : AS w n m A c A2 c2 T F W) (hg : W.grownBy W' row) (hB : n + 4 ≤ B) (hr : ∀ r, row = some r → B ≤ r) : AS w n m A c A2 c2 T F W' :=
  h.upto ⟨hg.os, hg.tape, hg.output, hg.size, fun i hi => hg.block i (by have := h.size; omega) (fun e => by have := hr i e.symm; omega)⟩
end
/-- goal and flags, in their blocks -/
structure GS (y G : Nat) (s : Nat → Bool) (W : World) : Prop where
  bg : Blk W y 3 #[.int .i64 G]
  bs : Blk W (y + 1) 162 (flagC s)
theorem GS.keep {y G : Nat} {s : Nat → Bool} {W W' : World} (h : GS y G s W) (hb : Below W.heap.size W W') : GS y G s W' := ⟨h.bg.keep hb, h.bs.keep hb⟩
theorem GS.far {y G : Nat} {s : Nat → Bool} {W : World} (h : GS y G s W) {p : Addr} (h1 : p.block ≠ y) (h2 : p.block ≠ y + 1) (u : Value) : GS y G s (W.setCell p u) := ⟨h.bg.far h1.symm u, h.bs.far h2.symm u⟩
theorem GS.drew {y G : Nat} {s : Nat → Bool} {W : World} (h : GS y G s W) : GS y G s W.drew := ⟨h.bg.drew, h.bs.drew⟩
theorem GS.flag {y G : Nat} {s : Nat → Bool} {W : World} (h : GS y G s W) {p : Nat} (hp : p < 8) : GS y G (upd s p true) (W.setCell ⟨y + 1, p, none⟩ (.bool true)) :=
  ⟨h.bg.far (p := ⟨y + 1, p, none⟩) (by show y ≠ y + 1; omega) _, by have := h.bs.set_ p (.bool true); rwa [flagC_set s hp] at this⟩
end Go.Proofs.YtlnamjhgbdacbaaGreat
