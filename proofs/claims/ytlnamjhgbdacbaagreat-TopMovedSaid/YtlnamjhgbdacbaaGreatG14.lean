/- The walks and the plain laws of this part of the program, part 14: what each computes. Conditions stand at each theorem. -/
import Derived.LoopN
import Derived.Handy
import Derived.Test.YtlnamjhgbdacbaaGreatG5
import Derived.Test.YtlnamjhgbdacbaaGreatG8
import Derived.Test.YtlnamjhgbdacbaaGreatG9
import Derived.Test.YtlnamjhgbdacbaaGreatG10
import Derived.Test.YtlnamjhgbdacbaaGreatG11
import Derived.Test.YtlnamjhgbdacbaaGreatG13
/- The carried counts of all new districts. Conditions stand at each theorem. -/
namespace Go.Proofs.YtlnamjhgbdacbaaGreat
open Go.RowKit Go.Shelf

set_option maxRecDepth 100000 in
set_option maxHeartbeats 2000000 in
theorem summed_any (m : MapD) (A : Option Addr) (c : Nat) (A2 : Option Addr) (c2 : Nat) (A3 : Option Addr) (c3 : Nat) (w : World) (h : MIn m A c A2 c2 A3 c3 w) (ok : OkM m) :
    Calls Tryz.prog 24 #[.agg #[.slice A m.old.length c, .int .i64 m.nw, .slice A2 m.ss.length c2, .slice A3 m.js.length c3]] w (GivesInts (smD m (ownL m) (car m)) w) := by
  have hs8 := ok.s8
  have hn1 := ok.n1
  have hn4 := ok.n4
  obtain ⟨N, hN⟩ : ∃ N : Nat, m.nw = (N : Int) := ⟨m.nw.toNat, by omega⟩
  have hN4 : N ≤ 4 := by omega
  have hB := below_box (w := w) #[.slice A m.old.length c, .int .i64 m.nw, .slice A2 m.ss.length c2, .slice A3 m.js.length c3] 36
  have hT := Blk.new w 36 #[.slice A m.old.length c, .int .i64 m.nw, .slice A2 m.ss.length c2, .slice A3 m.js.length c3]
  have hmk := run_make_row' (P := Tryz.prog) 22 3 (.int .i64 0) 8 Tryz.underlying22 int_info rfl .i64 .i64 N (by omega) (by omega)
  have hl2 := h.l2
  have hm2 := h.m2
  unfold maxLen at hm2
  have HH := hid h
  have OK := hid ok
  have HS := hid (show Blk ((w.alloc (.cells #[.slice A m.old.length c, .int .i64 m.nw, .slice A2 m.ss.length c2, .slice A3 m.js.length c3] 36)).alloc (.cells (madeCells #[.int .i64 0] N) 3)) (w.heap.size + 1) 3 (intC (smTo N (ownL m) (car m) 0)) ∧ Below w.heap.size w ((w.alloc (.cells #[.slice A m.old.length c, .int .i64 m.nw, .slice A2 m.ss.length c2, .slice A3 m.js.length c3] 36)).alloc (.cells (madeCells #[.int .i64 0] N) 3)) ∧ Blk ((w.alloc (.cells #[.slice A m.old.length c, .int .i64 m.nw, .slice A2 m.ss.length c2, .slice A3 m.js.length c3] 36)).alloc (.cells (madeCells #[.int .i64 0] N) 3)) w.heap.size 36 #[.slice A m.old.length c, .int .i64 m.nw, .slice A2 m.ss.length c2, .slice A3 m.js.length c3] from
    ⟨by have := Blk.new (w.alloc (.cells #[.slice A m.old.length c, .int .i64 m.nw, .slice A2 m.ss.length c2, .slice A3 m.js.length c3] 36)) 3 (madeCells #[.int .i64 0] N); rw [intC_zero] at this ⊢; rwa [World.size_alloc] at this, hB.alloc hB.size _, hT.alloc _⟩)
  have KC := hid (carried_any m A c A2 c2 A3 c3 _ (h.at_ HS.out.2.1) ok)
  have hcl := car_len m
  obtain ⟨t0, t1, t2, t3⟩ := hT.c4
  have bl := hT.lt
  rw [World.size_alloc] at bl
  rw [← hN] at hmk
  have HN := hid hN
  have hcl8 : (car m).length ≤ 8 := by omega
  have HCL := hid hcl
  clear h ok hB hT hN hcl
  go_enter Tryz.func24, Tryz.ntmps24
  go_wp2_with fail
  refine KC.out.mono ?_
  rintro e w2 ⟨A5, c5, rfl, q1, q2, q3, q4, q5, hb5⟩
  have H2 := hid (And.intro (HS.out.1.keep hb5) (And.intro (HS.out.2.1.trans (hb5.mono HS.out.2.1.size)) (HS.out.2.2.keep hb5)))
  have HI := hid (And.intro q3 (fun a e => (q4 a e).1))
  have HSZ := hid (show w.heap.size + 1 < ((w.alloc (.cells #[.slice A m.old.length c, .int .i64 m.nw, .slice A2 m.ss.length c2, .slice A3 m.js.length c3] 36)).alloc (.cells (madeCells #[.int .i64 0] N) 3)).heap.size from HS.out.1.lt)
  unfold maxLen at q2
  clear KC q3 q4 q5 hb5 t0 t1 t2 t3 hmk HS bl
  go_wp2
  go_loopw [12] (fun i W => ∃ k : Nat, k ≤ (car m).length ∧ i = .int .i64 k ∧ Blk W (w.heap.size + 1) 3 (intC (smTo N (ownL m) (car m) k)) ∧ MChg (fun q => q = w.heap.size + 1) w2 W) (fun i _ => (car m).length - (intOf i).toNat)
  case atStart => exact ⟨0, Nat.zero_le _, rfl, H2.out.1, MChg.refl⟩
  case round =>
    obtain ⟨k, hk, rfl, hbo, hcg⟩ := hrel
    have hbm := hcg.blk H2.out.2.2 (fun e => by omega)
    obtain ⟨t0, t1, t2, t3⟩ := hbm.c4
    by_cases hlt : k < (car m).length
    · have hkI : (k : Int) < ((car m).length : Int) := by omega
      have hks : k < m.ss.length := by have := HCL.out; omega
      have hksI : (k : Int) < (m.ss.length : Int) := by omega
      obtain ⟨x, hx⟩ : ∃ x, (car m)[k]? = some x := ⟨_, List.getElem?_eq_getElem hlt⟩
      obtain ⟨a5, e5, g1, g2⟩ := HI.out.1 k x hx
      have n5 := HI.out.2 a5 e5
      replace g2 := hcg.keep.cell g2 (by rw [block_of_add]; have := HSZ.out; omega)
      obtain ⟨s, hs⟩ : ∃ s, m.ss[k]? = some s := ⟨_, List.getElem?_eq_getElem hks⟩
      have hbw : Below w.heap.size w wr := H2.out.2.1.trans (hcg.below (fun q e => by omega) H2.out.2.1.size)
      obtain ⟨a, e2, g3, f0, f1, f2, f3, f4⟩ := (HH.out.at_ hbw).is k s hs
      have hso := OK.out.sAt hks
      rw [MapD.S_eq hs] at hso
      obtain ⟨q, hq⟩ : ∃ q : Nat, s.n = (q : Int) := ⟨s.n.toNat, by omega⟩
      have hqN : q < N := by have := HN.out; omega
      have hqI : (q : Int) < (N : Int) := by omega
      rw [hq] at f1
      obtain ⟨y, hy⟩ : ∃ y, (smTo N (ownL m) (car m) k)[q]? = some y := ⟨_, List.getElem?_eq_getElem (by rw [smTo_len]; exact hqN)⟩
      have yo := hbo.cell q
      rw [intC_get hy] at yo
      have fo := hbo.frozen q
      have lo := hbo.lt
      obtain ⟨yb1, yb2⟩ := smTo_bounds (M := 10000) (by omega) (car_bounds OK.out) k y (List.mem_of_getElem? hy)
      obtain ⟨xb1, xb2⟩ := car_bounds OK.out x (List.mem_of_getElem? hx)
      have HNX := hid (show Blk (wr.setCell ⟨w.heap.size + 1, q, none⟩ (.int .i64 (y + x))) (w.heap.size + 1) 3 (intC (smTo N (ownL m) (car m) (k + 1))) ∧ MChg (fun q => q = w.heap.size + 1) w2 (wr.setCell ⟨w.heap.size + 1, q, none⟩ (.int .i64 (y + x))) by
        refine ⟨?_, hcg.set rfl _⟩
        have := hbo.set_ q (.int .i64 (y + x))
        rw [intC_set] at this
        rw [smTo, show (ownL m k).toNat = q by unfold ownL; rw [MapD.S_eq hs, hq]; omega, List.getD, hy, List.getD, hx]
        exact this)
      subst e5 e2
      clear hbo hcg hbm hbw hx n5 hs hso hq hy g1 g3
      go_wp2
      go_roundw
      case rel => exact ⟨k + 1, by omega, by go_num, HNX.out⟩
      case measure => first | (simp [intOf]; done) | (simp [intOf]; omega)
    · have hkI : decide ((k : Int) < ((car m).length : Int)) = false := by simp; omega
      obtain rfl : k = (car m).length := by omega
      have hbe : Below w.heap.size w wr := H2.out.2.1.trans (hcg.below (fun q e => by omega) H2.out.2.1.size)
      have hsl : (smD m (ownL m) (car m)).length = N := by unfold smD; rw [smTo_len, HN.out]; omega
      have HFIN := hid (show GivesInts (smD m (ownL m) (car m)) w (.returned (.slice (some ⟨w.heap.size + 1, 0, none⟩) N N)) wr by
        have hbf : Blk wr (w.heap.size + 1) 3 (intC (smD m (ownL m) (car m))) := by unfold smD; rw [HN.out, Int.toNat_natCast]; exact hbo
        refine ⟨some ⟨w.heap.size + 1, 0, none⟩, N, by rw [hsl], by rw [hsl]; exact Nat.le_refl _, by unfold maxLen; omega, fun i y hy => ⟨_, rfl, hbf.lt, ?_⟩, fun a e => ?_, (fun e => by cases e), hbe⟩
        · rw [add_blk, hbf.cell]; exact intC_get hy
        · injection e with e
          subst e
          exact ⟨Nat.le_succ _, _, hbf⟩)
      clear hbo hcg hbm hbe hsl
      go_wp2
      go_ret
      exact HFIN.out

def GivesCarry (m : MapD) (w : World) (e : Ending) (w' : World) : Prop :=
  ∃ p q : Option Addr × Nat, e = .returned (.tuple #[.slice p.1 (car m).length p.2, .slice q.1 (smD m (ownL m) (car m)).length q.2, .int .i64 0]) ∧ IsInts w' w'.heap.size p.1 (car m) ∧ (car m).length ≤ p.2 ∧ p.2 ≤ maxLen ∧ IsInts w' w'.heap.size q.1 (smD m (ownL m) (car m)) ∧ (smD m (ownL m) (car m)).length ≤ q.2 ∧ q.2 ≤ maxLen ∧ Below w.heap.size w w'
set_option maxRecDepth 100000 in
set_option maxHeartbeats 2000000 in
theorem carry_any (m : MapD) (A : Option Addr) (c : Nat) (A2 : Option Addr) (c2 : Nat) (A3 : Option Addr) (c3 : Nat) (w : World) (h : MIn m A c A2 c2 A3 c3 w) :
    Calls Tryz.prog 8 #[.agg #[.slice A m.old.length c, .int .i64 m.nw, .slice A2 m.ss.length c2, .slice A3 m.js.length c3]] w fun e w' => if chkM m ≠ 0 then e = .returned (.tuple #[.slice none 0 0, .slice none 0 0, .int .i64 (chkM m)]) ∧ Below w.heap.size w w' else GivesCarry m w e w' := by
  have hB := below_box (w := w) #[.slice A m.old.length c, .int .i64 m.nw, .slice A2 m.ss.length c2, .slice A3 m.js.length c3] 36
  have hT := Blk.new w 36 #[.slice A m.old.length c, .int .i64 m.nw, .slice A2 m.ss.length c2, .slice A3 m.js.length c3]
  obtain ⟨t0, t1, t2, t3⟩ := hT.c4
  have HB := hid hB
  have HT := hid hT
  have HH := hid h
  have KC := hid (checkm_any m A c A2 c2 A3 c3 _ (h.at_ hB))
  clear h hB hT
  by_cases hc : chkM m = 0
  · rw [hc] at KC
    simp only [hc, ne_eq, not_true_eq_false, if_false]
    have OK := hid (chk_okm hc)
    clear hc
    go_enter Tryz.func8, Tryz.ntmps8
    go_wp2_with fail
    refine KC.out.mono ?_
    rintro e wc ⟨rfl, hb⟩
    have HBC := hid (HB.out.trans (hb.mono HB.out.size))
    have HTC := hid (HT.out.keep hb)
    clear hb KC t0 t1 t2 t3
    go_wp2
    refine (wpIn_wide (n := 0)).1 ?_
    refine wpIn_region_each 4 (fun i v W' => match i with | 0 => v = .agg #[.slice A m.old.length c, .int .i64 m.nw, .slice A2 m.ss.length c2, .slice A3 m.js.length c3] | 1 => ∃ (p5 : Option Addr × Nat), v = .slice p5.1 (car m).length p5.2 ∧ IsInts W' W'.heap.size p5.1 (car m) ∧ ((car m).length ≤ p5.2 ∧ p5.2 ≤ maxLen) | 2 => v = .agg #[.slice A m.old.length c, .int .i64 m.nw, .slice A2 m.ss.length c2, .slice A3 m.js.length c3] | 3 => ∃ (p6 : Option Addr × Nat), v = .slice p6.1 (smD m (ownL m) (car m)).length p6.2 ∧ IsInts W' W'.heap.size p6.1 (smD m (ownL m) (car m)) ∧ ((smD m (ownL m) (car m)).length ≤ p6.2 ∧ p6.2 ≤ maxLen) | _ => True) (fun A B => Below A.heap.size A B) (fun _ _ => True) (by kernel_rfl) (by kernel_rfl) ?_ (fun h k => h.trans (k.mono h.size)) ⟨rfl, rfl, rfl, Nat.le_refl _, fun _ _ => rfl⟩ trivial (by kernel_rfl) ?_ ?_
    · intro i v W1 W2 hb h
      match i, h with
      | 0, h => exact h
      | 1, h =>
        obtain ⟨p5, rfl, h1⟩ := h
        exact ⟨_, rfl, h1.1.at_ hb, h1.2⟩
      | 2, h => exact h
      | 3, h =>
        obtain ⟨p6, rfl, h1⟩ := h
        exact ⟨_, rfl, h1.1.at_ hb, h1.2⟩
      | i + 4, h => trivial
    · refine ⟨?_, ?_, ?_, ?_, trivial⟩
      · -- 0
        intro li a1 W2 hA K hK
        have e1 := hA.par 1 (by kernel_rfl)
        obtain ⟨q1, q2, q3, q4⟩ := (HTC.out.keep hA.st).c4
        refine opStep none 0 rfl rfl (fun c hc => by cases hc) ?_
        go_simp
        exact hK _ _ rfl (Below.refl _ _) trivial
      · -- 1
        intro li a1 W2 hA K hK
        have e11 : a1.tmps.getD 11 undef = .agg #[.slice A m.old.length c, .int .i64 m.nw, .slice A2 m.ss.length c2, .slice A3 m.js.length c3] := hA.val 0 11 (by kernel_rfl) (by kernel_rfl)
        refine opStep none 0 rfl rfl (fun c hc => by cases hc) ?_
        go_simp
        refine (carried_any m A c A2 c2 A3 c3 _ ((HH.out.at_ HBC.out).at_ hA.st) OK.out).mono ?_
        rintro e W4 ⟨A5, c5, rfl, g1, g2, g3, g4, g5, hb⟩
        exact hK _ _ ⟨(A5, c5), rfl, g3, g1, g2⟩ hb trivial
      · -- 2
        intro li a1 W2 hA K hK
        have e1 := hA.par 1 (by kernel_rfl)
        obtain ⟨q1, q2, q3, q4⟩ := (HTC.out.keep hA.st).c4
        refine opStep none 0 rfl rfl (fun c hc => by cases hc) ?_
        go_simp
        exact hK _ _ rfl (Below.refl _ _) trivial
      · -- 3
        intro li a1 W2 hA K hK
        have e13 : a1.tmps.getD 13 undef = .agg #[.slice A m.old.length c, .int .i64 m.nw, .slice A2 m.ss.length c2, .slice A3 m.js.length c3] := hA.val 2 13 (by kernel_rfl) (by kernel_rfl)
        refine opStep none 0 rfl rfl (fun c hc => by cases hc) ?_
        go_simp
        refine (summed_any m A c A2 c2 A3 c3 _ ((HH.out.at_ HBC.out).at_ hA.st) OK.out).mono ?_
        rintro e W4 ⟨A5, c5, rfl, g1, g2, g3, g4, g5, hb⟩
        exact hK _ _ ⟨(A5, c5), rfl, g3, g1, g2⟩ hb trivial
    · intro li a1 W2 hD
      obtain ⟨p5, e12, h2⟩ := hD.val 1 12 (by kernel_rfl) (by kernel_rfl)
      obtain ⟨p6, e14, h3⟩ := hD.val 3 14 (by kernel_rfl) (by kernel_rfl)
      have hd : a1.defers = [] := hD.defers
      have hst := hD.st
      have hsz : a1.tmps.size = 15 := hD.size
      have HFIN := hid (show GivesCarry m w (.returned (.tuple #[.slice p5.1 (car m).length p5.2, .slice p6.1 (smD m (ownL m) (car m)).length p6.2, .int .i64 0])) W2 from ⟨p5, p6, rfl, h2.1, h2.2.1, h2.2.2, h3.1, h3.2.1, h3.2.2, HBC.out.trans (hst.mono HBC.out.size)⟩)
      clear hD h2 h3 hst
      refine tail_val (i := 4) (v := .slice p5.1 (car m).length p5.2) (W' := W2) none 0 rfl rfl rfl (fun c hc => by cases hc) (by go_simp) (by rw [hsz]; decide) ?_
      intro a2 s2 d2 f2 o2
      have e14' : a2.tmps.getD 14 undef = .slice p6.1 (smD m (ownL m) (car m)).length p6.2 := (o2 14 (by decide)).trans e14
      refine tail_val (i := 5) (v := .slice p6.1 (smD m (ownL m) (car m)).length p6.2) (W' := W2) none 0 rfl rfl rfl (fun c hc => by cases hc) (by go_simp) (by rw [s2, hsz]; decide) ?_
      intro a3 s3 d3 f3 o3
      refine tail_val (i := 6) (v := .int .i64 0) (W' := W2) none 0 rfl rfl rfl (fun c hc => by cases hc) (by go_simp) (by rw [s3, s2, hsz]; decide) ?_
      intro a4 s4 d4 f4 o4
      have e2 : a4.tmps.getD 2 undef = .slice p5.1 (car m).length p5.2 := ((o4 2 (by decide)).trans (o3 2 (by decide))).trans f2
      have e3 : a4.tmps.getD 3 undef = .slice p6.1 (smD m (ownL m) (car m)).length p6.2 := (o4 3 (by decide)).trans f3
      have hd4 : a4.defers = [] := (d4.trans (d3.trans d2)).trans hd
      clear e12 e14 e14' s2 s3 s4 d2 d3 d4 o2 o3 o4 f2 f3 hd hsz
      refine wpListIn_nil ?_
      go_wp2
      exact bodyPost_ret (v := .tuple #[.slice p5.1 (car m).length p5.2, .slice p6.1 (smD m (ownL m) (car m)).length p6.2, .int .i64 0]) (by simp only [Array.getD_eq_getD_getElem?] at e2 e3 f4; simp [results, Tryz.results8, go_sem, e2, e3, f4]) hd4 HFIN.out
  · have hne : (chkM m != 0) = true := by simp [hc]
    simp only [ne_eq, hc, not_false_eq_true, if_true]
    obtain ⟨z, hz⟩ : ∃ z, chkM m = z := ⟨_, rfl⟩
    rw [hz] at KC hne ⊢
    clear hc hz
    go_enter Tryz.func8, Tryz.ntmps8
    go_wp2_with fail
    refine KC.out.mono ?_
    rintro e wc ⟨rfl, hb⟩
    have HBC := hid (HB.out.trans (hb.mono HB.out.size))
    clear hb KC t0 t1 t2 t3
    go_wp2
    go_ret3
    exact ⟨rfl, HBC.out⟩
end Go.Proofs.YtlnamjhgbdacbaaGreat
/- By how much the carried counts can be off. No condition. -/
namespace Go.Proofs.YtlnamjhgbdacbaaGreat
open Go.RowKit Go.Shelf

def offOne (m : MapD) (d : Nat) : Int := max ((bndOne m d).2 - (smD m (ownL m) (car m)).getD d 0) ((smD m (ownL m) (car m)).getD d 0 - (bndOne m d).1)
def offL (m : MapD) : List Int := (List.range m.nw.toNat).map (offOne m)
theorem smD_len {m : MapD} (l : Nat → Int) (xs : List Int) : (smD m l xs).length = m.nw.toNat := smTo_len _ _ _ _
theorem bndL_at {m : MapD} {d : Nat} (h : d < m.nw.toNat) : (bndL m)[d]? = some (bndOne m d) := by
  unfold bndL
  rw [List.getElem?_map, List.getElem?_range h]; rfl
theorem bndL_len (m : MapD) : (bndL m).length = m.nw.toNat := by simp [bndL]
theorem bndOne_bounds {m : MapD} (ok : OkM m) (d : Nat) : -320000 ≤ (bndOne m d).1 ∧ (bndOne m d).1 ≤ 320000 ∧ -320000 ≤ (bndOne m d).2 ∧ (bndOne m d).2 ≤ 320000 := by
  have h := size_bounds ok (inD (ownL m) (d : Int)) m.old.length (Nat.le_refl _)
  have h4 := ok.d4
  unfold bndOne
  dsimp only
  omega
end Go.Proofs.YtlnamjhgbdacbaaGreat
/- Whether numbers are a truth of a map. No condition. -/
namespace Go.Proofs.YtlnamjhgbdacbaaGreat
open Go.RowKit Go.Shelf

attribute [local go_sem] Oper.semAt_some

/-- the sum of the first k numbers that lie in old district d -/
def sumX (m : MapD) (d : Nat) (xs : List Int) (k : Nat) : Int := sumN (fun i => if (m.S i).o = (d : Int) then xs.getD i 0 else 0) k
def inX (m : MapD) (xs : List Int) (i : Nat) : Prop := (m.S i).lo ≤ xs.getD i 0 ∧ xs.getD i 0 ≤ (m.S i).hi
structure IsTr (m : MapD) (xs : List Int) : Prop where
  len : xs.length = m.ss.length
  rng : ∀ i, i < m.ss.length → inX m xs i
  sum : ∀ d, d < m.old.length → sumX m d xs m.ss.length = m.at_ d
theorem sumX_skip {m : MapD} {d : Nat} {xs : List Int} {k : Nat} {s : Stt} (h : m.ss[k]? = some s) (hd : s.o ≠ (d : Int)) : sumX m d xs (k + 1) = sumX m d xs k := by
  unfold sumX
  rw [sumN_succ, MapD.S_eq h, if_neg hd]; simp
theorem sumX_take {m : MapD} {d : Nat} {xs : List Int} {k : Nat} {s : Stt} (h : m.ss[k]? = some s) (hd : s.o = (d : Int)) : sumX m d xs (k + 1) = sumX m d xs k + xs.getD k 0 := by
  unfold sumX
  rw [sumN_succ, MapD.S_eq h, if_pos hd]
theorem sumX_bounds {m : MapD} (ok : OkM m) {d : Nat} {xs : List Int} : ∀ {k : Nat}, k ≤ m.ss.length → (∀ i, i < k → (m.S i).o = (d : Int) → inX m xs i) → 0 ≤ sumX m d xs k ∧ sumX m d xs k ≤ k * 10000
  | 0, _, _ => by simp [sumX, sumN]
  | k + 1, hk, h => by
    have ih := sumX_bounds ok (k := k) (by omega) fun i hi ho => h i (by omega) ho
    have hs := ok.sAt (i := k) (by omega)
    unfold sumX at *
    rw [sumN_succ]
    by_cases e : (m.S k).o = (d : Int)
    · have hi := h k (by omega) e
      unfold inX at hi
      rw [if_pos e]
      omega
    · rw [if_neg e]
      omega
def inXB (m : MapD) (xs : List Int) (i : Nat) : Bool := inB (xs.getD i 0) (m.S i).lo (m.S i).hi
def trB (m : MapD) (xs : List Int) : Bool := (xs.length == m.ss.length) && ((List.range m.ss.length).all (inXB m xs) && (List.range m.old.length).all fun d => sumX m d xs m.ss.length == m.at_ d)
theorem trB_iff {m : MapD} {xs : List Int} : trB m xs = true ↔ IsTr m xs := by
  unfold trB inXB
  simp only [Bool.and_eq_true, beq_iff_eq, List.all_eq_true, List.mem_range, inB_iff]
  exact ⟨fun ⟨a, b, c⟩ => ⟨a, b, c⟩, fun ⟨a, b, c⟩ => ⟨a, b, c⟩⟩
/-- are these numbers a truth of a valid map? -/
def truB (m : MapD) (xs : List Int) : Bool := (chkM m == 0) && trB m xs
theorem truB_true {m : MapD} {xs : List Int} (h : chkM m = 0) (ht : IsTr m xs) : truB m xs = true := by
  unfold truB
  rw [h, trB_iff.2 ht]; rfl
theorem truB_false {m : MapD} {xs : List Int} (h : ¬ (chkM m = 0 ∧ IsTr m xs)) : truB m xs = false := by
  unfold truB
  rw [Bool.eq_false_iff]
  intro e
  simp only [Bool.and_eq_true, beq_iff_eq] at e
  exact h ⟨e.1, trB_iff.1 e.2⟩

end Go.Proofs.YtlnamjhgbdacbaaGreat
/- Truths in plain words: nobody is lost; each number and each size is within its bounds; how a truth is picked. Conditions stand at each theorem. -/
namespace Go.Proofs.YtlnamjhgbdacbaaGreat

theorem at_sum (m : MapD) : m.old.sum = sumN m.at_ m.old.length := sum_eq_sumN m.old
/-- numbers that add up to the count in each old district add up to all -/
theorem all_sum {m : MapD} (ok : OkM m) {xs : List Int} (hl : xs.length = m.ss.length) (h : ∀ d, d < m.old.length → sumX m d xs m.ss.length = m.at_ d) : xs.sum = m.old.sum := by
  rw [at_sum, sum_eq_sumN, hl, ← sumN_class (fun i => xs.getD i 0) (fun i => (m.S i).o.toNat) m.ss.length m.old.length fun i hi => by have := ok.sAt hi; omega]
  refine sumN_congr fun d hd => ?_
  rw [← h d hd]
  refine sumN_congr fun i hi => ?_
  have := ok.sAt hi
  by_cases e : (m.S i).o = (d : Int)
  · rw [if_pos e, if_pos (by omega)]
  · rw [if_neg e, if_neg (by omega)]
theorem car_all {m : MapD} (ok : OkM m) : (car m).sum = m.old.sum := all_sum ok (car_len m) fun _ hd => car_sum ok hd
/-- the sums by districts add up to the whole -/
theorem smD_all {m : MapD} {l : Nat → Int} {xs : List Int} (hl : ∀ i, i < xs.length → 0 ≤ l i ∧ l i < m.nw) : (smD m l xs).sum = xs.sum := by
  rw [sum_eq_sumN, sum_eq_sumN xs, smD_cnt, ← sumN_class (fun i => xs.getD i 0) (fun i => (l i).toNat) xs.length m.nw.toNat fun i hi => by have := hl i hi; omega]
  refine sumN_congr fun d hd => ?_
  rw [smD_get hd fun i hi => (hl i hi).1]
  refine sumN_congr fun i hi => ?_
  have := hl i hi
  by_cases e : l i = (d : Int)
  · rw [if_pos e, if_pos (by omega)]
  · rw [if_neg e, if_neg (by omega)]
/-- the sum of the numbers of an old district that pass a test -/
def sumP (m : MapD) (p : Nat → Bool) (d : Nat) (xs : List Int) : Int := sumN (fun i => if (m.S i).o = (d : Int) ∧ p i = true then xs.getD i 0 else 0) m.ss.length
theorem sumP_split (m : MapD) (p : Nat → Bool) (d : Nat) (xs : List Int) : sumX m d xs m.ss.length = sumP m p d xs + sumP m (nt p) d xs := by
  unfold sumX sumP
  rw [← sumN_add]
  refine sumN_congr fun i _ => ?_
  by_cases e : (m.S i).o = (d : Int)
  · cases hp : p i <;> simp [e, nt, hp]
  · simp [e]
theorem sumP_b {m : MapD} {xs : List Int} (h : ∀ i, i < m.ss.length → inX m xs i) (p : Nat → Bool) (d : Nat) : sumO m d p Stt.lo m.ss.length ≤ sumP m p d xs ∧ sumP m p d xs ≤ sumO m d p Stt.hi m.ss.length := by
  unfold sumP sumO
  refine ⟨sumN_le fun i hi => ?_, sumN_le fun i hi => ?_⟩
  · split
    · exact (h i hi).1
    · exact Int.le_refl _
  · split
    · exact (h i hi).2
    · exact Int.le_refl _
theorem tr_part {m : MapD} {xs : List Int} (h : IsTr m xs) (p : Nat → Bool) {d : Nat} (hd : d < m.old.length) : partLo m p d ≤ sumP m p d xs ∧ sumP m p d xs ≤ partHi m p d := by
  have h1 := sumP_b h.rng p d
  have h2 := sumP_b h.rng (nt p) d
  have h3 := sumP_split m p d xs
  rw [h.sum d hd] at h3
  unfold partLo partHi
  omega
/-- the sum of all numbers that pass a test -/
theorem sumP_all {m : MapD} (ok : OkM m) (p : Nat → Bool) (xs : List Int) : sumN (fun d => sumP m p d xs) m.old.length = sumN (fun i => if p i = true then xs.getD i 0 else 0) m.ss.length := by
  rw [← sumN_class (fun i => if p i = true then xs.getD i 0 else 0) (fun i => (m.S i).o.toNat) m.ss.length m.old.length fun i hi => by have := ok.sAt hi; omega]
  refine sumN_congr fun d _ => ?_
  refine sumN_congr fun i hi => ?_
  have := ok.sAt hi
  by_cases e : (m.S i).o = (d : Int)
  · rw [if_pos (show (m.S i).o.toNat = d by omega)]
    cases hp : p i <;> simp [e]
  · rw [if_neg (show ¬ (m.S i).o.toNat = d by omega), if_neg fun h => e h.1]
theorem tr_street {m : MapD} (ok : OkM m) {xs : List Int} (h : IsTr m xs) {i : Nat} (hi : i < m.ss.length) : (strOne m i).1 ≤ xs.getD i 0 ∧ xs.getD i 0 ≤ (strOne m i).2 := by
  have ho := ok.sAt hi
  have h1 := tr_part h (aloneP i) (d := (m.S i).o.toNat) (by omega)
  have e : sumP m (aloneP i) (m.S i).o.toNat xs = xs.getD i 0 := by
    unfold sumP
    rw [sumN_one hi fun k _ hk => if_neg fun h => by
      have := h.2
      simp only [aloneP, beq_iff_eq] at this
      omega]
    rw [if_pos ⟨by omega, by simp [aloneP]⟩]
  rw [e] at h1
  exact h1
def szX (m : MapD) (xs : List Int) (d : Nat) : Int := (smD m (ownL m) xs).getD d 0
theorem szX_eq {m : MapD} (ok : OkM m) {xs : List Int} (hl : xs.length = m.ss.length) {d : Nat} (hd : d < m.nw.toNat) : szX m xs d = sumN (fun i => if inD (ownL m) (d : Int) i = true then xs.getD i 0 else 0) m.ss.length := by
  unfold szX
  rw [smD_get hd fun i hi => by have := ok.sAt (i := i) (by omega); unfold ownL; omega, hl]
  exact sumN_congr fun i _ => by simp only [inD, beq_iff_eq]
theorem tr_size {m : MapD} (ok : OkM m) {xs : List Int} (h : IsTr m xs) {d : Nat} (hd : d < m.nw.toNat) : (bndOne m d).1 ≤ szX m xs d ∧ szX m xs d ≤ (bndOne m d).2 := by
  rw [szX_eq ok h.len hd, ← sumP_all ok]
  unfold bndOne sizeLo sizeHi
  exact ⟨sumN_le fun k hk => (tr_part h _ hk).1, sumN_le fun k hk => (tr_part h _ hk).2⟩
/-- how far a size can be off -/
theorem tr_off {m : MapD} (ok : OkM m) {xs : List Int} (h : IsTr m xs) {d : Nat} (hd : d < m.nw.toNat) : szX m xs d - smQ m d ≤ offOne m d ∧ smQ m d - szX m xs d ≤ offOne m d ∧ offOne m d = max ((bndOne m d).2 - smQ m d) (smQ m d - (bndOne m d).1) := by
  have h1 := tr_size ok h hd
  have e : offOne m d = max ((bndOne m d).2 - smQ m d) (smQ m d - (bndOne m d).1) := rfl
  omega
theorem xs_get {m : MapD} {xs : List Int} (hl : xs.length = m.ss.length) {i : Nat} (hi : i < m.ss.length) : xs[i]? = some (xs.getD i 0) := by
  rw [List.getD, List.getElem?_eq_getElem (by omega)]; rfl
theorem szX_get {m : MapD} {xs : List Int} {d : Nat} (hd : d < m.nw.toNat) : (smD m (ownL m) xs)[d]? = some (szX m xs d) := by
  have : d < (smD m (ownL m) xs).length := by rw [smD_cnt]; exact hd
  unfold szX
  rw [List.getD, List.getElem?_eq_getElem this]; rfl
theorem tr_b {m : MapD} (ok : OkM m) {xs : List Int} (h : IsTr m xs) : ∀ x ∈ xs, 0 ≤ x ∧ x ≤ 10000 := fun x hx => by
  obtain ⟨i, hi, rfl⟩ := List.getElem_of_mem hx
  have hi' : i < m.ss.length := by rw [← h.len]; exact hi
  have h1 := ok.sAt hi'
  have h2 := h.rng i hi'
  unfold inX at h2
  rw [List.getD, List.getElem?_eq_getElem hi] at h2
  simp only [Option.getD_some] at h2
  omega
/-- picking a truth: old districts before d are done -/
structure PkO (m : MapD) (d : Nat) (xs : List Int) : Prop where
  len : xs.length = m.ss.length
  rng : ∀ i, i < m.ss.length → (m.S i).o < (d : Int) → inX m xs i
  sum : ∀ q, q < d → sumX m q xs m.ss.length = m.at_ q
/-- and of district d the first k streets -/
structure PkI (m : MapD) (d k : Nat) (xs : List Int) (left : Int) : Prop extends PkO m d xs where
  now : ∀ i, i < k → (m.S i).o = (d : Int) → inX m xs i
  lft : left = m.at_ d - sumX m d xs k
  low : sumO m d tt Stt.lo m.ss.length - sumO m d tt Stt.lo k ≤ left
  hgh : left ≤ sumO m d tt Stt.hi m.ss.length - sumO m d tt Stt.hi k
theorem PkO.start {m : MapD} (ok : OkM m) : PkO m 0 (List.replicate m.ss.length 0) :=
  ⟨by simp, fun i hi h => by have := ok.sAt hi; omega, fun q hq => by omega⟩
theorem PkI.start {m : MapD} (hc : cstM m = 0) {d : Nat} (hd : d < m.old.length) {xs : List Int} (h : PkO m d xs) : PkI m d 0 xs (m.at_ d) := by
  have h1 := conM_at (cst_ok hc).2 hd
  refine ⟨h, fun i hi => by omega, ?_, ?_, ?_⟩
  · simp [sumX, sumN]
  · have : sumO m d tt Stt.lo 0 = 0 := rfl
    omega
  · have : sumO m d tt Stt.hi 0 = 0 := rfl
    omega
theorem PkI.skip {m : MapD} {d k : Nat} {xs : List Int} {left : Int} {s : Stt} (h : PkI m d k xs left) (hs : m.ss[k]? = some s) (hd : s.o ≠ (d : Int)) : PkI m d (k + 1) xs left :=
  ⟨h.toPkO, fun i hi ho => by
    by_cases e : i = k
    · subst e; rw [MapD.S_eq hs] at ho; exact absurd ho hd
    · exact h.now i (by omega) ho, by rw [sumX_skip hs hd]; exact h.lft, by rw [sumO_skip hs hd]; exact h.low, by rw [sumO_skip hs hd]; exact h.hgh⟩
theorem sumX_set_ne {m : MapD} {d k j : Nat} {xs : List Int} {x : Int} (h : (m.S j).o ≠ (d : Int)) : sumX m d (xs.set j x) k = sumX m d xs k := by
  unfold sumX
  refine sumN_congr fun i _ => ?_
  by_cases e : i = j
  · subst e; rw [if_neg h, if_neg h]
  · rw [set_getD_ne (by omega)]
theorem sumX_set_ge {m : MapD} {d k j : Nat} {xs : List Int} {x : Int} (h : k ≤ j) : sumX m d (xs.set j x) k = sumX m d xs k := by
  unfold sumX
  refine sumN_congr fun i hi => ?_
  rw [set_getD_ne (by omega)]
/-- what the streets after street k of district d have at most or at least, up to street j -/
def tlS (m : MapD) (d k : Nat) (g : Stt → Int) (j : Nat) : Int := sumO m d tt g j - sumO m d tt g k
theorem tlS_zero (m : MapD) (d k : Nat) (g : Stt → Int) : tlS m d k g k = 0 := by unfold tlS; omega
theorem tlS_skip {m : MapD} {d k j : Nat} {g : Stt → Int} {s : Stt} (h : m.ss[j]? = some s) (hd : s.o ≠ (d : Int)) : tlS m d k g (j + 1) = tlS m d k g j := by unfold tlS; rw [sumO_skip h hd]
theorem tlS_take {m : MapD} {d k j : Nat} {g : Stt → Int} {s : Stt} (h : m.ss[j]? = some s) (hd : s.o = (d : Int)) : tlS m d k g (j + 1) = tlS m d k g j + g s := by unfold tlS; rw [sumO_take h hd rfl]; omega
theorem sumO_bb {m : MapD} (ok : OkM m) (d k : Nat) (hk : k ≤ m.ss.length) : 0 ≤ sumO m d tt Stt.lo k ∧ sumO m d tt Stt.lo k ≤ 80000 ∧ 0 ≤ sumO m d tt Stt.hi k ∧ sumO m d tt Stt.hi k ≤ 80000 := by
  have h8 := ok.s8
  have h1 := sumO_bounds (m := m) (g := Stt.lo) (M := 10000) (by omega) d tt k fun i hi => by have := ok.sAt (i := i) (by omega); omega
  have h2 := sumO_bounds (m := m) (g := Stt.hi) (M := 10000) (by omega) d tt k fun i hi => by have := ok.sAt (i := i) (by omega); omega
  omega
theorem tlS_b {m : MapD} (ok : OkM m) (d k j : Nat) (hk : k ≤ m.ss.length) (hj : j ≤ m.ss.length) : -80000 ≤ tlS m d k Stt.lo j ∧ tlS m d k Stt.lo j ≤ 80000 ∧ -80000 ≤ tlS m d k Stt.hi j ∧ tlS m d k Stt.hi j ≤ 80000 := by
  have h1 := sumO_bb ok d k hk
  have h2 := sumO_bb ok d j hj
  unfold tlS
  omega
theorem PkI.lb {m : MapD} (ok : OkM m) {d k : Nat} {xs : List Int} {left : Int} (h : PkI m d k xs left) (hk : k ≤ m.ss.length) : -80000 ≤ left ∧ left ≤ 80000 := by
  have h1 := sumO_bb ok d k hk
  have h2 := sumO_bb ok d m.ss.length (Nat.le_refl _)
  have h3 := h.low
  have h4 := h.hgh
  omega
/-- there is room for street k -/
theorem PkI.room {m : MapD} (ok : OkM m) {d k : Nat} {xs : List Int} {left : Int} {s : Stt} (h : PkI m d k xs left) (hs : m.ss[k]? = some s) (hd : s.o = (d : Int)) : max (left - tlS m d (k + 1) Stt.hi m.ss.length) s.lo ≤ min (left - tlS m d (k + 1) Stt.lo m.ss.length) s.hi := by
  have hk := (List.getElem?_eq_some_iff.1 hs).1
  have h1 := h.low
  have h2 := h.hgh
  have h3 := sumO_take (p := tt) (g := Stt.lo) hs hd rfl
  have h4 := sumO_take (p := tt) (g := Stt.hi) hs hd rfl
  have h5 := ok.sAt hk
  rw [MapD.S_eq hs] at h5
  have h6 : tlS m d (k + 1) Stt.lo m.ss.length ≤ tlS m d (k + 1) Stt.hi m.ss.length := by
    unfold tlS sumO
    have := sumN_mono (f := fun i => (if (m.S i).o = (d : Int) ∧ tt i = true then (m.S i).hi else 0) - (if (m.S i).o = (d : Int) ∧ tt i = true then (m.S i).lo else 0)) (show k + 1 ≤ m.ss.length by omega) fun i hi => by
      have := ok.sAt hi
      split <;> omega
    rw [sumN_sub, sumN_sub] at this
    omega
  unfold tlS at *
  omega
theorem PkI.take {m : MapD} {d k : Nat} {xs : List Int} {left x : Int} {s : Stt} (h : PkI m d k xs left) (hs : m.ss[k]? = some s) (hd : s.o = (d : Int)) (h1 : max (left - tlS m d (k + 1) Stt.hi m.ss.length) s.lo ≤ x) (h2 : x ≤ min (left - tlS m d (k + 1) Stt.lo m.ss.length) s.hi) : PkI m d (k + 1) (xs.set k x) (left - x) := by
  have hk := (List.getElem?_eq_some_iff.1 hs).1
  have hl := h.len
  have hS := MapD.S_eq hs
  unfold tlS at h1 h2
  refine ⟨⟨by rw [List.length_set]; exact hl, fun i hi ho => ?_, fun q hq => ?_⟩, fun i hi ho => ?_, ?_, by omega, by omega⟩
  · have hne : i ≠ k := fun e => by subst e; rw [hS] at ho; omega
    have := h.rng i hi ho
    unfold inX at this ⊢
    rwa [set_getD_ne (by omega)]
  · rw [sumX_set_ne (by rw [hS]; omega)]
    exact h.sum q hq
  · by_cases e : i = k
    · subst e
      unfold inX
      rw [hS, set_getD_eq (by omega)]
      omega
    · have := h.now i (by omega) ho
      unfold inX at this ⊢
      rwa [set_getD_ne (by omega)]
  · rw [sumX_take hs hd, sumX_set_ge (Nat.le_refl _), set_getD_eq (by omega)]
    have := h.lft
    omega
theorem PkI.done {m : MapD} {d : Nat} {xs : List Int} {left : Int} (h : PkI m d m.ss.length xs left) : PkO m (d + 1) xs :=
  ⟨h.len, fun i hi ho => by
    by_cases e : (m.S i).o = (d : Int)
    · exact h.now i hi e
    · exact h.rng i hi (by omega), fun q hq => by
    by_cases e : q = d
    · subst e
      have h1 := h.low
      have h2 := h.hgh
      have h3 := h.lft
      omega
    · exact h.sum q (by omega)⟩
theorem PkO.tr {m : MapD} (ok : OkM m) {xs : List Int} (h : PkO m m.old.length xs) : IsTr m xs :=
  ⟨h.len, fun i hi => h.rng i hi (by have := ok.sAt hi; omega), h.sum⟩
end Go.Proofs.YtlnamjhgbdacbaaGreat
/- The table of carried counts, old district by new district: its rows add up to the old counts, its columns to the carried counts of the new districts. In plain words, no program in sight. No condition. -/
namespace Go.Proofs.YtlnamjhgbdacbaaGreat

/-- how many people of the first j streets are carried from the old district d to the new one k -/
def celTo (m : MapD) (d k j : Nat) : Int := sumN (fun i => if (m.S i).o = (d : Int) ∧ (m.S i).n = (k : Int) then (car m).getD i 0 else 0) j
def celT (m : MapD) (d k : Nat) : Int := celTo m d k m.ss.length
def rwTo (m : MapD) (d j : Nat) : List Int := (List.range m.nw.toNat).map fun k => celTo m d k j
def tabM (m : MapD) : List (List Int) := (List.range m.old.length).map fun d => rwTo m d m.ss.length
theorem rwTo_len (m : MapD) (d j : Nat) : (rwTo m d j).length = m.nw.toNat := by simp [rwTo]
theorem tabM_len (m : MapD) : (tabM m).length = m.old.length := by simp [tabM]
theorem rwTo_get {m : MapD} {d j k : Nat} (hk : k < m.nw.toNat) : (rwTo m d j).getD k 0 = celTo m d k j := by
  simp [rwTo, List.getD, hk]
theorem tabM_get {m : MapD} {d : Nat} (hd : d < m.old.length) : (tabM m)[d]? = some (rwTo m d m.ss.length) := by
  simp [tabM, hd]
theorem rwTo_start (m : MapD) (d : Nat) : rwTo m d 0 = List.replicate m.nw.toNat 0 := by
  refine List.ext_getElem? fun k => ?_
  simp only [rwTo, List.getElem?_map, List.getElem?_replicate]
  by_cases hk : k < m.nw.toNat
  · simp [hk, celTo, sumN_zero]
  · simp [hk]
theorem rwTo_skip {m : MapD} {d j : Nat} {s : Stt} (h : m.ss[j]? = some s) (hd : s.o ≠ (d : Int)) : rwTo m d (j + 1) = rwTo m d j := by
  unfold rwTo
  refine List.map_congr_left fun k _ => ?_
  unfold celTo
  rw [sumN_succ, MapD.S_eq h, if_neg (fun e => hd e.1)]; omega
theorem rwTo_take {m : MapD} {d j q : Nat} {s : Stt} (h : m.ss[j]? = some s) (hd : s.o = (d : Int)) (hq : s.n = (q : Int)) (_hk : q < m.nw.toNat) : rwTo m d (j + 1) = (rwTo m d j).set q ((rwTo m d j).getD q 0 + (car m).getD j 0) := by
  refine List.ext_getElem? fun k => ?_
  rw [rwTo_get _hk, List.getElem?_set]
  simp only [rwTo, List.getElem?_map, List.length_map, List.length_range]
  by_cases hk : k < m.nw.toNat
  · by_cases he : q = k
    · subst he
      simp only [hk, List.getElem?_range, Option.map_some, if_true]
      unfold celTo
      rw [sumN_succ, MapD.S_eq h, if_pos ⟨hd, hq⟩]
    · rw [if_neg he, List.getElem?_range hk]
      simp only [Option.map_some]
      unfold celTo
      rw [sumN_succ, MapD.S_eq h, if_neg (fun e => he (by omega))]
      simp
  · by_cases he : q = k
    · omega
    · rw [if_neg he, List.getElem?_eq_none (by simpa using hk)]
      rfl
theorem celTo_b {m : MapD} (ok : OkM m) (d k : Nat) : ∀ j, 0 ≤ celTo m d k j := fun j => by
  refine sumN_nonneg fun i _ => ?_
  split
  · rcases Nat.lt_or_ge i (car m).length with hi | hi
    · have hm := car_bounds ok _ (List.getElem_mem hi)
      rw [List.getD, List.getElem?_eq_getElem hi]
      exact hm.1
    · rw [List.getD, List.getElem?_eq_none hi]; exact Int.le_refl _
  · exact Int.le_refl _
theorem sum_delta {n v : Int} {K : Nat} (h0 : 0 ≤ n) (h1 : n < K) : sumN (fun k => if n = (k : Int) then v else 0) K = v := by
  have hj : n.toNat < K := by omega
  rw [sumN_one hj (fun i _ hne => if_neg (by omega)), if_pos (by omega)]
/-- each row adds up to the old count -/
theorem cel_row {m : MapD} (ok : OkM m) {d : Nat} (hd : d < m.old.length) : sumN (celT m d) m.nw.toNat = m.at_ d := by
  show sumN (fun k => sumN ((fun (k i : Nat) => if (m.S i).o = (d : Int) ∧ (m.S i).n = (k : Int) then (car m).getD i 0 else 0) k) m.ss.length) m.nw.toNat = m.at_ d
  rw [sumN_swap, ← car_sum ok hd]
  refine sumN_congr fun i hi => ?_
  obtain ⟨_, _, hn0, hn1, _⟩ := ok.sAt hi
  by_cases ho : (m.S i).o = (d : Int)
  · simp only [ho, true_and, if_true]
    exact sum_delta hn0 (by omega)
  · simp only [ho, false_and, if_false]
    exact sumN_null fun _ _ => rfl
/-- each column adds up to the carried count -/
theorem cel_col {m : MapD} (ok : OkM m) {k : Nat} (hk : k < m.nw.toNat) : sumN (fun d => celT m d k) m.old.length = (smD m (ownL m) (car m)).getD k 0 := by
  have hl := car_len m
  rw [smD_get (l := ownL m) (xs := car m) hk (fun i hi => (ok.sAt (show i < m.ss.length by omega)).2.2.1), hl]
  show sumN (fun d => sumN ((fun (d i : Nat) => if (m.S i).o = (d : Int) ∧ (m.S i).n = (k : Int) then (car m).getD i 0 else 0) d) m.ss.length) m.old.length = _
  rw [sumN_swap]
  refine sumN_congr fun i hi => ?_
  obtain ⟨ho0, ho1, _⟩ := ok.sAt hi
  by_cases hn : (m.S i).n = (k : Int)
  · simp only [ownL, hn, and_true, if_true]
    exact sum_delta ho0 ho1
  · simp only [ownL, hn, and_false, if_false]
    exact sumN_null fun _ _ => rfl
/-- no cell is greater than its row -/
theorem cel_le {m : MapD} (ok : OkM m) {d k : Nat} (hd : d < m.old.length) (hk : k < m.nw.toNat) : 0 ≤ celT m d k ∧ celT m d k ≤ m.at_ d := by
  refine ⟨celTo_b ok d k _, ?_⟩
  rw [← cel_row ok hd]
  have h1 := sumN_mono (f := celT m d) (j := k + 1) (k := m.nw.toNat) (by omega) (fun i _ => celTo_b ok d i _)
  have h2 := sumN_nonneg (f := celT m d) (k := k) (fun i _ => celTo_b ok d i _)
  rw [sumN_succ] at h1
  omega
theorem celTo_le {m : MapD} (ok : OkM m) {d k j : Nat} (hd : d < m.old.length) (hk : k < m.nw.toNat) (hj : j ≤ m.ss.length) : 0 ≤ celTo m d k j ∧ celTo m d k j ≤ 10000 := by
  refine ⟨celTo_b ok d k _, ?_⟩
  have h1 : celTo m d k j ≤ celT m d k := sumN_mono hj fun i hi => by
    split
    · have hm := car_bounds ok _ (List.getElem_mem (show i < (car m).length by rw [car_len]; exact hi))
      rw [List.getD, List.getElem?_eq_getElem (by rw [car_len]; exact hi)]
      exact hm.1
    · exact Int.le_refl _
  have h2 := cel_le ok hd hk
  have h3 := ok.atB hd
  omega
end Go.Proofs.YtlnamjhgbdacbaaGreat
/- A neighbour is a multiple of the base, and less than a base away. In plain words. -/
namespace Go.Proofs.YtlnamjhgbdacbaaGreat

theorem low_times (b o : Int) : lowOf b o = b * (o / b) := by
  unfold lowOf; rw [Int.emod_def]; omega
/-- what TopMoved asks of each sum -/
theorem near_facts {b n o : Int} (hb : 2 ≤ b) (h : nearB b n o = true) : n % b = 0 ∧ n - o < b ∧ o - n < b := by
  unfold nearB at h
  rw [Bool.or_eq_true, beq_iff_eq, beq_iff_eq] at h
  have h1 := low_le (x := o) hb
  have h2 : o < lowOf b o + b := by
    unfold lowOf
    have := Int.emod_lt_of_pos o (show 0 < b by omega)
    omega
  rcases h with h | h
  · refine ⟨?_, by omega, by omega⟩
    rw [← h, low_times]; exact Int.mul_emod_right _ _
  · have h3 : highOf b o < o + b := by
      unfold highOf
      have e := Int.emod_nonneg (o + b - 1) (show b ≠ 0 by omega)
      unfold lowOf; omega
    refine ⟨?_, by omega, by omega⟩
    rw [← h]; unfold highOf; rw [low_times]; exact Int.mul_emod_right _ _
/-- the sum of a row of the table is the old count -/
theorem tab_row {m : MapD} (ok : OkM m) {d : Nat} (hd : d < m.old.length) : (rwTo m d m.ss.length).sum = m.at_ d := by
  rw [sum_eq_sumN, rwTo_len, ← cel_row ok hd]
  exact sumN_congr fun k hk => rwTo_get hk
end Go.Proofs.YtlnamjhgbdacbaaGreat
/- The table of carried counts has a best rounding; its rows and columns add up to neighbours. In plain words. -/
namespace Go.Proofs.YtlnamjhgbdacbaaGreat

theorem tab_mem {m : MapD} {r : List Int} (h : r ∈ tabM m) : ∃ d, d < m.old.length ∧ r = rwTo m d m.ss.length := by
  unfold tabM at h
  obtain ⟨d, hd, rfl⟩ := List.mem_map.1 h
  exact ⟨d, List.mem_range.1 hd, rfl⟩
theorem tab_cols {m : MapD} (ok : OkM m) : colsOf (tabM m) = m.nw.toNat := by
  have hd := ok.d1
  cases hX : tabM m with
  | nil => have := tabM_len m; rw [hX] at this; simp at this; omega
  | cons r l =>
    obtain ⟨d, _, e⟩ := tab_mem (m := m) (r := r) (by rw [hX]; simp)
    show r.length = _
    rw [e, rwTo_len]
theorem tab_cell {m : MapD} (ok : OkM m) {r : List Int} (h : r ∈ tabM m) : ∀ x ∈ r, 0 ≤ x ∧ x ≤ 10000 := by
  obtain ⟨d, hd, rfl⟩ := tab_mem h
  intro x hx
  unfold rwTo at hx
  obtain ⟨k, hk, rfl⟩ := List.mem_map.1 hx
  exact celTo_le ok hd (List.mem_range.1 hk) (Nat.le_refl _)
theorem tab_chk0 {m : MapD} (ok : OkM m) {b : Int} (h1 : 2 ≤ b) (h2 : b ≤ 100) : chkE b (tabM m) [] = 0 := by
  have hl := tabM_len m
  have hc := tab_cols ok
  have hd1 := ok.d1
  have hd4 := ok.d4
  have hn1 := ok.n1
  have hn4 := ok.n4
  have e1 : (tabM m).all narrowB = true := List.all_eq_true.2 fun r hr => by
    obtain ⟨d, _, rfl⟩ := tab_mem hr
    unfold narrowB
    rw [rwTo_len]
    exact decide_eq_true (by omega)
  have e2 : (tabM m).all (rowB (colsOf (tabM m)) 10000) = true := List.all_eq_true.2 fun r hr => by
    unfold rowB
    rw [Bool.and_eq_true]
    refine ⟨?_, List.all_eq_true.2 fun x hx => ?_⟩
    · obtain ⟨d, _, rfl⟩ := tab_mem hr
      rw [rwTo_len, hc]
      simp
    · have := tab_cell ok hr x hx
      simp [withinB, this]
  unfold chkE
  rw [e1, e2, hc]
  have e3 : withinB b 2 100 = true := by simp [withinB]; omega
  have e4 : decide (5 < ((tabM m).length : Int)) = false := by simp; omega
  have e5 : ((m.nw.toNat : Int) == 0) = false := by simp; omega
  rw [e3, e4, e5]
  rfl
theorem tab_ways0 {m : MapD} (ok : OkM m) {b : Int} (h1 : 2 ≤ b) (h2 : b ≤ 100) : (spec b (tabM m) [] (tabM m).length zeroS).ways ≠ 0 := fun h => by
  obtain ⟨x, hx⟩ := plain_rounding (chk_ok (tab_chk0 ok h1 h2))
  exact none_plain h hx
/-- the best rounding of the table -/
def bstT (m : MapD) (b : Int) : List (List Int) := bestOf b (tabM m) [] (tabM m).length zeroS
section
variable {m : MapD} {b : Int}
theorem bst_len : (bstT m b).length = m.old.length := by unfold bstT; rw [bestOf_len, tabM_len]
theorem bst_isR (ok : OkM m) (h1 : 2 ≤ b) (h2 : b ≤ 100) : IsR b (tabM m) [] (bstT m b) := best_isR (tab_ways0 ok h1 h2)
theorem bst_row (ok : OkM m) (h1 : 2 ≤ b) (h2 : b ≤ 100) {d : Nat} {xs : List Int} (hx : (bstT m b)[d]? = some xs) :
    xs.length = m.nw.toNat ∧ (∀ (i : Nat) (v : Int), xs[i]? = some v → v % b = 0 ∧ 1 - b ≤ v - celT m d i ∧ v - celT m d i ≤ b - 1) ∧ xs.sum % b = 0 ∧ xs.sum - m.at_ d < b ∧ m.at_ d - xs.sum < b := by
  have hd : d < m.old.length := by rw [← bst_len (m := m) (b := b)]; exact (List.getElem?_eq_some_iff.1 hx).1
  obtain ⟨g1, g2⟩ := best_near h1 (tab_ways0 ok h1 h2) hx (tabM_get hd)
  rw [rwTo_len] at g1
  refine ⟨g1, fun i v hv => ?_, ?_⟩
  · have hi : i < m.nw.toNat := by have := (List.getElem?_eq_some_iff.1 hv).1; omega
    refine g2 i _ v ?_ hv
    unfold rwTo
    rw [List.getElem?_map, List.getElem?_range hi]; rfl
  · obtain ⟨_, ht⟩ := (bst_isR ok h1 h2).row d _ xs (tabM_get hd) hx
    unfold testB at ht
    rw [Bool.and_eq_true, tab_row ok hd] at ht
    exact near_facts h1 ht.1
theorem bst_bound (ok : OkM m) (h1 : 2 ≤ b) (h2 : b ≤ 100) {d : Nat} {xs : List Int} (hx : (bstT m b)[d]? = some xs) : ∀ v ∈ xs, 0 ≤ v ∧ v ≤ 10100 := by
  obtain ⟨g1, _⟩ := bst_row ok h1 h2 hx
  have hd : d < (tabM m).length := by rw [tabM_len, ← bst_len (m := m) (b := b)]; exact (List.getElem?_eq_some_iff.1 hx).1
  have hg := bestOf_get (b := b) (cs := tabM m) (fs := []) d 0 (tabM m).length (by omega) hd
  simp only [Nat.zero_add] at hg
  have e0 : sAt b (tabM m) [] 0 = zeroS := rfl
  unfold bstT at hx
  rw [e0, hx] at hg
  injection hg with hg
  subst hg
  exact (bnd_spec (chk_ok (tab_chk0 ok h1 h2)) ((tabM m).length - d) (by omega) _).1.cell
theorem tab_col {k : Nat} (ok : OkM m) (hk : k < m.nw.toNat) : colTo (tabM m) (tabM m).length k = (smD m (ownL m) (car m)).getD k 0 := by
  rw [← cel_col ok hk, tabM_len]
  unfold colTo
  rw [range_sm]
  have e : ∀ (f g : Nat → Int) n, (∀ i, i < n → f i = g i) → sm n f = sumN g n := fun f g n h => by
    induction n with
    | zero => rfl
    | succ n ih => rw [sm, sumN_succ, ih fun i hi => h i (by omega), h n (by omega)]
  refine e _ _ _ fun d hd => ?_
  rw [show (tabM m).getD d [] = rwTo m d m.ss.length by rw [List.getD, tabM_get hd]; rfl, rwTo_get hk]; rfl
theorem bst_col (ok : OkM m) (h1 : 2 ≤ b) (h2 : b ≤ 100) {k : Nat} (hk : k < m.nw.toNat) {x y : Int} (hx : x = colTo (bstT m b) (bstT m b).length k) (hy : (smD m (ownL m) (car m))[k]? = some y) :
    x % b = 0 ∧ x - y < b ∧ y - x < b := by
  have hR := bst_isR ok h1 h2
  have hc := tab_cols ok
  have hn4 := ok.n4
  have hcl := hR.close
  rw [closes_all (fun r hr => by
    obtain ⟨d, _, rfl⟩ := tab_mem hr
    rw [rwTo_len, hc]) (fun r hr => by
    obtain ⟨i, hi⟩ := List.getElem?_of_mem hr
    rw [(bst_row ok h1 h2 hi).1, hc]) (by omega), Bool.and_eq_true, List.all_eq_true, hc] at hcl
  have h := hcl.1 k (List.mem_range.2 hk)
  rw [tab_col ok hk, ← hx, List.getD, hy] at h
  exact near_facts h1 h
/-- the sums of the columns, when r rows and c numbers of the next are added -/
def colsL (m : MapD) (b : Int) (r c : Nat) : List Int := (List.range m.nw.toNat).map fun i => colF (bstT m b) r c i
theorem colsL_len (r c : Nat) : (colsL m b r c).length = m.nw.toNat := by simp [colsL]
theorem colsL_zero : colsL m b 0 0 = List.replicate m.nw.toNat 0 := by
  refine List.ext_getElem? fun k => ?_
  simp only [colsL, List.getElem?_map, List.getElem?_replicate]
  by_cases hk : k < m.nw.toNat
  · simp [hk, colF, colTo]
  · simp [hk]
theorem colsL_next (r : Nat) : colsL m b r m.nw.toNat = colsL m b (r + 1) 0 := by
  unfold colsL
  refine List.map_congr_left fun i hi => ?_
  have hi := List.mem_range.1 hi
  unfold colF
  rw [if_pos hi, if_neg (Nat.not_lt_zero _)]
  unfold colTo
  rw [List.range_succ, List.map_append, List.sum_append]
  simp
theorem colsL_get {r c k : Nat} (hk : k < m.nw.toNat) : (colsL m b r c)[k]? = some (colF (bstT m b) r c k) := by
  unfold colsL
  rw [List.getElem?_map, List.getElem?_range hk]; rfl
theorem colsL_step {r c : Nat} {xs : List Int} {x : Int} (hc : c < m.nw.toNat) (hr : (bstT m b)[r]? = some xs) (hx : xs[c]? = some x) : colsL m b r (c + 1) = (colsL m b r c).set c (colF (bstT m b) r c c + x) := by
  have hxx : ((bstT m b).getD r []).getD c 0 = x := by
    rw [List.getD, List.getD, hr]; simp only [Option.getD_some]; rw [hx]; rfl
  refine List.ext_getElem? fun k => ?_
  rw [List.getElem?_set]
  by_cases hk : k < m.nw.toNat
  · rw [colsL_get hk]
    by_cases he : c = k
    · subst he
      rw [if_pos rfl, if_pos (by rw [colsL_len]; exact hk)]
      unfold colF
      rw [if_pos (Nat.lt_succ_self _), if_neg (Nat.lt_irrefl _), hxx, Int.add_zero]
    · rw [if_neg he, colsL_get hk]
      unfold colF
      by_cases h : k < c
      · rw [if_pos h, if_pos (by omega)]
      · rw [if_neg h, if_neg (by omega)]
  · rw [List.getElem?_eq_none (by rw [colsL_len]; omega)]
    by_cases he : c = k
    · omega
    · rw [if_neg he, List.getElem?_eq_none (by rw [colsL_len]; omega)]
theorem colF_bound (ok : OkM m) (h1 : 2 ≤ b) (h2 : b ≤ 100) {r c k : Nat} (hr : r ≤ m.old.length) : 0 ≤ colF (bstT m b) r c k ∧ colF (bstT m b) r c k ≤ 60000 := by
  have hd4 := ok.d4
  have hc : ∀ i, 0 ≤ ((bstT m b).getD i []).getD k 0 ∧ ((bstT m b).getD i []).getD k 0 ≤ 10100 := fun i => by
    rw [List.getD, List.getD]
    cases h : (bstT m b)[i]? with
    | none => simp
    | some xs =>
      simp only [Option.getD_some]
      cases h3 : xs[k]? with
      | none => simp
      | some v => simp only [Option.getD_some]; exact bst_bound ok h1 h2 h v (List.mem_of_getElem? h3)
  have hs := sum_range_bounds (M := 10100) (f := fun i => ((bstT m b).getD i []).getD k 0) (r := r) (fun i _ => hc i)
  unfold colF colTo
  have := hc r
  have hr4 : (r : Int) * 10100 ≤ 4 * 10100 := by omega
  split <;> omega
end
end Go.Proofs.YtlnamjhgbdacbaaGreat
/- The table of carried counts while it is laid: the argument's box, the table's box, its rows. Conditions stand at each theorem. -/
namespace Go.Proofs.YtlnamjhgbdacbaaGreat
open Go.RowKit Go.Shelf

/-- the table in its box, when k rows lie in it; the argument's box -/
structure XM (m : MapD) (A : Option Addr) (c : Nat) (A2 : Option Addr) (c2 : Nat) (A3 : Option Addr) (c3 : Nat) (b : Int) (Bx : Nat) (X : List (List Int)) (k : Nat) (v : Value) (w w4 W : World) : Prop where
  tb : Blk W w.heap.size 26 #[.slice A m.old.length c, .int .i64 m.nw, .slice A2 m.ss.length c2, .slice A3 m.js.length c3]
  bx : Blk W Bx 41 #[.int .i64 b, v, .slice none 0 0]
  rows : Rows_ Bx v k X W
  below : Below w.heap.size w W
  up : Below Bx w4 W
  ne : w.heap.size + 1 ≤ Bx
theorem XM.at_ {m : MapD} {A : Option Addr} {c : Nat} {A2 : Option Addr} {c2 : Nat} {A3 : Option Addr} {c3 : Nat} {b : Int} {Bx : Nat} {X : List (List Int)} {k : Nat} {v : Value} {w w4 W W' : World}
    (h : XM m A c A2 c2 A3 c3 b Bx X k v w w4 W) (hb : Below W.heap.size W W') : XM m A c A2 c2 A3 c3 b Bx X k v w w4 W' :=
  ⟨h.tb.keep hb, h.bx.keep hb, h.rows.below hb, h.below.trans (hb.mono h.below.size), h.up.trans (hb.mono (Nat.le_of_lt h.bx.lt)), h.ne⟩
/-- a row more -/
theorem XM.next {m : MapD} {A : Option Addr} {c : Nat} {A2 : Option Addr} {c2 : Nat} {A3 : Option Addr} {c3 : Nat} {b : Int} {Bx : Nat} {X : List (List Int)} {k : Nat} {v v' : Value} {w w4 W W1 W2 : World} {xs : List Int} {A5 : Option Addr} {c5 : Nat} {vs : List Value}
    (h : XM m A c A2 c2 A3 c3 b Bx X k v w w4 W) (hx : X[k]? = some xs) (hg : Good (fun _ => False) W ⟨0, 0, xs⟩ A5 c5) (hb : Below W.heap.size W W1)
    (ho : W1.ownsRow Bx 22 1 v k vs) (hvs : ∀ i x, i < k → X[i]? = some x → ∃ A c, vs[i]? = some (.slice A x.length c) ∧ Good (fun _ => False) W1 ⟨0, 0, x⟩ A c)
    (hgr : W1.grownBy W2 v.ownBlock) (hown : W2.ownsRow Bx 22 1 v' (k + 1) (vs ++ [.slice A5 xs.length c5])) :
    XM m A c A2 c2 A3 c3 b Bx X (k + 1) v' w w4 (W2.setCell ⟨Bx, 1, none⟩ v') := by
  have h1 := h.at_ hb
  have hg1 := hg.below hb
  have hbx2 := h1.bx.row ho (by decide) hgr
  have htb2 := h1.tb.row ho (by decide) hgr
  have hgs := grown_of_set W2 ⟨Bx, 1, none⟩ v'
  have hk7 : Keep (fun q => q = Bx) W2 (W2.setCell ⟨Bx, 1, none⟩ v') := Keep.of_grown hgs rfl
  have hne := h.ne
  refine ⟨hk7.blk htb2 (by omega), hbx2.set_ 1 v', ⟨_, hown.kept hgs (own_ne hown (blk_not hbx2 (by decide))), fun i x hi hxi => ?_⟩, ?_, ?_, h.ne⟩
  · by_cases hij : i < k
    · obtain ⟨Ai, ci, q1, q2⟩ := hvs i x hij hxi
      have : vs.length = k := by have := ho.1; omega
      exact ⟨Ai, ci, by rw [List.getElem?_append_left (by omega)]; exact q1, (q2.row ho (by decide) hgr).set_ hbx2 (by decide) hk7⟩
    · obtain rfl : i = k := by omega
      rw [hx] at hxi
      injection hxi with hxi
      subst hxi
      have : vs.length = i := by have := ho.1; omega
      exact ⟨A5, c5, by rw [List.getElem?_append_right (by omega), this]; simp, (hg1.row ho (by decide) hgr).set_ hbx2 (by decide) hk7⟩
  · exact (below_row h1.below ho (by omega) hgr h1.below.size).setCell (p := ⟨Bx, 1, none⟩) (by show w.heap.size ≤ Bx; omega) _
  · exact (below_row h1.up ho (Nat.le_refl _) hgr (Nat.le_of_lt h1.bx.lt)).setCell (p := ⟨Bx, 1, none⟩) (Nat.le_refl _) _
/-- a row in a block of its own -/
theorem good_blk {W : World} {g : Nat} {xs : List Int} (h : Blk W g 3 (intC xs)) (hm : xs.length ≤ maxLen) : Good (fun _ => False) W ⟨0, 0, xs⟩ (some ⟨g, 0, none⟩) xs.length :=
  ⟨fun k x hk => ⟨_, rfl, h.lt, by rw [add_blk, h.cell]; exact intC_get hk⟩, fun a e => by
    injection e with e
    subst e
    exact ⟨⟨_, h⟩, id⟩, Nat.le_refl _, hm, fun e => by cases e⟩
theorem row_new (w : World) (n : Nat) : Blk (w.alloc (.cells (madeCells #[.int .i64 0] n) 3)) w.heap.size 3 (intC (List.replicate n 0)) := by
  rw [← intC_zero]
  exact Blk.new _ _ _
end Go.Proofs.YtlnamjhgbdacbaaGreat
/- walk's all: whether each element of a list passes a test. -/
namespace Go.Proofs.YtlnamjhgbdacbaaGreat
open Go.RowKit Go.Shelf

set_option maxRecDepth 10000 in
set_option maxHeartbeats 400000 in
theorem wall_int1 (g : Nat) (bnd cap : Array Value) (B : Nat) (t : Bool) (x : Int) (W : World) (eg : ∀ args w, (callFunc g args).run Tryz.prog w = .ok (.enter g args) w) (hB : Blk W B 105 #[.func (.func g) bnd cap])
    (hp : Calls Tryz.prog g (bnd.push (.int .i64 x) ++ cap) W fun e W' => e = .returned (.bool t) ∧ Below W.heap.size W W') :
    Calls Tryz.prog 73 #[.int .i64 x, .pointer (some ⟨B, 0, none⟩)] W fun e W' => e = .returned (.bool (!t)) ∧ Below W.heap.size W W' := by
  have c0 := hB.c1
  have HP := hid hp
  clear hp hB
  go_enter Tryz.func73, Tryz.ntmps73
  go_wp2_with fail
  refine HP.out.mono ?_
  rintro e w2 ⟨rfl, hb2⟩
  go_wp2
  go_ret
  exact ⟨rfl, hb2⟩


set_option maxHeartbeats 400000 in
theorem wall_int (p : Int → Bool) (A : Option Addr) (c : Nat) (xs : List Int) (w : World) (h : IsInts w w.heap.size A xs) (hl : xs.length ≤ c) (hm : c ≤ maxLen)
    (g : Nat) (bnd cap : Array Value) (eg : ∀ args w, (callFunc g args).run Tryz.prog w = .ok (.enter g args) w) (hp : PredI g bnd cap p xs w) :
    Calls Tryz.prog 46 #[.slice A xs.length c, .func (.func g) bnd cap] w fun e w' => e = .returned (.bool (xs.all p)) ∧ Below w.heap.size w w' := by
  have hB : Below w.heap.size w (w.alloc (.cells #[.func (.func g) bnd cap] 105)) := (Below.refl _ _).alloc (Nat.le_refl _) _
  have HI := hid (has_int (fun x => !p x) A c xs _ (h.at_ hB) hl hm 73 #[] #[.pointer (some ⟨w.heap.size, 0, none⟩)] (enters_of Tryz.func73 (by kernel_rfl) rfl)
    (fun W x hW hx => wall_int1 g bnd cap w.heap.size (p x) x W eg ((Blk.new _ _ _).keep hW) (hp W x (hB.trans (hW.mono hB.size)) hx)))
  have HN : Hid ((!xs.any fun x => !p x) = xs.all p) := hid (by simp [List.all_eq_not_any_not])
  clear hp h eg
  go_enter Tryz.func46, Tryz.ntmps46
  go_wp2_with fail
  refine HI.out.mono ?_
  rintro e w2 ⟨rfl, hb2⟩
  go_wp2
  go_ret
  exact ⟨by rw [← HN.out]; rfl, hB.trans (hb2.mono hB.size)⟩


set_option maxRecDepth 10000 in
set_option maxHeartbeats 400000 in
theorem wall_rng1 (g : Nat) (bnd cap : Array Value) (B : Nat) (t : Bool) (x : Jn) (W : World) (eg : ∀ args w, (callFunc g args).run Tryz.prog w = .ok (.enter g args) w) (hB : Blk W B 161 #[.func (.func g) bnd cap])
    (hp : ∀ W1, Below W.heap.size W W1 → Calls Tryz.prog g (bnd.push (.agg #[.int .i64 x.a, .int .i64 x.b]) ++ cap) W1 fun e W' => e = .returned (.bool t) ∧ Below W1.heap.size W1 W') :
    Calls Tryz.prog 106 #[.agg #[.int .i64 x.a, .int .i64 x.b], .pointer (some ⟨B, 0, none⟩)] W fun e W' => e = .returned (.bool (!t)) ∧ Below W.heap.size W W' := by
  have c0 := hB.c1
  have hlt := hB.lt
  have hbW : Below W.heap.size W (W.alloc (.cells #[.int .i64 x.a, .int .i64 x.b] 87)) := (Below.refl _ _).alloc (Nat.le_refl _) _
  have HP := hid (hp _ hbW)
  clear hp hB
  go_enter Tryz.func106, Tryz.ntmps106
  go_wp2_with fail
  refine HP.out.mono ?_
  rintro e w2 ⟨rfl, hb2⟩
  go_wp2
  go_ret
  exact ⟨rfl, hbW.trans (hb2.mono hbW.size)⟩


set_option maxRecDepth 10000 in
set_option maxHeartbeats 400000 in
theorem widx_rng (f : Value) (q : Jn → Bool) (A : Option Addr) (c : Nat) (xs : List Jn) (w : World) (h : IsJns w w.heap.size A xs) (hl : xs.length ≤ c) (hm : c ≤ maxLen)
    (g : Nat) (bnd cap : Array Value) (hf : f = .func (.func g) bnd cap) (eg : ∀ args w, (callFunc g args).run Tryz.prog w = .ok (.enter g args) w) (hp : PredJ g bnd cap q xs w) :
    Calls Tryz.prog 120 #[.slice A xs.length c, f] w fun e w' => e = .returned (.int .i64 (idxOf q xs)) ∧ Below w.heap.size w w' := by
  subst hf
  unfold maxLen at hm
  have HP := hid hp
  clear hp
  go_enter Tryz.func120, Tryz.ntmps120
  go_wp2
  go_loopw [8] (fun i wr => ∃ k : Nat, k ≤ xs.length ∧ i = .int .i64 k ∧ Below w.heap.size w wr ∧ (xs.take k).any q = false) (fun i _ => xs.length - (intOf i).toNat)
  case atStart => exact ⟨0, Nat.zero_le _, rfl, Below.refl _ _, rfl⟩
  case round =>
    obtain ⟨k, hk, rfl, hbr, hno⟩ := hrel
    have HN := hid hno; clear hno
    by_cases hlt : k < xs.length
    · obtain ⟨a, rfl, hb, f0, f1⟩ := h.below hbr k xs[k] (List.getElem?_eq_getElem hlt)
      have HC := hid (HP.out wr xs[k] hbr (List.getElem_mem hlt))
      have HH := hid (@idxOf_hit Jn q xs k hlt)
      have HT := hid (any_take q xs k hlt)
      generalize xs[k] = x at *
      cases hq : q x
      all_goals
        have HQ := hid hq
        clear hq
        go_wp2_with fail
        refine HC.out.mono ?_
        rintro e w2 ⟨rfl, hb2⟩
        rw [HQ.out]
        go_wp2
      · go_roundw
        case rel => exact ⟨k + 1, by omega, by go_num, hbr.trans (hb2.mono hbr.size), by rw [HT.out, HN.out, HQ.out]; rfl⟩
        case measure => simp [intOf]; omega
      · go_ret
        exact ⟨by rw [HH.out HN.out HQ.out]; rfl, hbr.trans (hb2.mono hbr.size)⟩
    · obtain rfl : k = xs.length := by omega
      rw [List.take_length] at HN
      have HM := hid (idxOf_miss HN.out)
      go_wp2
      go_ret
      exact ⟨by rw [HM.out]; rfl, hbr⟩


set_option maxHeartbeats 400000 in
theorem whas_rng (q : Jn → Bool) (A : Option Addr) (c : Nat) (xs : List Jn) (w : World) (h : IsJns w w.heap.size A xs) (hl : xs.length ≤ c) (hm : c ≤ maxLen)
    (g : Nat) (bnd cap : Array Value) (eg : ∀ args w, (callFunc g args).run Tryz.prog w = .ok (.enter g args) w) (hp : PredJ g bnd cap q xs w) :
    Calls Tryz.prog 105 #[.slice A xs.length c, .func (.func g) bnd cap] w fun e w' => e = .returned (.bool (xs.any q)) ∧ Below w.heap.size w w' := by
  have HI := hid (widx_rng _ q A c xs w h hl hm g bnd cap rfl eg hp)
  have HN := hid (idxOf_nonneg q xs)
  clear hp h eg
  go_enter Tryz.func105, Tryz.ntmps105
  go_wp2_with fail
  refine HI.out.mono ?_
  rintro e w2 ⟨rfl, hb2⟩
  go_wp2
  go_ret
  exact ⟨by rw [← HN.out]; rfl, hb2⟩


set_option maxHeartbeats 400000 in
theorem wall_rng (p : Jn → Bool) (A : Option Addr) (c : Nat) (xs : List Jn) (w : World) (h : IsJns w w.heap.size A xs) (hl : xs.length ≤ c) (hm : c ≤ maxLen)
    (g : Nat) (bnd cap : Array Value) (eg : ∀ args w, (callFunc g args).run Tryz.prog w = .ok (.enter g args) w) (hp : PredJ g bnd cap p xs w) :
    Calls Tryz.prog 67 #[.slice A xs.length c, .func (.func g) bnd cap] w fun e w' => e = .returned (.bool (xs.all p)) ∧ Below w.heap.size w w' := by
  have hB : Below w.heap.size w (w.alloc (.cells #[.func (.func g) bnd cap] 161)) := (Below.refl _ _).alloc (Nat.le_refl _) _
  have HI := hid (whas_rng (fun x => !p x) A c xs _ (h.at_ hB) hl hm 106 #[] #[.pointer (some ⟨w.heap.size, 0, none⟩)] (enters_of Tryz.func106 (by kernel_rfl) rfl)
    (fun W x hW hx => wall_rng1 g bnd cap w.heap.size (p x) x W eg ((Blk.new _ _ _).keep hW) (fun W1 h1 => hp W1 x (hB.trans ((hW.trans (h1.mono hW.size)).mono hB.size)) hx)))
  have HN : Hid ((!xs.any fun x => !p x) = xs.all p) := hid (by simp [List.all_eq_not_any_not])
  clear hp h eg
  go_enter Tryz.func67, Tryz.ntmps67
  go_wp2_with fail
  refine HI.out.mono ?_
  rintro e w2 ⟨rfl, hb2⟩
  go_wp2
  go_ret
  exact ⟨by rw [← HN.out]; rfl, hB.trans (hb2.mono hB.size)⟩
end Go.Proofs.YtlnamjhgbdacbaaGreat
/- The walk package's small tests: within, inside, work, place, has. Conditions stand at each theorem. -/
namespace Go.Proofs.YtlnamjhgbdacbaaGreat
open Go.RowKit Go.Shelf

set_option maxHeartbeats 400000 in
theorem wwithin_any (n lo hi : Int) (w : World) : Calls Tryz.prog 70 #[.int .i64 n, .int .i64 lo, .int .i64 hi] w fun e w' => e = .returned (.bool (inB n lo hi)) ∧ w = w' := by
  by_cases h1 : lo ≤ n
  · have hd : inB n lo hi = decide (n ≤ hi) := by simp [inB, h1]
    rw [hd]; clear hd
    go_enter Tryz.func70, Tryz.ntmps70
    go_wp2
    go_ret
    exact ⟨rfl, rfl⟩
  · have hd : inB n lo hi = false := by simp [inB, h1]
    rw [hd]; clear hd
    go_enter Tryz.func70, Tryz.ntmps70
    go_wp2
    go_ret
    exact ⟨rfl, rfl⟩
def wrngB (lo hi low top : Int) : Bool := decide (low ≤ lo) && decide (lo ≤ hi) && decide (hi ≤ top)
set_option maxHeartbeats 400000 in
theorem winside_any (lo hi low top : Int) (w : World) : Calls Tryz.prog 107 #[.agg #[.int .i64 lo, .int .i64 hi], .int .i64 low, .int .i64 top] w fun e w' => e = .returned (.bool (wrngB lo hi low top)) ∧ Below w.heap.size w w' := by
  by_cases h1 : low ≤ lo
  · by_cases h2 : lo ≤ hi
    · have hd : wrngB lo hi low top = decide (hi ≤ top) := by simp [wrngB, h1, h2]
      rw [hd]; clear hd
      go_enter Tryz.func107, Tryz.ntmps107
      go_wp2
      go_ret
      exact ⟨rfl, below_box _ _⟩
    · have hd : wrngB lo hi low top = false := by simp [wrngB, h2]
      rw [hd]; clear hd
      have h2 : decide (lo ≤ hi) = false := by simp; omega
      go_enter Tryz.func107, Tryz.ntmps107
      go_wp2
      go_ret
      exact ⟨rfl, below_box _ _⟩
  · have hd : wrngB lo hi low top = false := by simp [wrngB, h1]
    rw [hd]; clear hd
    have h1 : decide (low ≤ lo) = false := by simp; omega
    go_enter Tryz.func107, Tryz.ntmps107
    go_wp2
    go_ret
    exact ⟨rfl, below_box _ _⟩
set_option maxHeartbeats 400000 in
theorem wwork_any (lo hi : Int) (w : World) : Calls Tryz.prog 68 #[.agg #[.int .i64 lo, .int .i64 hi]] w fun e w' => e = .returned (.bool (wrngB lo hi 0 50)) ∧ Below w.heap.size w w' := by
  have hB := below_box (w := w) #[.int .i64 lo, .int .i64 hi] 87
  have HB := hid hB
  clear hB
  go_enter Tryz.func68, Tryz.ntmps68
  go_wp2_with fail
  refine (winside_any _ _ _ _ _).mono ?_
  rintro e w2 ⟨rfl, hb2⟩
  have HB2 := hid (HB.out.trans (hb2.mono HB.out.size))
  clear hb2
  go_wp2
  go_ret
  exact ⟨rfl, HB2.out⟩
set_option maxHeartbeats 400000 in
theorem wplace_any (A : Option Addr) (n c : Nat) (v2 : Value) (k : Int) (w : World) (hn : n ≤ 1000000) : Calls Tryz.prog 42 #[.agg #[.slice A n c, v2], .int .i64 k] w fun e w' => e = .returned (.bool (inB k 0 ((n : Int) - 1))) ∧ Below w.heap.size w w' := by
  have hB := below_box (w := w) #[.slice A n c, v2] 65
  have HB := hid hB
  clear hB
  go_enter Tryz.func42, Tryz.ntmps42
  go_wp2_with fail
  refine (wwithin_any _ _ _ _).mono ?_
  rintro e w2 ⟨rfl, rfl⟩
  go_wp2
  go_ret
  exact ⟨rfl, HB.out⟩
set_option maxHeartbeats 1000000 in
theorem has_one (k : Nat) (hk : k < 8) (w : World) : Calls Tryz.prog 104 #[.int .i64 1, .int .i64 k] w fun e w' => e = .returned (.bool (decide (k = 0))) ∧ w = w' := by
  match k, hk with
  | 0, _ => 
    go_enter Tryz.func104, Tryz.ntmps104
    go_wp2
    go_ret
    exact ⟨rfl, rfl⟩
  | 1, _ => 
    go_enter Tryz.func104, Tryz.ntmps104
    go_wp2
    go_ret
    exact ⟨rfl, rfl⟩
  | 2, _ => 
    go_enter Tryz.func104, Tryz.ntmps104
    go_wp2
    go_ret
    exact ⟨rfl, rfl⟩
  | 3, _ => 
    go_enter Tryz.func104, Tryz.ntmps104
    go_wp2
    go_ret
    exact ⟨rfl, rfl⟩
  | 4, _ => 
    go_enter Tryz.func104, Tryz.ntmps104
    go_wp2
    go_ret
    exact ⟨rfl, rfl⟩
  | 5, _ => 
    go_enter Tryz.func104, Tryz.ntmps104
    go_wp2
    go_ret
    exact ⟨rfl, rfl⟩
  | 6, _ => 
    go_enter Tryz.func104, Tryz.ntmps104
    go_wp2
    go_ret
    exact ⟨rfl, rfl⟩
  | 7, _ => 
    go_enter Tryz.func104, Tryz.ntmps104
    go_wp2
    go_ret
    exact ⟨rfl, rfl⟩
end Go.Proofs.YtlnamjhgbdacbaaGreat
/- The list of a set: the places whose bit is one, rising. Conditions stand at each theorem. -/
namespace Go.Proofs.YtlnamjhgbdacbaaGreat
open Go.RowKit Go.Shelf

def plTo (p : Nat → Bool) (k : Nat) : List Int := ((List.range k).filter p).map fun d : Nat => (d : Int)
theorem plTo_in {p : Nat → Bool} {k : Nat} (h : p k = true) : plTo p (k + 1) = plTo p k ++ [(k : Int)] := by simp [plTo, List.range_succ, h]
theorem plTo_out {p : Nat → Bool} {k : Nat} (h : p k = false) : plTo p (k + 1) = plTo p k := by simp [plTo, List.range_succ, h]
theorem plTo_len (p : Nat → Bool) (k : Nat) : (plTo p k).length ≤ k := by
  have := List.length_filter_le p (List.range k)
  simp [plTo] at this ⊢
  exact this
set_option maxRecDepth 100000 in
set_option maxHeartbeats 2000000 in
theorem wlist_any (s : Int) (p : Nat → Bool) (hp : ∀ k : Nat, k < 8 → ∀ W, Calls Tryz.prog 104 #[.int .i64 s, .int .i64 k] W fun e w' => e = .returned (.bool (p k)) ∧ W = w') (w : World) :
    Calls Tryz.prog 66 #[.int .i64 s] w (GivesInts (plTo p 8) w) := by
  have HP := hid hp
  clear hp
  go_enter Tryz.func66, Tryz.ntmps66
  go_wp2
  go_loopw [2, 4] (fun v i W => ∃ k : Nat, k ≤ 8 ∧ i = .int .i64 k ∧ W.ownsRow w.heap.size 3 1 v (plTo p k).length ((plTo p k).map (Value.int .i64)) ∧ Below w.heap.size w W) (fun _ i _ => 8 - (intOf i).toNat)
  case atStart => exact ⟨0, Nat.zero_le _, rfl, ⟨rfl, .inl ⟨rfl, rfl⟩⟩, Below.refl _ _⟩
  case round =>
    obtain ⟨k, hk, rfl, ho, hbr⟩ := hrel
    have HR := hid (And.intro ho hbr)
    clear ho hbr
    by_cases hlt : k < 8
    · have hkI : (k : Int) < 8 := by omega
      have hml := plTo_len p k
      have hsz := HR.out.2.size
      have KN := HP.out k hlt wr
      cases hcb : p k
      · have HST := hid (plTo_out hcb)
        rw [hcb] at KN
        have KN := hid KN
        clear hcb
        go_wp2_with fail
        refine KN.out.mono ?_
        rintro e w5 ⟨rfl, rfl⟩
        have HNX := hid (show wr.ownsRow w.heap.size 3 1 u2 (plTo p (k + 1)).length ((plTo p (k + 1)).map (Value.int .i64)) ∧ Below w.heap.size w wr from ⟨by rw [HST.out]; exact HR.out.1, HR.out.2⟩)
        clear KN
        go_wp2
        go_roundw
        case rel => exact ⟨k + 1, by omega, by go_num, HNX.out⟩
        case measure => first | (simp [intOf]; done) | (simp [intOf]; omega)
      · have HST := hid (plTo_in hcb)
        rw [hcb] at KN
        have KN := hid KN
        clear hcb
        go_wp2_with fail
        refine KN.out.mono ?_
        rintro e w5 ⟨rfl, rfl⟩
        have HO := hid (HR.out.1.alloc (.cells #[.int .i64 (k : Int)] 3))
        obtain ⟨i0, hi0, hz0, hz1, hz2⟩ := info_parts int_info
        clear KN
        go_wp2_with (at_builtin; refine wpList_append_own_at _ rfl _ _ 22 rfl w.heap.size 3 i0 (.int .i64 0) 1 8 Tryz.underlying22 hi0 hz0 hz1 hz2 rfl (by decide) u2 _ _ rfl HO.out ⟨wr.heap.size, 0, none⟩ 1 1 [.int .i64 (k : Int)] rfl rfl (by intro q u hq; cases q with | zero => simp at hq; subst hq; exact (World.cell?_alloc_new _ _ _ _) | succ q => simp at hq) (by intro u hu; simp at hu; subst hu; rfl) (by simp only [maxLen]; omega) (by omega) (by simp; omega) ?_; intro vo' w6 hown' hgrow _ hfr; have HNX := hid (show w6.ownsRow w.heap.size 3 1 vo' (plTo p (k + 1)).length ((plTo p (k + 1)).map (Value.int .i64)) ∧ Below w.heap.size w w6 from ⟨by rw [HST.out, List.length_append, List.map_append]; exact hown', below_row' (HR.out.2.trans ((below_box _ _).mono HR.out.2.size)) HO.out (Nat.le_refl _) hgrow (by simp; omega)⟩); clear hown' hgrow hfr)
        go_roundw
        case rel => exact ⟨k + 1, by omega, by go_num, HNX.out⟩
        case measure => first | (simp [intOf]; done) | (simp [intOf]; omega)
    · have hkI : decide ((k : Int) < 8) = false := by simp; omega
      obtain rfl : k = 8 := by omega
      obtain ⟨A7, c7, e7, r1, r2, r3, r4, r5⟩ := own_ints rfl HR.out.1
      subst e7
      have HFIN := hid (show GivesInts (plTo p 8) w (.returned (.slice A7 (plTo p 8).length c7)) wr from ⟨A7, c7, rfl, r1, r2, r3, r4, r5, HR.out.2⟩)
      clear r1 r2 r3 r4 r5 HR
      go_wp2
      go_ret
      exact HFIN.out
theorem wlist_one (w : World) : Calls Tryz.prog 66 #[.int .i64 1] w (GivesInts [0] w) := wlist_any 1 (fun k => decide (k = 0)) has_one w
end Go.Proofs.YtlnamjhgbdacbaaGreat
/- CheckMap, rises and the test of places, on a map without roads. Conditions stand at each theorem. -/
namespace Go.Proofs.YtlnamjhgbdacbaaGreat
open Go.RowKit Go.Shelf

set_option maxRecDepth 100000 in
set_option maxHeartbeats 1000000 in
theorem wroads_none (A : Option Addr) (n c : Nat) (w : World) : Calls Tryz.prog 69 #[.agg #[.slice A n c, .slice none 0 0]] w fun e w' => e = .returned (.bool true) ∧ Below w.heap.size w w' := by
  have hB := below_box (w := w) #[.slice A n c, .slice none 0 0] 65
  have HB := hid hB
  clear hB
  go_enter Tryz.func69, Tryz.ntmps69
  go_wp2
  go_rounds 1
  go_ret
  exact ⟨rfl, HB.out⟩
set_option maxRecDepth 100000 in
set_option maxHeartbeats 2000000 in
theorem wcheck_plain (A : Option Addr) (c : Nat) (xs : List Jn) (w : World) (h : IsJns w w.heap.size A xs) (hl : xs.length ≤ c) (hm : c ≤ maxLen) (h1 : 1 ≤ xs.length) (h8 : xs.length ≤ 8) (ha : xs.all (fun x => wrngB x.a x.b 0 50) = true) :
    Calls Tryz.prog 41 #[.agg #[.slice A xs.length c, .slice none 0 0]] w fun e w' => e = .returned (.int .i64 0) ∧ Below w.heap.size w w' := by
  have hB := below_box (w := w) #[.slice A xs.length c, .slice none 0 0] 65
  have hT := Blk.new w 65 #[.slice A xs.length c, .slice none 0 0]
  have K1 := wall_rng (fun x => wrngB x.a x.b 0 50) A c xs _ (h.at_ hB) hl hm 68 #[] #[] (enters_of Tryz.func68 (by kernel_rfl) rfl) (fun W x hW hx => wwork_any x.a x.b W)
  rw [ha] at K1
  have K1 := hid K1
  have HB := hid hB
  have HT := hid hT
  obtain ⟨t0, t1⟩ := hT.c2
  have hn : decide ((8 : Int) < (xs.length : Int)) = false := by simp; omega
  have hn2 : ((xs.length : Int) == 0) = false := beq_eq_false_iff_ne.2 (by omega)
  clear hB hT h ha
  go_enter Tryz.func41, Tryz.ntmps41
  go_wp2_with fail
  refine K1.out.mono ?_
  rintro e w2 ⟨rfl, hb⟩
  have HB2 := hid (HB.out.trans (hb.mono HB.out.size))
  have HT2 := hid (HT.out.keep hb)
  clear hb K1 t0 t1
  obtain ⟨t0, t1⟩ := HT2.out.c2
  have K2 := hid (wroads_none A xs.length c w2)
  go_wp2_with fail
  refine K2.out.mono ?_
  rintro e w3 ⟨rfl, hb⟩
  have HB3 := hid (HB2.out.trans (hb.mono HB2.out.size))
  clear hb K2 t0 t1
  go_wp2
  go_ret
  exact ⟨rfl, HB3.out⟩
set_option maxRecDepth 100000 in
set_option maxHeartbeats 1000000 in
theorem wrises_one (A : Option Addr) (c : Nat) (w : World) : Calls Tryz.prog 45 #[.slice A 1 c] w fun e w' => e = .returned (.bool true) ∧ Below w.heap.size w w' := by
  go_enter Tryz.func45, Tryz.ntmps45
  go_wp2
  go_rounds 1
  go_ret
  exact ⟨rfl, Below.refl _ _⟩
theorem wplaces_one (A : Option Addr) (c : Nat) (n cw : Nat) (B : Option Addr) (v2 : Value) (w : World) (h : IsInts w w.heap.size A [0]) (hl : 1 ≤ c) (hm : c ≤ maxLen) (hn : 1 ≤ n) (h8 : n ≤ 8) :
    Calls Tryz.prog 46 #[.slice A 1 c, .func (.func 42) #[.agg #[.slice B n cw, v2]] #[]] w fun e w' => e = .returned (.bool true) ∧ Below w.heap.size w w' := by
  have K := wall_int (fun k => inB k 0 ((n : Int) - 1)) A c [0] w h hl hm 42 #[.agg #[.slice B n cw, v2]] #[] (enters_of Tryz.func42 (by kernel_rfl) rfl) (fun W x hW hx => wplace_any B n cw v2 x W (by omega))
  have e : ([0] : List Int).all (fun k => inB k 0 ((n : Int) - 1)) = true := by simp [inB]; omega
  rw [e] at K
  exact K
end Go.Proofs.YtlnamjhgbdacbaaGreat
/- The atlas of a map with one place and no road. Conditions stand at each theorem. -/
namespace Go.Proofs.YtlnamjhgbdacbaaGreat
open Go.RowKit Go.Shelf

attribute [local go_sem] Oper.semAt_some
set_option maxHeartbeats 400000 in
theorem wnext_any (v0 v1 : Value) (d : Int) (w : World) : Calls Tryz.prog 71 #[.agg #[v0, v1], .int .i64 d] w fun e w' => e = .returned (.func (.func 109) #[] #[.pointer (some ⟨w.heap.size, 0, none⟩), .pointer (some ⟨w.heap.size + 1, 0, none⟩)]) ∧ Below w.heap.size w w' ∧ Blk w' w.heap.size 65 #[v0, v1] ∧ Blk w' (w.heap.size + 1) 3 #[.int .i64 d] := by
  have hB := then_below (below_box (w := w) #[v0, v1] 65) (below_box #[.int .i64 d] 3)
  have h1 := (Blk.new w 65 #[v0, v1]).alloc (.cells #[.int .i64 d] 3)
  have h2 := Blk.new (w.alloc (.cells #[v0, v1] 65)) 3 #[.int .i64 d]
  rw [World.size_alloc] at h2
  have H := hid (And.intro hB (And.intro h1 h2))
  clear hB h1 h2
  go_enter Tryz.func71, Tryz.ntmps71
  go_wp2
  go_ret
  exact ⟨rfl, H.out⟩

set_option maxRecDepth 100000 in
set_option maxHeartbeats 1000000 in
theorem wnext1_none {v0 : Value} {w0 W : World} {Bm Bd l : Nat} (hm : Blk w0 Bm 65 #[v0, .slice none 0 0]) (hb : Below w0.heap.size w0 W) :
    CallsIn (FW none) 0 Tryz.prog 109 (#[.func (.yield l) #[] #[]] ++ #[.pointer (some ⟨Bm, 0, none⟩), .pointer (some ⟨Bd, 0, none⟩)]) W fun e W' => (∃ v, e = .returned v) ∧ Below W.heap.size W W' := by
  obtain ⟨t0, t1⟩ := (hm.keep hb).c2
  clear hm hb
  refine callsIn_of_wp Tryz.func109 rfl trivial ?_ rfl
  simp only [Tryz.ntmps109, List.size_toArray, List.length_cons, List.length_nil, Nat.reduceAdd, Nat.reduceSub, Array.replicate_succ, Array.replicate_zero, List.push_toArray, List.append_toArray, List.nil_append, List.cons_append]
  gi_wp2
  refine wpIn_loop_rounds 1 ?_
  rw [roundsIn_succ]
  gi_wp2
  go_end0
  exact ⟨⟨_, rfl⟩, Below.refl _ _⟩

/-- a range loop over an iterator that yields nothing -/
theorem wpIn_rangeFunc_none {g : Operand} {p q : Tmp} {assign body : Code} {Q : Exit → Act → World → Prop} {a : Act} {w : World} {gf : Nat} {lb : Array Value} (hg : a.eval g = .func (.func gf) #[] lb)
    (eg : ∀ args w, (callFunc gf args).run Tryz.prog w = .ok (.enter gf args) w)
    (hseq : ∀ l W, Below w.heap.size w W → CallsIn (FW none) 0 Tryz.prog gf (#[.func (.yield l) #[] #[]] ++ lb) W fun e W' => (∃ v, e = .returned v) ∧ Below W.heap.size W W')
    (hdone : ∀ (D : Nat) (W : World), w.heap.size ≤ D → Below w.heap.size w W → W.heap[D]? = some (.deferred (some [])) → Q .normal { a with defers := { target := .collected D, args := #[] } :: a.defers } W) :
    (Code.rangeFunc g #[p, q] assign body).wpIn (FW none) 0 Tryz.prog Q a w := by
  refine wpIn_rangeFunc ?_
  intro fn hfn
  obtain ⟨rec, hrec⟩ : ∃ rec : LoopState → Option Code → Loop, rec = fun st pe => { state := st, pending := pe, fn, tmps := a.tmps, params := #[p, q], assign, body, defers := w.heap.size } := ⟨_, rfl⟩
  obtain ⟨W1, hW1⟩ : ∃ W1, (w.alloc (.deferred (some []))).alloc (.loop (rec .ready none)) = W1 := ⟨_, rfl⟩
  have hL1 : W1.heap[w.heap.size + 1]? = some (.loop (rec .ready none)) := by
    rw [← hW1]; have := World.alloc_heap_new (w.alloc (.deferred (some []))) (.loop (rec .ready none)); rwa [World.size_alloc] at this
  have hK1 : W1.heap[w.heap.size]? = some (.deferred (some [])) := by
    rw [← hW1]; exact (Below.heap_alloc _ _ _ (by simp)).trans (World.alloc_heap_new w _)
  have hb1 : Below w.heap.size w W1 := by
    rw [← hW1]; exact ((Below.refl _ w).alloc (Nat.le_refl _) _).alloc (by simp) _
  refine ⟨w.heap.size + 1, [{ target := .collected w.heap.size, args := #[] }], W1, { target := .fn (.func gf) lb, args := #[.func (.yield (w.heap.size + 1)) #[] #[]] }, W1, gf,
    #[.func (.yield (w.heap.size + 1)) #[] #[]] ++ lb, W1, ?_, ?_, ?_, ?_, fun h => (by simp [FW, Fence.wide] at h), ?_⟩
  · rw [← hW1, hrec]; exact run_enterLoop_outer _ _ _ _ _
  · simp only [resolve, hg]
    simp [go_sem]
  · intro f' hf'; exact trivial
  · simp [invoke, go_sem, eg]
  · refine (hseq (w.heap.size + 1) W1 hb1).mono ?_
    rintro e W2 ⟨⟨v, rfl⟩, hb2⟩
    have hl := (hb2.block _ (Array.getElem?_eq_some_iff.1 hL1).1).trans hL1
    have hk := (hb2.block _ (Array.getElem?_eq_some_iff.1 hK1).1).trans hK1
    have hb3 := hb1.trans (hb2.mono hb1.size)
    exact ⟨none, _, by have := run_endLoop (P := Tryz.prog) hl (by rw [hrec]; simp); rw [hrec] at this; exact this, hdone _ _ (Nat.le_refl _) (hb3.grown (grownBy_putObj' W2 (w.heap.size + 1) _) hb3.size (fun k hk => by cases hk; omega)) ((World.putObj_heap_other (by omega)).trans hk)⟩
end Go.Proofs.YtlnamjhgbdacbaaGreat
