/- The visits of Span: what they compute. Conditions stand at each theorem. -/
import Derived.Laws.CopyOwn
import Derived.LoopIn
import Derived.Test.YtgoianldiomdoaaG1
import Derived.Test.YtgoianldiomdoaaG2
import Derived.Test.YtgoianldiomdoaaG3
/- Repeat: a row of ranges, all alike. -/
namespace Go.Proofs.Ytgoianldiomdoaa
open Go.RowKit

theorem run_copy_sz {P : Program} (w : World) (dT sT ty elem : TypeId) (g o dLen dCap : Nat) (a : Addr) (sLen sCap sz : Nat) (cur : Array Value) (t : TypeId) (cs : List Value)
    (hu : P.underlying dT = some (.slice elem)) (hs : (P.info? elem).map (·.size) = some sz)
    (hg : w.heap[g]? = some (.cells cur t (0, 0))) (hn : cs.length = Nat.min sLen dLen * sz)
    (hsrc : ∀ j v, cs[j]? = some v → w.cell? (a.add j) = some v) (hfit : o + cs.length ≤ cur.size) (h1 : ∀ v ∈ cs, v.oneCell' = true) (new : Array Value) (hnew : cur.toList.take o ++ cs ++ cur.toList.drop (o + cs.length) = new.toList) :
    (Builtin.copy_ #[dT, sT] ty #[.slice (some ⟨g, o, none⟩) dLen dCap, .slice (some a) sLen sCap]).run P w =
      .ok (goInt (Nat.min sLen dLen)) (w.setRow g new) := by
  have hl := run_loadCells_list (P := P) w a cs hsrc
  have hst := run_storeCells_at P g o t cs 0 cur w hg (by simpa using hfit) h1
  have e : (cur.toList.take o ++ cs ++ cur.toList.drop (o + cs.length)).toArray = new := by rw [hnew]
  cases hq : P.info? elem with
  | none => simp [hq] at hs
  | some i =>
    have hi : i.size = sz := by simpa [hq] using hs
    simp only [Nat.add_zero, e] at hst
    simp [Builtin.copy_, run_underlying hu, Builtin.lenOf, Builtin.firstCells, sizeOf, typeInfo, hq, hi, ← hn, hl, hst]
theorem grown_setRow {w : World} {g : Nat} {cs : Array Value} : w.grownBy (w.setRow g cs) (some g) := ⟨rfl, rfl, rfl, by simp [World.setRow], fun k _ hn => setRow_other w g k cs (fun e => hn (by rw [e]))⟩

theorem wpList_copy_sz {P : Program} {w : World} {ops : Array Oper} {rest : List Oper} {o : Oper} {a : Act} {Q : Exit → Act → World → Prop} (hgd : o.guard = none) (d s : Operand) (dT sT : TypeId)
    (ho : o.op = .call { callee := .builtin .copy, args := #[d, s], argTypes := #[dT, sT] }) (elem sz : Nat) (hu : P.underlying dT = some (.slice elem)) (hsz : (P.info? elem).map (·.size) = some sz)
    (g off dLen dCap : Nat) (ad : Addr) (sLen sCap : Nat) (hd : a.eval d = .slice (some ⟨g, off, none⟩) dLen dCap) (hs : a.eval s = .slice (some ad) sLen sCap)
    (cur : Array Value) (t : TypeId) (hg : w.heap[g]? = some (.cells cur t (0, 0))) (cs : List Value) (hn : cs.length = Nat.min sLen dLen * sz)
    (hsrc : ∀ j v, cs[j]? = some v → w.cell? (ad.add j) = some v) (hfit : off + cs.length ≤ cur.size) (h1 : ∀ v ∈ cs, v.oneCell' = true) (new : Array Value) (hnew : cur.toList.take off ++ cs ++ cur.toList.drop (off + cs.length) = new.toList)
    (h : ∀ w', Hid (w'.heap[g]? = some (.cells new t (0, 0))) → w.grownBy w' (some g) → wpList P ops Q rest (a.put o.dst (goInt (Nat.min sLen dLen))) w') : wpList P ops Q (o :: rest) a w := by
  refine wpList_plain hgd fun K hK => ?_
  have hrun := run_copy_sz (P := P) w dT sT o.type elem g off dLen dCap ad sLen sCap sz cur t cs hu hsz hg hn hsrc hfit h1 new hnew
  unfold Oper.wp
  simp [execOp, ho, resolve, invoke, builtin, hd, hs, hrun, Result.andThen]
  exact hK _ _ (h _ (hid (setRow_heap w g _ _ t _ hg)) grown_setRow)

theorem range_info : (Try.prog.info? 49).map (·.size) = some 2 := by kernel_rfl
/-- a row of c ranges, the first k of which are filled -/
def rptL (x y : Int) (c k : Nat) : List Value := (List.replicate k [Value.int .i64 x, .int .i64 y] ++ List.replicate (c - k) [Value.int .i64 0, .int .i64 0]).flatten
theorem range_info3 : (Try.prog.info? 49).map (fun i => (i.zero, i.size, i.bytes)) = some (some (.agg #[.int .i64 0, .int .i64 0]), 2, 16) := by kernel_rfl
theorem rpt_made (x y : Int) {c : Nat} (hc : 1 ≤ c ∧ c ≤ 4) : madeCells #[.int .i64 0, .int .i64 0] (c * 2) = (rptL x y c 0).toArray := by
  have : c = 1 ∨ c = 2 ∨ c = 3 ∨ c = 4 := by omega
  rcases this with rfl | rfl | rfl | rfl <;> (rw [madeCells, ← List.toArray_range]; simp [rptL, List.range, List.range.loop, List.replicate])
theorem rpt_make {c : Nat} (hc : 1 ≤ c ∧ c ≤ 4) (x y : Int) : ∀ w, (Instr.makeSlice 46 (.int .i64 c) (.int .i64 c)).run Try.prog w = .ok (.slice (some ⟨w.heap.size, 0, none⟩) c c) (w.alloc (.cells (rptL x y c 0).toArray 49)) := by
  intro w
  obtain ⟨i, hi, hzz⟩ := Option.map_eq_some_iff.1 range_info3
  simp only [Prod.mk.injEq] at hzz
  obtain ⟨hz, hs, hb⟩ := hzz
  have hr := run_make (P := Try.prog) w 46 49 i _ Try.underlying46 hi hz .i64 .i64 c c (by omega) (Int.le_refl _) (by rw [hb]; omega) (by omega)
  simp only [Int.toNat_natCast, hs] at hr
  rw [show (Value.agg #[.int .i64 0, .int .i64 0]).cells = #[.int .i64 0, .int .i64 0] from rfl, rpt_made x y hc] at hr
  exact hr
theorem rpt_len {x y : Int} {c k : Nat} (hk : k ≤ c) : (rptL x y c k).length = c * 2 := by
  simp [rptL, List.length_flatten]; omega
theorem rpt_fill {x y : Int} {c k : Nat} (hc : c ≤ 4) (hk : k < c) : (rptL x y c k).take (k * 2) ++ (List.replicate (Nat.min (if k = 0 then 1 else k) (c - k)) [Value.int .i64 x, .int .i64 y]).flatten ++ (rptL x y c k).drop (k * 2 + (List.replicate (Nat.min (if k = 0 then 1 else k) (c - k)) [Value.int .i64 x, .int .i64 y]).flatten.length) = rptL x y c (k + Nat.min (if k = 0 then 1 else k) (c - k)) := by
  have h1 : c = 1 ∨ c = 2 ∨ c = 3 ∨ c = 4 := by omega
  have h2 : k = 0 ∨ k = 1 ∨ k = 2 ∨ k = 3 := by omega
  rcases h1 with rfl | rfl | rfl | rfl <;> rcases h2 with rfl | rfl | rfl | rfl <;> first | omega | rfl
theorem rpt_cell {x y : Int} {c k : Nat} : ∀ (j : Nat) (v : Value), (List.replicate (Nat.min k (c - k)) [Value.int .i64 x, Value.int .i64 y]).flatten[j]? = some v → (rptL x y c k)[j]? = some v := by
  intro j v h
  unfold rptL
  obtain ⟨d, hd⟩ : ∃ d, k = Nat.min k (c - k) + d := ⟨k - Nat.min k (c - k), by have : Nat.min k (c - k) ≤ k := Nat.min_le_left k (c - k); omega⟩
  have e : List.replicate k [Value.int .i64 x, Value.int .i64 y] = List.replicate (Nat.min k (c - k)) [Value.int .i64 x, Value.int .i64 y] ++ List.replicate d [Value.int .i64 x, Value.int .i64 y] := by
    rw [List.replicate_append_replicate, ← hd]
  rw [e, List.append_assoc, List.flatten_append, List.getElem?_append_left (List.getElem?_eq_some_iff.1 h).1]
  exact h
theorem rpt_one {x y : Int} {n : Nat} : ∀ v ∈ (List.replicate n [Value.int .i64 x, .int .i64 y]).flatten, v.oneCell' = true := by
  intro v hv
  rw [List.mem_flatten] at hv
  obtain ⟨l, hl, hv⟩ := hv
  obtain rfl := (List.mem_replicate.1 hl).2
  simp at hv
  rcases hv with rfl | rfl <;> rfl

theorem add_blk (g j : Nat) : (⟨g, 0, none⟩ : Addr).add j = ⟨g, j, none⟩ := by unfold Addr.add; split <;> simp_all
theorem rpt_first {x y : Int} {c : Nat} (hc : 1 ≤ c ∧ c ≤ 4) : (rptL x y c 0).toArray.toList.take 0 ++ [Value.int .i64 x, .int .i64 y] ++ (rptL x y c 0).toArray.toList.drop (0 + [Value.int .i64 x, .int .i64 y].length) = (rptL x y c 1).toArray.toList := by
  have : c = 1 ∨ c = 2 ∨ c = 3 ∨ c = 4 := by omega
  rcases this with rfl | rfl | rfl | rfl <;> rfl
theorem rpt_next {x y : Int} {c k : Nat} (hc : c ≤ 4) (h1 : 1 ≤ k) (hk : k < c) : (rptL x y c k).toArray.toList.take (k * 2) ++ (List.replicate (Nat.min k (c - k)) [Value.int .i64 x, .int .i64 y]).flatten ++ (rptL x y c k).toArray.toList.drop (k * 2 + (List.replicate (Nat.min k (c - k)) [Value.int .i64 x, .int .i64 y]).flatten.length) = (rptL x y c (k + Nat.min k (c - k))).toArray.toList := by
  have := rpt_fill (x := x) (y := y) hc hk
  rw [if_neg (by omega)] at this
  exact this

theorem grown_same {A B C : World} {m : Option Nat} (h : A.grownBy B m) (k : B.grownBy C m) : A.grownBy C m :=
  ⟨k.os.trans h.os, k.tape.trans h.tape, k.output.trans h.output, Nat.le_trans h.size k.size, fun i hi hn => (k.block i (Nat.lt_of_lt_of_le hi h.size) hn).trans (h.block i hi hn)⟩
def RptPh (x y : Int) (c k g : Nat) (li : Array Bool) (W : World) : Prop := Blk W g 49 (if li.getD 7 false = true then rptL x y c (k + Nat.min k (c - k)) else rptL x y c k).toArray
theorem rpt_ph {x y : Int} {c k g i : Nat} {li : Array Bool} {W : World} (h : RptPh x y c k g li W) (hi : i ≠ 7) : RptPh x y c k g (li.setIfInBounds i true) W := by unfold RptPh; rw [getD_set_oth hi]; exact h
/-- a row of ranges, in memory of its own -/
def GivesRanges (x y : Int) (c : Nat) (w : World) (e : Ending) (w' : World) : Prop := ∃ g, e = .returned (.slice (some ⟨g, 0, none⟩) c c) ∧ w.heap.size ≤ g ∧ Blk w' g 49 (rptL x y c c).toArray ∧ Below w.heap.size w w'

set_option maxRecDepth 100000 in
set_option maxHeartbeats 1000000 in
theorem repeat_any (x y : Int) (c a : Nat) (hc : 1 ≤ c ∧ c ≤ 4) (w : World) (h : Blk w a 49 #[.int .i64 x, .int .i64 y]) : 
    Calls Try.prog 51 #[.slice (some ⟨a, 0, none⟩) 1 1, .int .i64 c] w (GivesRanges x y c w) := by
  have K := hid (fun w => mul_small c hc.2 w)
  have hlt := h.lt
  obtain ⟨c0, c1⟩ := h.c2
  have h1 := hc.1
  have h4 := hc.2
  have hmk := rpt_make hc x y
  have H := hid h
  clear hc h
  go_enter Try.func51, Try.ntmps51
  have HC := hid (show 1 ≤ c ∧ c ≤ 4 from ⟨h1, h4⟩)
  go_wp2_with (first | (go_at_call 81; refine (K.out _).mono ?_; rintro e w2 ⟨rfl, rfl⟩) | (refine wpList_copy_sz rfl (.tmp 31) (.tmp 32) 46 46 rfl 49 2 Try.underlying46 range_info w.heap.size 0 c c ⟨a, 0, none⟩ 1 1 rfl rfl (rptL x y c 0).toArray 49 (heap_alloc_new _ _) [.int .i64 x, .int .i64 y] (by rw [show Nat.min 1 c = 1 from Nat.min_eq_left h1]; rfl) (fun j v hv => by rw [add_blk, (H.out.alloc _).cell]; simpa using hv) (by simp [rpt_len]; omega) (by intro v hv; simp at hv; rcases hv with rfl | rfl <;> rfl) (rptL x y c 1).toArray (rpt_first HC.out) ?_; intro w3 hB3 hg3; rw [show Nat.min 1 c = 1 from Nat.min_eq_left h1]))
  have hb3 : Below w.heap.size w w3 := ((Below.refl _ _).alloc (Nat.le_refl _) _).grown hg3 (by simp) (fun k hk => by cases hk; exact Nat.le_refl _)
  have HB := hid (And.intro (show Blk w3 w.heap.size 49 (rptL x y c 1).toArray from hB3.out) hb3)
  clear hB3 hg3 hb3 c0 c1 hmk
  go_loopw [8] (fun n wr => ∃ k : Nat, 1 ≤ k ∧ k ≤ c ∧ n = .int .i64 k ∧ Blk wr w.heap.size 49 (rptL x y c k).toArray ∧ Below w.heap.size w wr) (fun n _ => c - (intOf n).toNat)
  case atStart => exact ⟨1, Nat.le_refl _, h1, rfl, HB.out⟩
  case round =>
    obtain ⟨k, hk1, hk, rfl, hbl, hbe⟩ := hrel
    clear HB
    by_cases hlt : k < c
    · have hkI : (k : Int) < (c : Int) := by omega
      have HR := hid (And.intro hbl hbe)
      clear hbl hbe
      go_wp2
      refine (wpIn_wide (n := 0)).1 ?_
      have hm1 : 1 ≤ Nat.min k (c - k) := Nat.le_min.2 ⟨hk1, by omega⟩
      have hm2 : Nat.min k (c - k) ≤ c - k := Nat.min_le_right _ _
      refine wpIn_region_each 8 (fun i v _ => match i with | 0 => v = .int .i64 k | 1 => v = .slice (some ⟨w.heap.size, 0, none⟩) c c | 2 => v = .int .i64 k | 3 => v = .slice (some ⟨w.heap.size, k * 2, none⟩) (c - k) (c - k) | 4 => v = .slice (some ⟨w.heap.size, 0, none⟩) c c | 5 => v = .int .i64 k | 6 => v = .slice (some ⟨w.heap.size, 0, none⟩) k c | 7 => v = goInt (Nat.min k (c - k)) | _ => True) (fun A B => A.grownBy B (some w.heap.size)) (RptPh x y c k w.heap.size) (by kernel_rfl) (by kernel_rfl) ?_ (fun h k => grown_same h k) ⟨rfl, rfl, rfl, Nat.le_refl _, fun _ _ _ => rfl⟩ (by unfold RptPh; rw [getD_replicate_false, if_neg (by decide)]; exact HR.out.1) (by kernel_rfl) ?_ ?_
      · intro i v _ _ _ h; exact h
      · refine ⟨?_, ?_, ?_, ?_, ?_, ?_, ?_, ?_, trivial⟩
        · -- 0
          intro li a1 W2 hA K hK
          have e8 := hA.par 8 (by kernel_rfl)
          refine opStep none 0 rfl rfl (fun c hc => by cases hc) ?_
          go_simp
          exact hK _ _ rfl (grown_of_below (Below.refl _ _) _) (rpt_ph hA.ph (by decide))
        · -- 1
          intro li a1 W2 hA K hK
          have e7 := hA.par 7 (by kernel_rfl)
          refine opStep none 0 rfl rfl (fun c hc => by cases hc) ?_
          go_simp
          exact hK _ _ rfl (grown_of_below (Below.refl _ _) _) (rpt_ph hA.ph (by decide))
        · -- 2
          intro li a1 W2 hA K hK
          have e8 := hA.par 8 (by kernel_rfl)
          refine opStep none 0 rfl rfl (fun c hc => by cases hc) ?_
          go_simp
          exact hK _ _ rfl (grown_of_below (Below.refl _ _) _) (rpt_ph hA.ph (by decide))
        · -- 3
          intro li a1 W2 hA K hK
          have e39 : a1.tmps.getD 39 undef = .slice (some ⟨w.heap.size, 0, none⟩) c c := hA.val 1 39 (by kernel_rfl) (by kernel_rfl)
          have e40 : a1.tmps.getD 40 undef = .int .i64 k := hA.val 2 40 (by kernel_rfl) (by kernel_rfl)
          refine opStep none 0 rfl rfl (fun c hc => by cases hc) ?_
          go_simp
          exact hK _ _ (congrArg (fun q => Value.slice q (c - k) (c - k)) (if_neg (by omega))) (grown_of_below (Below.refl _ _) _) (rpt_ph hA.ph (by decide))
        · -- 4
          intro li a1 W2 hA K hK
          have e7 := hA.par 7 (by kernel_rfl)
          refine opStep none 0 rfl rfl (fun c hc => by cases hc) ?_
          go_simp
          exact hK _ _ rfl (grown_of_below (Below.refl _ _) _) (rpt_ph hA.ph (by decide))
        · -- 5
          intro li a1 W2 hA K hK
          have e8 := hA.par 8 (by kernel_rfl)
          refine opStep none 0 rfl rfl (fun c hc => by cases hc) ?_
          go_simp
          exact hK _ _ rfl (grown_of_below (Below.refl _ _) _) (rpt_ph hA.ph (by decide))
        · -- 6
          intro li a1 W2 hA K hK
          have e42 : a1.tmps.getD 42 undef = .slice (some ⟨w.heap.size, 0, none⟩) c c := hA.val 4 42 (by kernel_rfl) (by kernel_rfl)
          have e43 : a1.tmps.getD 43 undef = .int .i64 k := hA.val 5 43 (by kernel_rfl) (by kernel_rfl)
          refine opStep none 0 rfl rfl (fun c hc => by cases hc) ?_
          go_simp
          exact hK _ _ rfl (grown_of_below (Below.refl _ _) _) (rpt_ph hA.ph (by decide))
        · -- 7
          intro li a1 W2 hA K hK
          have e41 : a1.tmps.getD 41 undef = .slice (some ⟨w.heap.size, k * 2, none⟩) (c - k) (c - k) := hA.val 3 41 (by kernel_rfl) (by kernel_rfl)
          have e44 : a1.tmps.getD 44 undef = .slice (some ⟨w.heap.size, 0, none⟩) k c := hA.val 6 44 (by kernel_rfl) (by kernel_rfl)
          have hbl : Blk W2 w.heap.size 49 (rptL x y c k).toArray := by have := hA.ph; unfold RptPh at this; rwa [hA.new, if_neg (by decide)] at this
          have hrun := run_copy_sz (P := Try.prog) W2 46 46 3 49 w.heap.size (k * 2) (c - k) (c - k) ⟨w.heap.size, 0, none⟩ k c 2 (rptL x y c k).toArray 49 (List.replicate (Nat.min k (c - k)) [Value.int .i64 x, .int .i64 y]).flatten
            Try.underlying46 range_info hbl (by simp [List.length_flatten]) (fun j v hv => by rw [add_blk, hbl.cell]; simpa using rpt_cell j v hv) (by simp [rpt_len hk]; omega) rpt_one (rptL x y c (k + Nat.min k (c - k))).toArray (rpt_next h4 hk1 hlt)
          have hg5 : W2.grownBy (W2.setRow w.heap.size (rptL x y c (k + Nat.min k (c - k))).toArray) (some w.heap.size) := grown_setRow
          have hb5 : Blk (W2.setRow w.heap.size (rptL x y c (k + Nat.min k (c - k))).toArray) w.heap.size 49 (rptL x y c (k + Nat.min k (c - k))).toArray := setRow_heap _ _ _ _ _ _ hbl
          refine opValue (v := goInt (Nat.min k (c - k))) (W' := W2.setRow w.heap.size (rptL x y c (k + Nat.min k (c - k))).toArray) none 0 rfl rfl (fun c hc => by cases hc) (by simp [execOp, resolve, invoke, builtin, Act.eval, e41, e44, hrun, Result.andThen]) ?_
          exact hK _ _ rfl hg5 (by unfold RptPh; rw [getD_set_eq (by rw [hA.lsize]; decide), if_pos rfl]; exact hb5)
      · intro li a1 W2 hD
        have e38 : a1.tmps.getD 38 undef = .int .i64 k := hD.val 0 38 (by kernel_rfl) (by kernel_rfl)
        have e45 : a1.tmps.getD 45 undef = goInt (Nat.min k (c - k)) := hD.val 7 45 (by kernel_rfl) (by kernel_rfl)
        have hb5 : Blk W2 w.heap.size 49 (rptL x y c (k + Nat.min k (c - k))).toArray := by have := hD.ph; unfold RptPh at this; rwa [hD.all 7 (by decide), if_pos rfl] at this
        have HN := hid (And.intro hb5 (HR.out.2.grown hD.st HR.out.2.size (fun k hk => by cases hk; exact Nat.le_refl _)))
        have hkp2 := hD.keeps (ds := [38, 39, 40, 41, 42, 43, 44, 45, 46, 8]) (by kernel_rfl)
        have hds := hD.size
        have hs48 : a1.tmps.size = 48 := hD.size
        have hdd := hD.defers
        clear hb5
        generalize hmm : Nat.min k (c - k) = m at *
        have hw : IntKind.i64.wrap ((k : Int) + (m : Int)) = (k : Int) + (m : Int) := by rw [IntKind.wrap_i64]; omega
        simp only [goInt] at e45
        refine tail_val (i := 8) (v := .int .i64 ((k : Int) + (m : Int))) (W' := W2) none 0 rfl rfl rfl (fun c hc => by cases hc) (by go_simp) (by rw [hs48]; decide) ?_
        intro a3 s3 d3 f3 o3
        have hkp3 := keeps_then hkp2 o3 (by decide)
        refine tail_val (i := 9) (v := .int .i64 ((k : Int) + (m : Int))) (W' := W2) none 0 rfl rfl rfl (fun c hc => by cases hc) (by go_simp) (by rw [s3, hs48]; decide) ?_
        intro a4 s4 d4 f4 o4
        have hkp4 := keeps_then hkp3 o4 (by decide)
        have e := act_mix [38, 39, 40, 41, 42, 43, 44, 45, 46, 8] (s4.trans (s3.trans hds)) (d4.trans (d3.trans hdd)) (fun i _ hc => hkp4 i hc)
        have f8 : (fun i => a4.tmps.getD i undef) 8 = .int .i64 ((k : Int) + (m : Int)) := f4
        generalize (fun i => a4.tmps.getD i undef) = g at e f8
        refine wpListIn_nil ?_
        rw [e]
        clear e hD HR hkp2 hkp3 hkp4 s3 s4 d3 d4 f3 f4 o3 o4 e38 e45 hds hdd hw hmm hs48
        simp only [mix, List.contains_cons, List.contains_nil, Nat.reduceAdd, Nat.reduceBEq, Bool.or_false, Bool.or_true, cond_true, cond_false, f8]
        go_wp2
        go_roundw
        case rel => exact ⟨k + m, by omega, by omega, by rw [Int.natCast_add], HN.out⟩
        case measure => simp [intOf]; omega
    · have hkI : decide ((k : Int) < (c : Int)) = false := by simp; omega
      obtain rfl : k = c := by omega
      have HR := hid (And.intro hbl hbe)
      clear hbl hbe
      go_wp2
      go_ret
      exact ⟨_, rfl, Nat.le_refl _, HR.out.1, HR.out.2⟩
end Go.Proofs.Ytgoianldiomdoaa
/- Span: what it computes, and what lies in memory. -/
namespace Go.Proofs.Ytgoianldiomdoaa
open Go.RowKit Go.Shelf

instance : DecidableEq S4 := fun s t =>
  if h : s.a = t.a ∧ s.b = t.b ∧ s.c = t.c ∧ s.d = t.d then isTrue (by
    obtain ⟨a, b, c, d⟩ := s
    obtain ⟨a', b', c', d'⟩ := t
    obtain ⟨h1, h2, h3, h4⟩ := h
    simp only at h1 h2 h3 h4
    subst h1 h2 h3 h4
    rfl) else isFalse (fun e => h (by subst e; exact ⟨rfl, rfl, rfl, rfl⟩))

/-- what a visit goes on: the spots that were met, and the ranges -/
structure VSt where
  seen : List (Nat × S4)
  grid : List (List (Int × Int))
def updC (p : Int × Int) (n : Int) : Int × Int := (min p.1 n, max p.2 n)
def updTo (row : List (Int × Int)) (l : List Int) (j : Nat) : List (Int × Int) := List.zipWith updC (row.take j) (l.take j) ++ row.drop j
def updR (row : List (Int × Int)) (l : List Int) : List (Int × Int) := updTo row l l.length
def updG (g : List (List (Int × Int))) (r : Nat) (l : List Int) : List (List (Int × Int)) := g.set r (updR (g.getD r []) l)
def visit (b : Int) (cs : List (List Int)) (fs : List Fx) : Nat → S4 → VSt → VSt
  | 0, _, st => st
  | k + 1, s, st => if (k + 1, s) ∈ st.seen then st else
      (outsAt b cs fs (k + 1)).foldl (fun st l => if (spec b cs fs k (plusS s l)).ways == 0 then st else visit b cs fs k (plusS s l) ⟨st.seen, updG st.grid (cs.length - (k + 1)) l⟩) ⟨(k + 1, s) :: st.seen, st.grid⟩
def visitTo (b : Int) (cs : List (List Int)) (fs : List Fx) (k : Nat) (s : S4) (st : VSt) (j : Nat) : VSt :=
  ((outsAt b cs fs (k + 1)).take j).foldl (fun st l => if (spec b cs fs k (plusS s l)).ways == 0 then st else visit b cs fs k (plusS s l) ⟨st.seen, updG st.grid (cs.length - (k + 1)) l⟩) ⟨(k + 1, s) :: st.seen, st.grid⟩
theorem visitTo_succ {b : Int} {cs : List (List Int)} {fs : List Fx} {k : Nat} {s : S4} {st : VSt} {j : Nat} {l : List Int} (h : (outsAt b cs fs (k + 1))[j]? = some l) :
    visitTo b cs fs k s st (j + 1) = if (spec b cs fs k (plusS s l)).ways == 0 then visitTo b cs fs k s st j else visit b cs fs k (plusS s l) ⟨(visitTo b cs fs k s st j).seen, updG (visitTo b cs fs k s st j).grid (cs.length - (k + 1)) l⟩ := by
  obtain ⟨hj, rfl⟩ := List.getElem?_eq_some_iff.1 h
  unfold visitTo
  rw [List.take_succ_eq_append_getElem hj, List.foldl_append]; rfl
theorem visitTo_all {b : Int} {cs : List (List Int)} {fs : List Fx} {k : Nat} {s : S4} {st : VSt} (h : ¬ (k + 1, s) ∈ st.seen) : visitTo b cs fs k s st (outsAt b cs fs (k + 1)).length = visit b cs fs (k + 1) s st := by
  unfold visitTo; rw [List.take_length, visit, if_neg h]

theorem updTo_len {row : List (Int × Int)} {l : List Int} {j : Nat} (h : row.length = l.length) : (updTo row l j).length = row.length := by
  simp [updTo, List.length_zipWith]; omega
theorem updTo_zero (row : List (Int × Int)) (l : List Int) : updTo row l 0 = row := by simp [updTo]
theorem updTo_get {row : List (Int × Int)} {l : List Int} {j : Nat} (h : row.length = l.length) (hj : j < l.length) : (updTo row l j)[j]? = row[j]? := by
  unfold updTo
  rw [List.getElem?_append_right (by simp [List.length_zipWith]; omega)]
  simp [List.length_zipWith, List.getElem?_drop]
  congr 1; omega
theorem updTo_succ {row : List (Int × Int)} {l : List Int} {j : Nat} (h : row.length = l.length) (hj : j < l.length) : updTo row l (j + 1) = (updTo row l j).set j (updC (row[j]'(by omega)) l[j]) := by
  have hj' : j < row.length := by omega
  unfold updTo
  have hz : (List.zipWith updC (row.take j) (l.take j)).length = j := by simp [List.length_zipWith]; omega
  rw [List.set_append_right _ _ (by omega), hz, Nat.sub_self, List.take_succ_eq_append_getElem hj', List.take_succ_eq_append_getElem hj, List.zipWith_append (by simp; omega), List.append_assoc]
  congr 1
  have hd : (row.drop j).set 0 (updC row[j] l[j]) = updC row[j] l[j] :: row.drop (j + 1) := by
    rw [List.drop_eq_getElem_cons hj']; rfl
  rw [hd]; simp

/-- a row of ranges, cell by cell -/
def rowCells (row : List (Int × Int)) : List Value := row.flatMap fun p => [.int .i64 p.1, .int .i64 p.2]
theorem rowCells_len : ∀ (row : List (Int × Int)), (rowCells row).length = row.length * 2
  | [] => rfl
  | p :: l => by
    have : rowCells (p :: l) = [Value.int .i64 p.1, .int .i64 p.2] ++ rowCells l := rfl
    rw [this, List.length_append, rowCells_len l]; simp; omega
theorem rowCells_lo : ∀ {row : List (Int × Int)} {c : Nat} {p : Int × Int}, row[c]? = some p → (rowCells row)[c * 2]? = some (.int .i64 p.1) ∧ (rowCells row)[c * 2 + 1]? = some (.int .i64 p.2)
  | [], c, p, h => by simp at h
  | q :: l, 0, p, h => by
    simp at h; subst h
    exact ⟨rfl, rfl⟩
  | q :: l, c + 1, p, h => by
    have : rowCells (q :: l) = Value.int .i64 q.1 :: Value.int .i64 q.2 :: rowCells l := rfl
    have ih := rowCells_lo (row := l) (c := c) (p := p) (by simpa using h)
    rw [this, show (c + 1) * 2 = c * 2 + 1 + 1 by omega]
    exact ih
theorem rowCells_set : ∀ {row : List (Int × Int)} {c : Nat} (x y : Int), ((rowCells row).set (c * 2) (.int .i64 x)).set (c * 2 + 1) (.int .i64 y) = rowCells (row.set c (x, y))
  | [], c, x, y => by simp [rowCells]
  | q :: l, 0, x, y => rfl
  | q :: l, c + 1, x, y => by
    have e : rowCells (q :: l) = Value.int .i64 q.1 :: Value.int .i64 q.2 :: rowCells l := rfl
    have ih := rowCells_set (row := l) (c := c) x y
    rw [e, show (c + 1) * 2 = c * 2 + 1 + 1 by omega]
    simp only [List.set_cons_succ]
    rw [ih]; rfl
theorem rowCells_rpt (x y : Int) (m : Nat) : rowCells (List.replicate m (x, y)) = rptL x y m m := by
  induction m with
  | zero => rfl
  | succ m ih =>
    have e : rptL x y (m + 1) (m + 1) = Value.int .i64 x :: Value.int .i64 y :: rptL x y m m := by simp [rptL, List.replicate_succ]
    rw [e, ← ih]; rfl

/-- a map that holds just the spots that were met -/
def Seen (ms len : Nat) (W : World) (seen : List (Nat × S4)) : Prop :=
  ∃ es clock, W.heap[ms]? = some (.map es clock) ∧ SpotKeys es ∧ (∀ e ∈ es.toList, ∃ k s, (k, s) ∈ seen ∧ 1 ≤ k ∧ k ≤ len ∧ e.key = spotV ((len - k : Nat) : Int) s ∧ e.val = .bool true) ∧ ∀ k s, (k, s) ∈ seen → ∃ e ∈ es.toList, e.key = spotV ((len - k : Nat) : Int) s

theorem spot_push {W : World} {b t e : Nat} {es : Array MapEntry} {clock : Nat} {key : Value} (ht : Try.prog.underlying t = some (.map 89 e)) (hb : W.heap[b]? = some (.map es clock)) (hes : SpotKeys es) (hk : ∃ l, keyOf Try.prog 89 key = some l) (hno : ∀ x ∈ es.toList, x.key ≠ key) (v : Value) :
    ∃ clock', (Instr.mapUpdate t (.map (some b)) key v).run Try.prog W = .ok () (W.putObj b (.map (es.push ⟨key, v, clock⟩) clock')) ∧ SpotKeys (es.push ⟨key, v, clock⟩) := by
  obtain ⟨l, hk⟩ := hk
  rcases spot_law.find W hk es.toList hes with ⟨h1, h2⟩ | ⟨j, e0, h1, h2, h3⟩
  · refine ⟨clock + 1, ?_, ?_⟩
    · simp [Instr.mapUpdate, run_underlying ht, MapKept.run_getObj_map hb, spot_law.check W false hk, h1, MapKept.run_setObj_map _ hb, Result.andThen, World.putObj]
    · intro x hx
      simp only [Array.toList_push, List.mem_append, List.mem_singleton] at hx
      rcases hx with hx | rfl
      · exact hes x hx
      · exact ⟨l, hk⟩
  · exact absurd h3 (hno e0 (List.mem_of_getElem? h2))

/-- what stays the same while a table is visited: where all lies -/
structure VC where
  b : Int
  At : Option Addr
  ct : Nat
  cs : List (List Int)
  Af : Option Addr
  cf : Nat
  fs : List Fx
  n : Nat
  mb : Nat
  ms : Nat
  Bt : Nat
  Bs : Nat
  Bw : Nat
  Bo : Nat
  Bv : Nat
  Ro : Nat
  Rr : Nat → Nat
structure VOk (C : VC) : Prop where
  ok : TOk C.b C.cs C.fs
  hm : C.n ≤ C.mb
  hs : C.n ≤ C.ms
  hr : ∀ r, r < C.cs.length → C.n ≤ C.Rr r
  ne : C.mb ≠ C.ms
  inj : ∀ r r', r < C.cs.length → r' < C.cs.length → C.Rr r = C.Rr r' → r = r'
def rowPtrs (C : VC) : Array Value := ((List.range C.cs.length).map fun r => Value.slice (some ⟨C.Rr r, 0, none⟩) (colsOf C.cs) (colsOf C.cs)).toArray
structure VMem (C : VC) (st : VSt) (Y : Nat → Prop) (W : World) : Prop where
  env : FEnv (C.mb + 1) C.n C.mb C.b C.At C.ct C.cs C.Af C.cf C.fs W
  memo : Memo C.b C.cs C.fs C.mb Y W
  bt : Blk W C.Bt 33 #[.int .i64 C.b, .slice C.At C.cs.length C.ct, .slice C.Af C.fs.length C.cf]
  bs : Blk W C.Bs 97 #[.map (some C.ms)]
  bw : Blk W C.Bw 83 #[.pointer (some ⟨C.mb + 1, 0, none⟩)]
  bo : Blk W C.Bo 37 #[.slice (some ⟨C.Ro, 0, none⟩) C.cs.length C.cs.length]
  bv : Blk W C.Bv 98 #[.func (.func 53) #[] #[.pointer (some ⟨C.Bt, 0, none⟩), .pointer (some ⟨C.Bs, 0, none⟩), .pointer (some ⟨C.Bw, 0, none⟩), .pointer (some ⟨C.Bo, 0, none⟩), .pointer (some ⟨C.Bv, 0, none⟩)]]
  ro : Blk W C.Ro 46 (rowPtrs C)
  glen : st.grid.length = C.cs.length
  rlen : ∀ (r : Nat) (row : List (Int × Int)), st.grid[r]? = some row → row.length = colsOf C.cs
  grid : ∀ (r : Nat) (row : List (Int × Int)), st.grid[r]? = some row → Blk W (C.Rr r) 49 (rowCells row).toArray
  seen : Seen C.ms C.cs.length W st.seen

/-- what a visit may change -/
def ZV (C : VC) (q : Nat) : Prop := q = C.mb ∨ q = C.ms ∨ ∃ r, r < C.cs.length ∧ q = C.Rr r
structure Chg (Z : Nat → Prop) (W W' : World) : Prop where
  os : W'.os = W.os
  tape : W'.tape = W.tape
  output : W'.output = W.output
  size : W.heap.size ≤ W'.heap.size
  block : ∀ k, k < W.heap.size → ¬ Z k → W'.heap[k]? = W.heap[k]?
section
variable {Z Y : Nat → Prop} {A B D : World} {C : VC} {st : VSt} {W W' : World}
theorem Chg.refl : Chg Z A A := ⟨rfl, rfl, rfl, Nat.le_refl _, fun _ _ _ => rfl⟩
theorem Chg.trans (h : Chg Z A B) (k : Chg Z B D) : Chg Z A D := ⟨k.os.trans h.os, k.tape.trans h.tape, k.output.trans h.output, Nat.le_trans h.size k.size, fun i hi hn => (k.block i (Nat.lt_of_lt_of_le hi h.size) hn).trans (h.block i hi hn)⟩
theorem Chg.of_below (h : Below A.heap.size A B) : Chg Z A B := ⟨h.os, h.tape, h.output, h.size, fun k hk _ => h.block k hk⟩
theorem Chg.of_grown {row : Option Nat} (h : A.grownBy B row) (hz : ∀ k, row = some k → Z k) : Chg Z A B := ⟨h.os, h.tape, h.output, h.size, fun k hk hn => h.block k hk (fun e => hn (hz k e.symm))⟩
theorem Chg.keep (h : Chg Z A B) : Keep Z A B := ⟨h.os, h.tape, h.output, h.size, fun i _ _ _ hi hz => (h.block i (Array.getElem?_eq_some_iff.1 hi).1 hz).trans hi⟩
/-- new blocks may be changed as well -/
theorem Chg.new (h : Chg (fun q => Z q ∨ A.heap.size ≤ q) A B) : Chg Z A B := ⟨h.os, h.tape, h.output, h.size, fun k hk hn => h.block k hk (fun e => e.elim hn (fun e => by omega))⟩
theorem Seen.same {ms len : Nat} {seen : List (Nat × S4)} (h : Seen ms len W seen) (hw : W'.heap[ms]? = W.heap[ms]?) : Seen ms len W' seen := by
  obtain ⟨es, ck, h1, h2, h3, h4⟩ := h
  exact ⟨es, ck, hw.trans h1, h2, h3, h4⟩
theorem Seen.lt {ms len : Nat} {seen : List (Nat × S4)} (h : Seen ms len W seen) : ms < W.heap.size := by
  obtain ⟨es, ck, h1, _⟩ := h
  exact (Array.getElem?_eq_some_iff.1 h1).1
theorem VMem.below (h : VMem C st Y W) (hb : Below W.heap.size W W') : VMem C st Y W' :=
  ⟨h.env.below hb, h.memo.below hb, h.bt.keep hb, h.bs.keep hb, h.bw.keep hb, h.bo.keep hb, h.bv.keep hb, h.ro.keep hb, h.glen, h.rlen, fun r row hr => (h.grid r row hr).keep hb, h.seen.same (hb.block _ h.seen.lt)⟩
theorem VMem.rowBlk (h : VMem C st Y W) {r : Nat} (hr : r < C.cs.length) : ∃ row, st.grid[r]? = some row ∧ Blk W (C.Rr r) 49 (rowCells row).toArray := by
  have := List.getElem?_eq_getElem (l := st.grid) (i := r) (by rw [h.glen]; exact hr)
  exact ⟨_, this, h.grid r _ this⟩
/-- no other block of cells is one of the rows -/
theorem VMem.not_row (h : VMem C st Y W) {g t : Nat} {us : Array Value} (hg : Blk W g t us) (ht : t ≠ 49) : ∀ r, r < C.cs.length → g ≠ C.Rr r := fun r hr e => by
  obtain ⟨row, _, hb⟩ := h.rowBlk hr
  rw [e] at hg
  exact Blk.ne_ hg hb ht rfl
theorem blk_ne_map {g m t ck : Nat} {us : Array Value} {es : Array MapEntry} (hg : Blk W g t us) (hm : W.heap[m]? = some (.map es ck)) : g ≠ m := fun e => by
  unfold Blk at hg
  rw [e, hm] at hg
  cases hg
theorem VMem.not_zv (h : VMem C st Y W) {g t : Nat} {us : Array Value} (hg : Blk W g t us) (ht : t ≠ 49) : ¬ ZV C g := by
  rintro (e | e | ⟨r, hr, e⟩)
  · obtain ⟨es, ck, hm, _⟩ := h.memo
    exact blk_ne_map hg hm e
  · obtain ⟨es, ck, hm, _⟩ := h.seen
    exact blk_ne_map hg hm e
  · exact h.not_row hg ht r hr e
/-- the memory behind a change of one block that is none of ours -/
theorem VMem.grown {lo z : Nat} (h : VMem C st Y W) (hg : W.grownBy W' (some z)) (hz : lo ≤ z) (hzc : Y z ∨ ∃ o, W.heap[z]? = some o ∧ o.isCells = false)
    (hmb : C.mb + 1 < lo) (hms : C.ms < lo) (h1 : C.Bt < lo) (h2 : C.Bs < lo) (h3 : C.Bw < lo) (h4 : C.Bo < lo) (h5 : C.Bv < lo) (h6 : C.Ro < lo) (h7 : ∀ r, r < C.cs.length → C.Rr r < lo) (hn : C.n ≤ lo) : VMem C st Y W' := by
  have hk : Keep (fun q => q = z) W W' := Keep.of_grown hg rfl
  exact ⟨h.env.keep hk (by omega) (fun q hq => by omega), h.memo.grown hg (by omega) hzc, hk.blk h.bt (by omega), hk.blk h.bs (by omega), hk.blk h.bw (by omega), hk.blk h.bo (by omega), hk.blk h.bv (by omega), hk.blk h.ro (by omega), h.glen, h.rlen,
    fun r row hr => hk.blk (h.grid r row hr) (by have := h7 r (by rw [← h.glen]; exact (List.getElem?_eq_some_iff.1 hr).1); omega), h.seen.same (hg.block _ h.seen.lt (fun e => by cases e; omega))⟩
/-- the memory behind a call of from -/
theorem VMem.memod (h : VMem C st Y W) (hok : VOk C) (hg : W.grownBy W' (some C.mb)) (hm : Memo C.b C.cs C.fs C.mb Y W') : VMem C st Y W' := by
  have hk : Keep (fun q => q = C.mb) W W' := Keep.of_grown hg rfl
  have hz : ∀ {g t : Nat} {us : Array Value}, Blk W g t us → t ≠ 49 → ¬ g = C.mb := fun hb ht e => h.not_zv hb ht (.inl e)
  exact ⟨h.env.keep hk (by omega) (fun q hq => by have := hok.hm; omega), hm, hk.blk h.bt (hz h.bt (by decide)), hk.blk h.bs (hz h.bs (by decide)), hk.blk h.bw (hz h.bw (by decide)), hk.blk h.bo (hz h.bo (by decide)), hk.blk h.bv (hz h.bv (by decide)), hk.blk h.ro (hz h.ro (by decide)), h.glen, h.rlen,
    fun r row hr => hk.blk (h.grid r row hr) (by obtain ⟨es, ck, hm, _⟩ := h.memo; exact blk_ne_map (h.grid r row hr) hm), h.seen.same (hg.block _ h.seen.lt (fun e => by injection e with e; exact hok.ne e.symm))⟩
end
end Go.Proofs.Ytgoianldiomdoaa
/- A visit of a spot: where nothing is to be done. -/
namespace Go.Proofs.Ytgoianldiomdoaa
open Go.RowKit Go.Shelf

theorem bool_zero (W : World) : (zeroValue 4).run Try.prog W = .ok (.bool false) W := by kernel_rfl
/-- a visit's result -/
def GivesVisit (C : VC) (st : VSt) (Y : Nat → Prop) (W : World) (e : Ending) (W' : World) : Prop := (∃ v, e = .returned v) ∧ Chg (ZV C) W W' ∧ VMem C st Y W'

set_option maxRecDepth 10000 in
set_option maxHeartbeats 1000000 in
theorem visit_zero {C : VC} {st : VSt} {Y : Nat → Prop} {W : World} {s : S4} (h : VMem C st Y W) :
    Calls Try.prog 53 #[spotV (C.cs.length : Int) s, .pointer (some ⟨C.Bt, 0, none⟩), .pointer (some ⟨C.Bs, 0, none⟩), .pointer (some ⟨C.Bw, 0, none⟩), .pointer (some ⟨C.Bo, 0, none⟩), .pointer (some ⟨C.Bv, 0, none⟩)] W (GivesVisit C st Y W) := by
  obtain ⟨k0, k1, k2⟩ := h.bt.c3
  have hlt := h.bt.lt
  have H := hid h
  clear h
  go_enter Try.func53, Try.ntmps53
  simp only [spotV]
  go_wp2
  go_end0
  have hb : Below W.heap.size W (W.alloc (.cells #[.int .i64 (C.cs.length : Int), .int .i64 s.a, .int .i64 s.b, .int .i64 s.c, .int .i64 s.d] 89)) := (Below.refl _ _).alloc (Nat.le_refl _) _
  exact ⟨⟨_, rfl⟩, Chg.of_below hb, H.out.below hb⟩

set_option maxRecDepth 10000 in
set_option maxHeartbeats 1000000 in
theorem visit_hit {C : VC} {st : VSt} {Y : Nat → Prop} {W : World} {s : S4} {k r : Nat} (hok : VOk C) (h : VMem C st Y W) (hr : r + (k + 1) = C.cs.length) (hs : Small 200000 s) (hin : (k + 1, s) ∈ st.seen) :
    Calls Try.prog 53 #[spotV (r : Int) s, .pointer (some ⟨C.Bt, 0, none⟩), .pointer (some ⟨C.Bs, 0, none⟩), .pointer (some ⟨C.Bw, 0, none⟩), .pointer (some ⟨C.Bo, 0, none⟩), .pointer (some ⟨C.Bv, 0, none⟩)] W (GivesVisit C st Y W) := by
  obtain ⟨k0, k1, k2⟩ := h.bt.c3
  have k3 := h.bs.c1
  have hlt := h.bt.lt
  have hlt2 := h.bs.lt
  have hne : ((r : Int) == (C.cs.length : Int)) = false := by simp; omega
  have hb : Below W.heap.size W (W.alloc (.cells #[.int .i64 (r : Int), .int .i64 s.a, .int .i64 s.b, .int .i64 s.c, .int .i64 s.d] 89)) := (Below.refl _ _).alloc (Nat.le_refl _) _
  have hlk : (Instr.lookup 97 (.map (some C.ms)) (.agg #[.int .i64 (r : Int), .int .i64 s.a, .int .i64 s.b, .int .i64 s.c, .int .i64 s.d]) false).run Try.prog (W.alloc (.cells #[.int .i64 (r : Int), .int .i64 s.a, .int .i64 s.b, .int .i64 s.c, .int .i64 s.d] 89)) = .ok (.bool true) (W.alloc (.cells #[.int .i64 (r : Int), .int .i64 s.a, .int .i64 s.b, .int .i64 s.c, .int .i64 s.d] 89)) := by
    obtain ⟨es, ck, h1, h2, h3, h4⟩ := h.seen.same (hb.block _ h.seen.lt)
    have hkey := spot_key (r := (r : Int)) (s := s) ⟨by omega, by have := hok.ok.okc.n2; omega⟩ (hs.mono (by decide))
    rcases spot_look (t := 97) false Try.underlying97 (bool_zero _) h1 h2 hkey with ⟨_, hno⟩ | ⟨x, hx, hk, hrun⟩
    · obtain ⟨x, hx, hk⟩ := h4 _ _ hin
      refine absurd ?_ (hno x hx)
      rw [hk]; congr 1; omega
    · obtain ⟨_, _, _, _, _, _, hv⟩ := h3 x hx
      rw [hv] at hrun
      exact hrun
  have H := hid h
  clear h hs hin hb
  go_enter Try.func53, Try.ntmps53
  simp only [spotV]
  go_wp2
  go_end0
  have hb : Below W.heap.size W (W.alloc (.cells #[.int .i64 (r : Int), .int .i64 s.a, .int .i64 s.b, .int .i64 s.c, .int .i64 s.d] 89)) := (Below.refl _ _).alloc (Nat.le_refl _) _
  exact ⟨⟨_, rfl⟩, Chg.of_below hb, H.out.below hb⟩
end Go.Proofs.Ytgoianldiomdoaa
/- A visit: words for its loops. -/
namespace Go.Proofs.Ytgoianldiomdoaa
open Go.RowKit Go.Shelf

theorem Chg.more {Z : Nat → Prop} {A B D : World} {z : Nat} (h : Chg Z A B) (k : B.grownBy D (some z)) (hz : A.heap.size ≤ z) : Chg Z A D :=
  ⟨k.os.trans h.os, k.tape.trans h.tape, k.output.trans h.output, Nat.le_trans h.size k.size, fun i hi hn => (k.block i (Nat.lt_of_lt_of_le hi h.size) (fun e => by cases e; omega)).trans (h.block i hi hn)⟩

/-- what holds when j lists are done -/
structure VLoopI (C : VC) (W0 : World) (s : S4) (r k : Nat) (st : VSt) (Y : Nat → Prop) (y j : Nat) (W : World) : Prop where
  mem : VMem C (visitTo C.b C.cs C.fs k s st j) (fun q => Y q ∨ q = y) W
  sp : Blk W W0.heap.size 89 #[.int .i64 (r : Int), .int .i64 s.a, .int .i64 s.b, .int .i64 s.c, .int .i64 s.d]
  base : Chg (ZV C) W0 W
/-- all lies below this block -/
def VLt (C : VC) (lo : Nat) : Prop := C.mb + 1 < lo ∧ C.ms < lo ∧ C.Bt < lo ∧ C.Bs < lo ∧ C.Bw < lo ∧ C.Bo < lo ∧ C.Bv < lo ∧ C.Ro < lo ∧ (∀ r, r < C.cs.length → C.Rr r < lo) ∧ C.n ≤ lo
theorem VMem.lts {C : VC} {st : VSt} {Y : Nat → Prop} {W : World} (h : VMem C st Y W) : VLt C W.heap.size :=
  ⟨h.env.bp.lt, h.seen.lt, h.bt.lt, h.bs.lt, h.bw.lt, h.bo.lt, h.bv.lt, h.ro.lt, fun r hr => by obtain ⟨row, _, hb⟩ := h.rowBlk hr; exact hb.lt, h.env.hn⟩
theorem VLt.mono {C : VC} {a b : Nat} (h : VLt C a) (hab : a ≤ b) : VLt C b := by
  obtain ⟨h1, h2, h3, h4, h5, h6, h7, h8, h9, h10⟩ := h
  exact ⟨by omega, by omega, by omega, by omega, by omega, by omega, by omega, by omega, fun r hr => by have := h9 r hr; omega, by omega⟩
theorem VMem.grownL {C : VC} {st : VSt} {Y : Nat → Prop} {W W' : World} {lo z : Nat} (h : VMem C st Y W) (hg : W.grownBy W' (some z)) (hz : lo ≤ z) (hzc : Y z ∨ ∃ o, W.heap[z]? = some o ∧ o.isCells = false) (hl : VLt C lo) : VMem C st Y W' := by
  obtain ⟨h1, h2, h3, h4, h5, h6, h7, h8, h9, h10⟩ := hl
  exact h.grown hg hz hzc h1 h2 h3 h4 h5 h6 h7 h8 h9 h10
theorem VMem.fresh {C : VC} {st : VSt} {Y Z : Nat → Prop} {W : World} (h : VMem C st Y W) (hz : ∀ k, Z k → Y k ∨ W.heap.size ≤ k) : VMem C st Z W :=
  ⟨h.env, h.memo.fresh hz, h.bt, h.bs, h.bw, h.bo, h.bv, h.ro, h.glen, h.rlen, h.grid, h.seen⟩
theorem VMem.sub {C : VC} {st : VSt} {Y Z : Nat → Prop} {W : World} (h : VMem C st Y W) (hz : ∀ k, Z k → Y k) : VMem C st Z W := h.fresh fun k hk => .inl (hz k hk)

theorem VMem.keepX {C : VC} {st : VSt} {Y : Nat → Prop} {W W' : World} (h : VMem C st Y W) (hc : Chg (ZV C) W W') : Keep (fun q => ∃ r', r' < C.cs.length ∧ q = C.Rr r') W W' :=
  ⟨hc.os, hc.tape, hc.output, hc.size, fun k cs t fr hk hn => (hc.block k (Array.getElem?_eq_some_iff.1 hk).1 (by
    rintro (e | e | e)
    · obtain ⟨es, ck, hm, _⟩ := h.memo
      rw [e, hm] at hk; cases hk
    · obtain ⟨es, ck, hm, _⟩ := h.seen
      rw [e, hm] at hk; cases hk
    · exact hn e)).trans hk⟩
theorem VLt.not_zv {C : VC} {lo i : Nat} (h : VLt C lo) (hi : lo ≤ i) : ¬ ZV C i := by
  obtain ⟨h1, h2, h3, h4, h5, h6, h7, h8, h9, h10⟩ := h
  rintro (e | e | ⟨r, hr, e⟩)
  · omega
  · omega
  · have := h9 r hr; omega
theorem set_same {α : Type} {l : List α} {i : Nat} {x : α} (h : l[i]? = some x) : l.set i x = l := by
  apply List.ext_getElem?
  intro j
  rw [List.getElem?_set]
  by_cases hj : i = j
  · subst hj
    rw [if_pos rfl, if_pos (List.getElem?_eq_some_iff.1 h).1, h]
  · rw [if_neg hj]
def RowPh (g : Nat) (cs0 cs1 : Array Value) (li : Array Bool) (W : World) : Prop := Blk W g 49 (if li.getD 17 false = true then cs1 else cs0)
section
variable {g q i : Nat} {cs0 cs1 : Array Value} {li : Array Bool} {W W' : World} {v u : Value}
theorem rowPh_other (h : RowPh g cs0 cs1 li W) (hi : i ≠ 17) : RowPh g cs0 cs1 (li.setIfInBounds i true) W := by unfold RowPh; rw [getD_set_oth hi]; exact h
theorem rowPh_below (h : RowPh g cs0 cs1 li W) (hb : Below W.heap.size W W') : RowPh g cs0 cs1 li W' := Blk.keep h hb
theorem rowPh_hi (h : RowPh g cs0 cs1 li W) (h0 : cs0[q * 2 + 1]? = some u) (h1 : cs1 = cs0.setIfInBounds (q * 2) v) : W.cell? ⟨g, q * 2 + 1, none⟩ = some u := by
  unfold RowPh at h
  rw [h.cell]
  split
  · rw [h1, Array.getElem?_setIfInBounds_ne (by omega)]; exact h0
  · exact h0
theorem rowPh_set (h : Blk W g 49 cs0) (h1 : cs1 = cs0.setIfInBounds (q * 2) v) (hl : 17 < li.size) : RowPh g cs0 cs1 (li.setIfInBounds 17 true) (W.setCell ⟨g, q * 2, none⟩ v) := by
  unfold RowPh
  rw [getD_set_eq hl, if_pos rfl, h1]
  exact h.set_ _ _
theorem ints_of_two {x y : Int} (h : Blk W g 3 #[.int .i64 x, .int .i64 y]) : IsInts W W.heap.size (some ⟨g, 0, none⟩) [x, y] := by
  intro k z hk
  refine ⟨_, rfl, h.lt, ?_⟩
  rw [add_blk, h.cell]
  match k, hk with
  | 0, hk => simp at hk; simp [hk]
  | 1, hk => simp at hk; simp [hk]
  | k + 2, hk => simp at hk
end
/-- what holds when some columns of a row are done -/
structure RowI (C : VC) (seen : List (Nat × S4)) (grid : List (List (Int × Int))) (r : Nat) (row : List (Int × Int)) (x : List Int) (Y : Nat → Prop) (W0 : World) (c : Nat) (W : World) : Prop where
  mem : VMem C ⟨seen, grid.set r (updTo row x c)⟩ Y W
  chg : Chg (fun q => q = C.Rr r) W0 W
theorem Chg.sub {Z Z' : Nat → Prop} {A B : World} (h : Chg Z A B) (hz : ∀ q, Z q → Z' q) : Chg Z' A B := ⟨h.os, h.tape, h.output, h.size, fun k hk hn => h.block k hk (fun e => hn (hz k e))⟩

theorem Memo.chg {b : Int} {cs : List (List Int)} {fs : List Fx} {mb g t : Nat} {us : Array Value} {Y : Nat → Prop} {W W' : World} (h : Memo b cs fs mb Y W) (hg : Blk W g t us) (ht : t ≠ 3) (hc : Chg (fun u => u = g) W W') : Memo b cs fs mb Y W' := by
  obtain ⟨es, clock, h1, h2, h3⟩ := h
  refine ⟨es, clock, (hc.block mb (Array.getElem?_eq_some_iff.1 h1).1 (fun e => blk_ne_map hg h1 e.symm)).trans h1, h2, fun e' he' => ?_⟩
  obtain ⟨k, s, A, c, g1, g2, g3, g4, g5⟩ := h3 e' he'
  exact ⟨k, s, A, c, g1, g2, g3, g4, g5.set_ hg ht hc.keep⟩
theorem VMem.rowSet {C : VC} {seen : List (Nat × S4)} {grid : List (List (Int × Int))} {r : Nat} {row0 row1 : List (Int × Int)} {Y : Nat → Prop} {W W' : World} (h : VMem C ⟨seen, grid.set r row0⟩ Y W) (hok : VOk C) (hr : r < C.cs.length) (hc : Chg (fun u => u = C.Rr r) W W') (hb : Blk W' (C.Rr r) 49 (rowCells row1).toArray) (hl : row1.length = colsOf C.cs) : VMem C ⟨seen, grid.set r row1⟩ Y W' := by
  have hz : ∀ {g t : Nat} {us : Array Value}, Blk W g t us → t ≠ 49 → ¬ g = C.Rr r := fun hb ht => h.not_row hb ht r hr
  obtain ⟨row, _, hrb⟩ := h.rowBlk hr
  have hgl : grid.length = C.cs.length := by have := h.glen; simpa using this
  refine ⟨h.env.keep hc.keep (hz h.env.bp (by decide)) (fun q hq => by subst hq; exact hok.hr r hr), h.memo.chg hrb (by decide) hc, hc.keep.blk h.bt (hz h.bt (by decide)), hc.keep.blk h.bs (hz h.bs (by decide)), hc.keep.blk h.bw (hz h.bw (by decide)), hc.keep.blk h.bo (hz h.bo (by decide)), hc.keep.blk h.bv (hz h.bv (by decide)), hc.keep.blk h.ro (hz h.ro (by decide)), by simp [hgl], ?_, ?_, h.seen.same (hc.block _ h.seen.lt (fun e => by
    obtain ⟨es, ck, hm, _⟩ := h.seen
    exact blk_ne_map hrb hm e.symm))⟩
  · intro r' row' hr'
    by_cases e : r = r'
    · subst e
      rw [show (grid.set r row1)[r]? = some row1 by simp [hgl, hr]] at hr'
      injection hr' with hr'
      rw [← hr']; exact hl
    · refine h.rlen r' row' ?_
      show (grid.set r row0)[r']? = _
      have hr'' : (grid.set r row1)[r']? = some row' := hr'
      rw [List.getElem?_set_ne e] at hr'' ⊢
      exact hr''
  · intro r' row' hr'
    by_cases e : r = r'
    · subst e
      rw [show (grid.set r row1)[r]? = some row1 by simp [hgl, hr]] at hr'
      injection hr' with hr'
      rw [← hr']; exact hb
    · have hr'' : (grid.set r row1)[r']? = some row' := hr'
      rw [List.getElem?_set_ne e] at hr''
      have hl' : r' < C.cs.length := by rw [← hgl]; exact (List.getElem?_eq_some_iff.1 hr'').1
      exact hc.keep.blk (h.grid r' row' (by show (grid.set r row0)[r']? = _; rw [List.getElem?_set_ne e]; exact hr'')) (fun e' => e (hok.inj r r' hr hl' e'.symm))
end Go.Proofs.Ytgoianldiomdoaa
/- A visit of a spot that was not met before. -/
namespace Go.Proofs.Ytgoianldiomdoaa
open Go.RowKit Go.Shelf
attribute [local go_sem] Oper.semAt_some

set_option maxRecDepth 100000 in
set_option maxHeartbeats 8000000 in
theorem visit_miss {C : VC} {st : VSt} {Y : Nat → Prop} {W : World} {s : S4} {k r : Nat} (hok : VOk C) (h : VMem C st Y W) (hr : r + (k + 1) = C.cs.length) (hs : Small (10100 * (r : Int)) s) (hY : Y C.mb) (hYl : ∀ q, Y q → q < W.heap.size) (hno : ¬ (k + 1, s) ∈ st.seen)
    (hvisit : ∀ (s' : S4) (st' : VSt) (Y' : Nat → Prop) (W' : World), Small (10100 * ((r + 1 : Nat) : Int)) s' → Y' C.mb → (∀ q, Y' q → q < W'.heap.size) → VMem C st' Y' W' →
      Calls Try.prog 53 #[spotV ((r : Int) + 1) s', .pointer (some ⟨C.Bt, 0, none⟩), .pointer (some ⟨C.Bs, 0, none⟩), .pointer (some ⟨C.Bw, 0, none⟩), .pointer (some ⟨C.Bo, 0, none⟩), .pointer (some ⟨C.Bv, 0, none⟩)] W' (GivesVisit C (visit C.b C.cs C.fs k s' st') Y' W')) :
    Calls Try.prog 53 #[spotV (r : Int) s, .pointer (some ⟨C.Bt, 0, none⟩), .pointer (some ⟨C.Bs, 0, none⟩), .pointer (some ⟨C.Bw, 0, none⟩), .pointer (some ⟨C.Bo, 0, none⟩), .pointer (some ⟨C.Bv, 0, none⟩)] W (GivesVisit C (visit C.b C.cs C.fs (k + 1) s st) Y W) := by
  obtain ⟨k0, k1, k2⟩ := h.bt.c3
  have k3 := h.bs.c1
  have k4 := h.bw.c1
  have hlt := h.bt.lt
  have hlt2 := h.bs.lt
  have hlt3 := h.bw.lt
  have hne : ((r : Int) == (C.cs.length : Int)) = false := by simp; omega
  obtain ⟨es, ck, h1, h2, h3, h4⟩ := id h.seen
  have hrl : r ≤ 4 := by have := hok.ok.okc.n2; omega
  have hkey := spot_key (r := (r : Int)) (s := s) ⟨by omega, by omega⟩ (hs.mono (by omega))
  have hb : Below W.heap.size W (W.alloc (.cells #[.int .i64 (r : Int), .int .i64 s.a, .int .i64 s.b, .int .i64 s.c, .int .i64 s.d] 89)) := (Below.refl _ _).alloc (Nat.le_refl _) _
  have hno' : ∀ x ∈ es.toList, x.key ≠ spotV (r : Int) s := by
    intro x hx e
    obtain ⟨k', s', g1, g2, g3, g4, g5⟩ := h3 x hx
    obtain ⟨e1, rfl⟩ := spotV_inj (g4.symm.trans e)
    obtain rfl : k' = k + 1 := by omega
    exact hno g1
  have h1' := (hb.block _ h.seen.lt).trans h1
  have hlk : (Instr.lookup 97 (.map (some C.ms)) (.agg #[.int .i64 (r : Int), .int .i64 s.a, .int .i64 s.b, .int .i64 s.c, .int .i64 s.d]) false).run Try.prog (W.alloc (.cells #[.int .i64 (r : Int), .int .i64 s.a, .int .i64 s.b, .int .i64 s.c, .int .i64 s.d] 89)) = .ok (.bool false) (W.alloc (.cells #[.int .i64 (r : Int), .int .i64 s.a, .int .i64 s.b, .int .i64 s.c, .int .i64 s.d] 89)) := by
    rcases spot_look (t := 97) false Try.underlying97 (bool_zero _) h1' h2 hkey with ⟨hrun, _⟩ | ⟨x, hx, hk, _⟩
    · exact hrun
    · exact absurd hk (hno' x hx)
  obtain ⟨ck', hmu, hes'⟩ := spot_push (t := 97) Try.underlying97 h1' h2 hkey hno' (.bool true)
  have hmu' : (Instr.mapUpdate 97 (.map (some C.ms)) (.agg #[.int .i64 (r : Int), .int .i64 s.a, .int .i64 s.b, .int .i64 s.c, .int .i64 s.d]) (.bool true)).run Try.prog (W.alloc (.cells #[.int .i64 (r : Int), .int .i64 s.a, .int .i64 s.b, .int .i64 s.c, .int .i64 s.d] 89)) = _ := hmu
  -- the memory with the spot among those that were met
  have hsp := Blk.new W 89 #[.int .i64 (r : Int), .int .i64 s.a, .int .i64 s.b, .int .i64 s.c, .int .i64 s.d]
  have hgp := grownBy_putObj' (W.alloc (.cells #[.int .i64 (r : Int), .int .i64 s.a, .int .i64 s.b, .int .i64 s.c, .int .i64 s.d] 89)) C.ms (.map (es.push ⟨spotV (r : Int) s, .bool true, ck⟩) ck')
  have hnc : ∃ o, (W.alloc (.cells #[.int .i64 (r : Int), .int .i64 s.a, .int .i64 s.b, .int .i64 s.c, .int .i64 s.d] 89)).heap[C.ms]? = some o ∧ o.isCells = false := ⟨_, h1', rfl⟩
  have hK : Keep (fun _ => False) _ _ := Keep.of_other hgp hnc
  have hm0 := h.below hb
  have HM0 := hid (show VMem C ⟨(k + 1, s) :: st.seen, st.grid⟩ Y _ ∧ Blk _ W.heap.size 89 _ ∧ Chg (ZV C) W _ from
    ⟨⟨hm0.env.keep hK id (fun _ h => h.elim), hm0.memo.grown hgp (fun e => hok.ne e.symm) (.inr hnc), hK.blk hm0.bt id, hK.blk hm0.bs id, hK.blk hm0.bw id, hK.blk hm0.bo id, hK.blk hm0.bv id, hK.blk hm0.ro id, hm0.glen, hm0.rlen, fun r' row hr' => hK.blk (hm0.grid r' row hr') id,
      ⟨_, ck', World.putObj_heap_same (Array.getElem?_eq_some_iff.1 h1').1, hes', fun e he => by
        simp only [Array.toList_push, List.mem_append, List.mem_singleton] at he
        rcases he with he | rfl
        · obtain ⟨k', s', g1, g2⟩ := h3 e he
          exact ⟨k', s', List.mem_cons_of_mem _ g1, g2⟩
        · exact ⟨k + 1, s, by simp, by omega, by omega, by show spotV _ _ = spotV _ _; congr 1; omega, rfl⟩, fun k' s' hks => by
        rcases List.mem_cons.1 hks with e | hks
        · injection e with e1 e2
          subst e1 e2
          exact ⟨⟨spotV (r : Int) s', .bool true, ck⟩, by simp, by show spotV _ _ = spotV _ _; congr 1; omega⟩
        · obtain ⟨e, he, hk⟩ := h4 k' s' hks
          exact ⟨e, by simp [he], hk⟩⟩⟩, hK.blk hsp id, (Chg.of_below hb).trans (Chg.of_grown hgp (fun q hq => by cases hq; exact .inr (.inl rfl)))⟩)
  have k5 := HM0.out.1.bw.c1
  have k6 := HM0.out.2.1.c5.1
  have hst0 : C.ms < W.heap.size := h.seen.lt
  have HH := hid (And.intro hok (And.intro hr (And.intro hs (And.intro hY (And.intro hYl (And.intro hno hvisit))))))
  clear h hok hr hs hY hYl hno hvisit h1 h2 h3 h4 hkey hb hno' h1' hmu hes' hsp hgp hnc hK hm0
  refine callsOf (ro := none) (n := 0) ?_
  refine callsIn_of_wp_marks Try.func53 rfl trivial ?_ rfl
  refine wpIn_wide.2 ?_
  simp only [Try.ntmps53, List.size_toArray, List.length_cons, List.length_nil, Nat.reduceAdd, Nat.reduceSub, Array.replicate_succ, Array.replicate_zero, List.push_toArray, List.append_toArray, List.nil_append, List.cons_append]
  simp only [spotV]
  go_wp2_with (go_at_call 54; refine (choices_any _ _ _).mono ?_; rintro e W5 ⟨rfl, hb5, hgw, hgr⟩)
  have hszb : ((W.alloc (.cells #[.int .i64 (r : Int), .int .i64 s.a, .int .i64 s.b, .int .i64 s.c, .int .i64 s.d] 89)).putObj C.ms (.map (es.push ⟨spotV (r : Int) s, .bool true, ck⟩) ck')).heap.size = W.heap.size + 1 := by simp [World.putObj]
  have hm5 := HM0.out.1.below hb5
  have hs5 := HM0.out.2.1.keep hb5
  have hc5 := HM0.out.2.2.trans (Chg.of_below hb5)
  have hnb := hb5.size
  rw [hszb] at hgw hgr hnb
  have hgl := hgr.lt
  have HN := hid (And.intro hm5 (And.intro hs5 (And.intro hc5 (And.intro hgw hgr))))
  have HL := hid (show W.heap.size + 1 + 1 < W5.heap.size from hgl)
  clear hlk hmu' k0 k1 k2 k3 k4 k5 k6 HM0 hm5 hs5 hc5 hgw hgr hgl hnb hszb hb5 hlt hlt2 hlt3
  refine (wpIn_wide (n := 0)).1 ?_
  apply wpIn_rangeFunc_seq (gf := 82) (lb := #[.pointer (some ⟨W.heap.size + 1, 0, none⟩), .pointer (some ⟨W.heap.size + 1 + 1, 0, none⟩)]) (xs := outsAt C.b C.cs C.fs (k + 1)) (X := fun q => ∃ r', r' < C.cs.length ∧ q = C.Rr r') (w0 := W5) (q := 7) (I := VLoopI C W s r k st Y)
  case hg => rfl
  case eg => exact enters_of Try.func82 (by kernel_rfl) rfl
  case hb0 => exact Below.refl _ _
  case hassign =>
    intro l v Wa K hK
    gi_wp2
    exact hK
  case hseq =>
    obtain ⟨hok, hr, hs, hY, hYl, hno, hvisit⟩ := HH.out
    obtain ⟨hm5, hs5, hc5, hgw, hgr⟩ := HN.out
    have hrow := rowAt_get (cs := C.cs) (k := k) (by omega)
    have hrk : C.cs.length - (k + 1) = r := by omega
    rw [hrk] at hrow
    have := choices1_any (X := fun q => ∃ r', r' < C.cs.length ∧ q = C.Rr r') hgw hgr hm5.env.bp hm5.env.hn hm5.env.ic hm5.env.ix hrow (hok.ok.row hrow) (fun q hq => by
      obtain ⟨r', hr', rfl⟩ := hq
      obtain ⟨row, _, hb⟩ := hm5.rowBlk hr'
      exact ⟨hok.hr r' hr', hb.lt, fun e => hm5.not_row hgw (by decide) r' hr' e.symm, fun e => hm5.not_row hgr (by decide) r' hr' e.symm, fun e => hm5.not_row hm5.env.bp (by decide) r' hr' e.symm⟩)
    unfold outsAt
    rw [hrk]
    exact this
  case hI =>
    intro y j Wa Wb z hy hz hi hg hzc
    obtain ⟨hm5, hs5, hc5, hgw, hgr⟩ := HN.out
    have hlz := HL.out
    have hz5 := hc5.size
    refine ⟨hi.mem.grownL hg hz (or_of hzc (fun e => .inr e) id) (hm5.lts), (Keep.of_grown (Z := fun q => q = z) hg rfl).blk hi.sp (by omega), hi.base.more hg (by omega)⟩
  case h0 =>
    intro y hy
    obtain ⟨hm5, hs5, hc5, hgw, hgr⟩ := HN.out
    exact ⟨hm5.fresh (fun q hq => or_of hq id (fun e => by omega)), hs5, hc5⟩
  case hdone =>
    intro D y Wd hD hy hi hkp hdef
    have hgD := grownBy_putObj' Wd D (.deferred none)
    have hnD : ∃ o, Wd.heap[D]? = some o ∧ o.isCells = false := ⟨_, hdef, rfl⟩
    have HI := hid hi
    have HD := hid (And.intro hD (And.intro hdef (And.intro hgD hnD)))
    clear hD hi hkp hdef hgD hnD hy
    go_wp2
    obtain ⟨hD, hdef, hgD, hnD⟩ := HD.out
    obtain ⟨hok, hr, hs, hY, hYl, hno, hvisit⟩ := HH.out
    obtain ⟨hm5, hs5, hc5, hgw, hgr⟩ := HN.out
    refine ⟨by simp, .inl ⟨_, _, rfl, run_takeDeferred hdef, ?_⟩⟩
    refine ⟨.tuple #[], results_none Try.results53 _ _ _, ⟨_, rfl⟩, HI.out.base.more hgD (by have := hc5.size; omega), ?_⟩
    have := (HI.out.mem.grownL hgD hD (.inr hnD) hm5.lts).sub (Z := Y) (fun _ h => .inl h)
    rwa [visitTo_all hno] at this
  case hbody =>
    intro l y j x A c Wc hy hyl hx hi hsz hints hA hc1 hc2 hc3
    obtain ⟨hok, hr, hs, hY, hYl, hno, hvisit⟩ := HH.out
    obtain ⟨hm5, hs5, hc5, hgw, hgr⟩ := HN.out
    have hlts := hm5.lts
    have hW5 := HL.out
    have hr4 : (r : Int) ≤ 4 := by have := hok.ok.okc.n2; omega
    have hr0 : (0 : Int) ≤ (r : Int) := by omega
    have hxm : x ∈ outsAt C.b C.cs C.fs (k + 1) := List.mem_of_getElem? hx
    obtain ⟨hx1, hx2, hx3⟩ := outsAt_mem hok.ok (by omega) hxm
    have HQ := hid (show ∀ W1, Below Wc.heap.size Wc W1 → W1.cell? ⟨W.heap.size, 0, none⟩ = some (.int .i64 (r : Int)) ∧ W1.cell? ⟨W.heap.size, 1, none⟩ = some (.int .i64 s.a) ∧ W1.cell? ⟨W.heap.size, 2, none⟩ = some (.int .i64 s.b) ∧ W1.cell? ⟨W.heap.size, 3, none⟩ = some (.int .i64 s.c) ∧ W1.cell? ⟨W.heap.size, 4, none⟩ = some (.int .i64 s.d) from
      fun W1 hb => (hi.sp.keep hb).c5)
    have HP := hid (show ∀ W1, Below Wc.heap.size Wc W1 → _ from fun W1 hb => plus_any s A c x W1 (hs.mono (by omega)) (hints.at_ hb) hx2 (fun v hv => by have := hx3 v hv; omega))
    have HI := hid hi
    have HSZ := hid hsz
    have HS := hid (visitTo_succ (s := s) (st := st) hx)
    have HA := hid (And.intro hA (And.intro hc1 (And.intro hc2 (And.intro hc3 (And.intro hx1 (And.intro hx2 (And.intro hx3 (And.intro hx (And.intro hxm (And.intro hyl (And.intro hy hints)))))))))))
    clear hok hr hs hY hYl hno hvisit hm5 hs5 hc5 hgw hgr hlts hW5 hxm hx1 hx2 hx3 hi hsz hx hA hc1 hc2 hc3 hyl hy hints
    simp only [List.setIfInBounds_toArray, List.set_cons_succ, List.set_cons_zero]
    gi_wp2
    refine wpIn_region_each 9 (fun i v W' => match i with | 0 => v = .pointer (some ⟨W.heap.size, 0, none⟩) | 1 => v = .int .i64 (r : Int) | 2 => v = .int .i64 ((r : Int) + 1) | 3 => v = .pointer (some ⟨W.heap.size, 1, none⟩) | 4 => v = .agg #[.int .i64 s.a, .int .i64 s.b, .int .i64 s.c, .int .i64 s.d] | 5 => v = .slice A x.length c | 6 => v = .agg #[.int .i64 (plusS s x).a, .int .i64 (plusS s x).b, .int .i64 (plusS s x).c, .int .i64 (plusS s x).d] | 7 => v = .agg #[.int .i64 ((r : Int) + 1), .int .i64 (plusS s x).a, .int .i64 (plusS s x).b, .int .i64 (plusS s x).c, .int .i64 (plusS s x).d] | 8 => ∃ g, v = .pointer (some ⟨g, 0, none⟩) ∧ Wc.heap.size ≤ g ∧ Blk W' g 89 #[.int .i64 0, .int .i64 0, .int .i64 0, .int .i64 0, .int .i64 0] | _ => True) (fun A B => Below A.heap.size A B) (fun _ _ => True) (by kernel_rfl) (by kernel_rfl) ?_ (fun h k => h.trans (k.mono h.size)) ⟨rfl, rfl, rfl, Nat.le_refl _, fun _ _ => rfl⟩ trivial (by kernel_rfl) ?_ ?_
    · intro i v W1 W2 hb h
      match i, h with
      | 0, h => exact h
      | 1, h => exact h
      | 2, h => exact h
      | 3, h => exact h
      | 4, h => exact h
      | 5, h => exact h
      | 6, h => exact h
      | 7, h => exact h
      | 8, h =>
        obtain ⟨g, rfl, h1, h2⟩ := h
        exact ⟨g, rfl, h1, h2.keep hb⟩
      | i + 9, h => trivial
    · refine ⟨?_, ?_, ?_, ?_, ?_, ?_, ?_, ?_, ?_, trivial⟩
      · -- 0: fieldAddr t6 0
        intro li a1 W2 hA K hK
        have e6 := hA.par 6 (by kernel_rfl)
        refine opStep (some l) 0 rfl rfl (fun c hc => by cases hc) ?_
        go_simp
        exact hK _ _ rfl (Below.refl _ _) trivial
      · -- 1: load t30
        intro li a1 W2 hA K hK
        have e30 : a1.tmps.getD 30 undef = .pointer (some ⟨W.heap.size, 0, none⟩) := hA.val 0 30 (by kernel_rfl) (by kernel_rfl)
        obtain ⟨q1, q2, q3, q4, q5⟩ := HQ.out W2 hA.st
        refine opStep (some l) 0 rfl rfl (fun c hc => by cases hc) ?_
        go_simp
        exact hK _ _ rfl (Below.refl _ _) trivial
      · -- 2: add
        intro li a1 W2 hA K hK
        have e31 : a1.tmps.getD 31 undef = .int .i64 (r : Int) := hA.val 1 31 (by kernel_rfl) (by kernel_rfl)
        refine opStep (some l) 0 rfl rfl (fun c hc => by cases hc) ?_
        have hw : IntKind.i64.wrap ((r : Int) + 1) = (r : Int) + 1 := by rw [IntKind.wrap_i64]; omega
        go_simp
        exact hK _ _ (by first | rfl | exact congrArg (Value.int .i64) hw) (Below.refl _ _) trivial
      · -- 3: fieldAddr t6 1
        intro li a1 W2 hA K hK
        have e6 := hA.par 6 (by kernel_rfl)
        refine opStep (some l) 0 rfl rfl (fun c hc => by cases hc) ?_
        go_simp
        exact hK _ _ rfl (Below.refl _ _) trivial
      · -- 4: load t33
        intro li a1 W2 hA K hK
        have e33 : a1.tmps.getD 33 undef = .pointer (some ⟨W.heap.size, 1, none⟩) := hA.val 3 33 (by kernel_rfl) (by kernel_rfl)
        obtain ⟨q1, q2, q3, q4, q5⟩ := HQ.out W2 hA.st
        refine opStep (some l) 0 rfl rfl (fun c hc => by cases hc) ?_
        go_simp
        exact hK _ _ rfl (Below.refl _ _) trivial
      · -- 5: move t7
        intro li a1 W2 hA K hK
        have e7 := hA.par 7 (by kernel_rfl)
        refine opStep (some l) 0 rfl rfl (fun c hc => by cases hc) ?_
        go_simp
        exact hK _ _ rfl (Below.refl _ _) trivial
      · -- 6: call plus
        intro li a1 W2 hA K hK
        have e34 : a1.tmps.getD 34 undef = .agg #[.int .i64 s.a, .int .i64 s.b, .int .i64 s.c, .int .i64 s.d] := hA.val 4 34 (by kernel_rfl) (by kernel_rfl)
        have e35 : a1.tmps.getD 35 undef = .slice A x.length c := hA.val 5 35 (by kernel_rfl) (by kernel_rfl)
        refine opStep (some l) 0 rfl rfl (fun c hc => by cases hc) ?_
        go_simp
        refine (HP.out W2 hA.st).mono ?_
        rintro e W3 ⟨rfl, hb3⟩
        exact hK _ _ rfl hb3 trivial
      · -- 7: build
        intro li a1 W2 hA K hK
        have e32 : a1.tmps.getD 32 undef = .int .i64 ((r : Int) + 1) := hA.val 2 32 (by kernel_rfl) (by kernel_rfl)
        have e36 : a1.tmps.getD 36 undef = .agg #[.int .i64 (plusS s x).a, .int .i64 (plusS s x).b, .int .i64 (plusS s x).c, .int .i64 (plusS s x).d] := hA.val 6 36 (by kernel_rfl) (by kernel_rfl)
        refine opStep (some l) 0 rfl rfl (fun c hc => by cases hc) ?_
        have e32' := e32
        have e36' := e36
        rw [Array.getD_eq_getD_getElem?] at e32' e36'
        go_simp
        exact hK _ _ rfl (Below.refl _ _) trivial
      · -- 8: alloc
        intro li a1 W2 hA K hK
        refine opStep (some l) 0 rfl rfl (fun c hc => by cases hc) ?_
        go_simp
        exact hK _ _ ⟨_, rfl, hA.st.size, Blk.new _ _ _⟩ ((Below.refl _ _).alloc (Nat.le_refl _) _) trivial
    · intro li a1 W2 hD
      have e37 : a1.tmps.getD 37 undef = .agg #[.int .i64 ((r : Int) + 1), .int .i64 (plusS s x).a, .int .i64 (plusS s x).b, .int .i64 (plusS s x).c, .int .i64 (plusS s x).d] := hD.val 7 37 (by kernel_rfl) (by kernel_rfl)
      obtain ⟨gb, e8, hgb, hbl⟩ := hD.val 8 8 (by kernel_rfl) (by kernel_rfl)
      obtain ⟨d0, d1, d2, d3, d4⟩ := hbl.c5
      have f0 := hbl.frozen 0
      have f1 := hbl.frozen 1
      have f2 := hbl.frozen 2
      have f3 := hbl.frozen 3
      have f4 := hbl.frozen 4
      have hgl := hbl.lt
      refine tail_store (i := 9) (W' := set5 W2 gb (.int .i64 ((r : Int) + 1)) (.int .i64 (plusS s x).a) (.int .i64 (plusS s x).b) (.int .i64 (plusS s x).c) (.int .i64 (plusS s x).d)) (some l) 0 rfl rfl rfl (fun c hc => by cases hc) (by unfold set5; go_simp) ?_
      have hg5 := set5_grown W2 gb (.int .i64 ((r : Int) + 1)) (.int .i64 (plusS s x).a) (.int .i64 (plusS s x).b) (.int .i64 (plusS s x).c) (.int .i64 (plusS s x).d)
      have hb5 := set5_blk hbl (.int .i64 ((r : Int) + 1)) (.int .i64 (plusS s x).a) (.int .i64 (plusS s x).b) (.int .i64 (plusS s x).c) (.int .i64 (plusS s x).d)
      have hbe := below_new hD.st hg5 hgb
      have e := hD.act [30, 31, 32, 33, 34, 35, 36, 37, 8] (by kernel_rfl)
      have g8 : (fun i => a1.tmps.getD i undef) 8 = .pointer (some ⟨gb, 0, none⟩) := e8
      have HW3 := hid (And.intro hb5 hbe)
      clear hD e37 e8 hbl d0 d1 d2 d3 d4 f0 f1 f2 f3 f4 hgl hg5 hb5 hbe
      generalize set5 W2 gb (.int .i64 ((r : Int) + 1)) (.int .i64 (plusS s x).a) (.int .i64 (plusS s x).b) (.int .i64 (plusS s x).c) (.int .i64 (plusS s x).d) = W3 at *
      generalize (fun i => a1.tmps.getD i undef) = g at e g8
      refine wpListIn_nil ?_
      rw [e]
      clear e
      simp only [mix, List.contains_cons, List.contains_nil, Nat.reduceAdd, Nat.reduceBEq, Bool.or_false, Bool.or_true, cond_true, cond_false, g8]
      clear g8
      clear W2 a1 li
      have HM3 := hid (HI.out.mem.below HW3.out.2)
      have hlts := HN.out.1.lts
      have hYc : ∀ q, (Y q ∨ q = y) → q < Wc.heap.size := by
        intro q hq
        have h2 := HL.out
        have h3 := HN.out.2.2.1.size
        have h4 := HSZ.out
        rcases hq with h | h
        · have := HH.out.2.2.2.2.1 q h; omega
        · have := HA.out.2.2.2.2.2.2.2.2.2.1; omega
      have hYb : ∀ q, (Y q ∨ q = y) → q < W3.heap.size := fun q hq => Nat.lt_of_lt_of_le (hYc q hq) HW3.out.2.size
      have HF := hid (from_any HH.out.1.ok (by omega) (by have := HH.out.1.hm; omega) k (r + 1) (plusS s x) (fun q => Y q ∨ q = y) W3 (by have := HH.out.2.1; omega) ((plusS_small' HH.out.2.2.1 HA.out.2.2.2.2.2.2.1).mono (by omega)) (.inl HH.out.2.2.2.1) hYb HM3.out.env HM3.out.memo)
      rw [show ((r + 1 : Nat) : Int) = (r : Int) + 1 by omega] at HF
      have HYB := hid hYc
      have HLT := hid hlts
      obtain ⟨d0, d1, d2, d3, d4⟩ := HW3.out.1.c5
      have q1 := HM3.out.bw.c1
      clear hYb hYc hlts
      gi_wp2_with fail
      refine ⟨trivial, callsFW (some l) 0 (HF.out.mono ?_)⟩
      rintro e W4 ⟨A', c', rfl, hg, hm, hgd⟩
      have HM4 := hid (HM3.out.memod HH.out.1 hg hm)
      have HB4 := hid (show Chg (fun q => q = C.mb) Wc W4 from (Chg.of_below HW3.out.2).trans (Chg.of_grown hg (fun q hq => by cases hq; rfl)))
      have HN4 := hid ((Keep.of_grown (Z := fun q => q = C.mb) hg rfl).blk HW3.out.1 (by have := HLT.out.1; have := HSZ.out; omega))
      clear hg hm hgd d0 d1 d2 d3 d4 q1 HF HP HQ
      simp only [restV]
      have hwz : ∀ (b' : Bool), ((spec C.b C.cs C.fs k (plusS s x)).ways == 0) = b' → ((spec C.b C.cs C.fs k (plusS s x)).ways == 0) = b' := fun _ h => h
      have hfl := rest_field (u0 := .int .i64 (spec C.b C.cs C.fs k (plusS s x)).ways) (u1 := .int .i64 (spec C.b C.cs C.fs k (plusS s x)).change) (u2 := .slice A' (spec C.b C.cs C.fs k (plusS s x)).first.length c') 0 3 _ W4 rfl rfl (by simp [go_sem, isAgg])
      clear hwz
      cases h0 : ((spec C.b C.cs C.fs k (plusS s x)).ways == 0)
      · go_simp
        gi_wp2
        clear hfl
        have hrl : r < C.cs.length := by have := HH.out.2.1; omega
        obtain ⟨row, hrow, hrb⟩ := HM4.out.rowBlk hrl
        have hrlen := HM4.out.rlen r row hrow
        have hrx : row.length = x.length := by
          have := HA.out.2.2.2.2.1
          have h1 := (HH.out.1.ok.row (rowAt_get (cs := C.cs) (k := k) (by have := HH.out.2.1; omega)))
          have h2 := HH.out.1.ok.okc.row _ (List.mem_of_getElem? (rowAt_get (cs := C.cs) (k := k) (by have := HH.out.2.1; omega)))
          omega
        have hI0 := hid (show RowI C (visitTo C.b C.cs C.fs k s st j).seen (visitTo C.b C.cs C.fs k s st j).grid r row x (fun q => Y q ∨ q = y) W4 0 W4 from ⟨by
          rw [updTo_zero, set_same hrow]; exact HM4.out, Chg.refl⟩)
        have hx4 := HA.out.2.2.2.2.2.1
        clear hrb
        gi_loopw [45] (fun i wr => ∃ c : Nat, c ≤ x.length ∧ i = .int .i64 c ∧ RowI C (visitTo C.b C.cs C.fs k s st j).seen (visitTo C.b C.cs C.fs k s st j).grid r row x (fun q => Y q ∨ q = y) W4 c wr) (fun i _ => x.length - (intOf i).toNat)
        case atStart => exact ⟨0, Nat.zero_le _, rfl, hI0.out⟩
        case round =>
          obtain ⟨q, hq, rfl, hri⟩ := hrel
          have hRne : ∀ {g t' : Nat} {us : Array Value} {W' : World}, Blk W4 g t' us → t' ≠ 49 → ¬ g = C.Rr r := fun hb ht => HM4.out.not_row hb ht r hrl
          have hkr := hri.chg.keep
          have hsp4 := HB4.out.keep.blk HI.out.sp (fun e => HI.out.mem.not_zv HI.out.sp (by decide) (.inl e))
          have hsp := hkr.blk hsp4 (hRne (W' := W4) hsp4 (by decide))
          have hin4 : IsInts W4 W4.heap.size A x := by
            refine (HB4.out.keep.ints HA.out.2.2.2.2.2.2.2.2.2.2.2 (fun a e he => ?_)).more HB4.out.size
            obtain ⟨_, _, us, hu⟩ := HA.out.1 a e
            exact HI.out.mem.not_zv hu (by decide) (.inl he)
          have hin : IsInts wr wr.heap.size A x := by
            refine (hkr.ints hin4 (fun a e he => ?_)).more hri.chg.size
            obtain ⟨_, _, us, hu⟩ := HA.out.1 a e
            exact hRne (W' := W4) (HB4.out.keep.blk hu (fun he' => HI.out.mem.not_zv hu (by decide) (.inl he'))) (by decide) he
          by_cases hlq : q < x.length
          · obtain ⟨a, rfl, hab, hac⟩ := hin q x[q] (List.getElem?_eq_getElem hlq)
            obtain ⟨p, hp⟩ : ∃ p, row[q]? = some p := ⟨_, List.getElem?_eq_getElem (by omega)⟩
            have hp' : (updTo row x q)[q]? = some p := (updTo_get hrx hlq).trans hp
            have hn3 := HA.out.2.2.2.2.2.2.1 x[q] (List.getElem_mem hlq)
            have hbr := hri.mem.grid r (updTo row x q) (by simp [hrl, HM4.out.glen])
            have HU := hid (updTo_succ hrx hlq)
            have hpe : row[q]'(by omega) = p := by
              obtain ⟨_, e⟩ := List.getElem?_eq_some_iff.1 hp
              exact e
            rw [hpe] at HU
            generalize x[q] = n at *
            have hqI : (q : Int) < (x.length : Int) := by omega
            have hrI : (r : Int) < (C.cs.length : Int) := by omega
            have hqc : (q : Int) < (colsOf C.cs : Int) := by omega
            have c1 := hri.mem.bo.c1
            have c2 : wr.cell? ⟨C.Ro, r, none⟩ = some (.slice (some ⟨C.Rr r, 0, none⟩) (colsOf C.cs) (colsOf C.cs)) := by
              rw [hri.mem.ro.cell]; simp [rowPtrs, hrl]
            have c3 := hsp.c5.1
            have HR := hid hri
            have HP := hid (And.intro hbr (And.intro hp' (And.intro hsp hin)))
            clear hri hRne hkr hsp4 hsp hin4 hin hp hp' hbr hpe hab
            gi_wp2
            clear c1 c2 c3 hqI hrI hqc
            obtain ⟨cs0, hcs0⟩ : ∃ cs0, cs0 = (rowCells (updTo row x q)).toArray := ⟨_, rfl⟩
            obtain ⟨cs1, hcs1⟩ : ∃ cs1, cs1 = cs0.setIfInBounds (q * 2) (Value.int .i64 (min p.1 n)) := ⟨_, rfl⟩
            have HC0 := hid (show cs0[q * 2]? = some (.int .i64 p.1) ∧ cs0[q * 2 + 1]? = some (.int .i64 p.2) by rw [hcs0]; simpa using rowCells_lo HP.out.2.1)
            have HCE := hid hcs0
            have HC1 := hid hcs1
            rw [← hcs0] at HP
            have HRL := hid (show C.Rr r < wr.heap.size from HP.out.1.lt)
            clear hcs0 hcs1
            -- REGION11 BEGIN
            refine wpIn_region_each 18 (fun i v W' => match i with | 0 => v = .pointer (some ⟨C.Rr r, q * 2, none⟩) | 1 => v = .pointer (some ⟨C.Rr r, q * 2, none⟩) | 2 => v = .pointer (some ⟨C.Rr r, q * 2, none⟩) | 3 => v = .pointer (some ⟨C.Rr r, q * 2, none⟩) | 4 => v = .pointer (some ⟨C.Rr r, q * 2, none⟩) | 5 => v = .int .i64 p.1 | 6 => v = .int .i64 n | 7 => ∃ gl, v = .slice (some ⟨gl, 0, none⟩) 2 2 ∧ wr.heap.size ≤ gl ∧ Blk W' gl 3 #[.int .i64 p.1, .int .i64 n] | 8 => v = .int .i64 (min p.1 n) | 9 => v = .pointer (some ⟨C.Rr r, q * 2, none⟩) | 10 => v = .pointer (some ⟨C.Rr r, q * 2, none⟩) | 11 => v = .pointer (some ⟨C.Rr r, q * 2 + 1, none⟩) | 12 => v = .int .i64 p.2 | 13 => v = .int .i64 n | 14 => v = .int .i64 (max p.2 n) | 15 => v = .pointer (some ⟨C.Rr r, q * 2, none⟩) | 16 => v = .pointer (some ⟨C.Rr r, q * 2, none⟩) | _ => True) (fun A B => Chg (fun u => u = C.Rr r) A B) (RowPh (C.Rr r) cs0 cs1) (by kernel_rfl) (by kernel_rfl) ?_ (fun h k => h.trans k) ⟨rfl, rfl, rfl, Nat.le_refl _, fun _ _ _ => rfl⟩ (by unfold RowPh; rw [getD_replicate_false, if_neg (by decide)]; exact HP.out.1) (by kernel_rfl) ?_ ?_
            · intro i v W1 W2 hb h
              match i, h with
              | 0, h => exact h
              | 1, h => exact h
              | 2, h => exact h
              | 3, h => exact h
              | 4, h => exact h
              | 5, h => exact h
              | 6, h => exact h
              | 7, h =>
                obtain ⟨gl, rfl, h1, h2⟩ := h
                exact ⟨gl, rfl, h1, hb.keep.blk h2 (by have := HRL.out; omega)⟩
              | 8, h => exact h
              | 9, h => exact h
              | 10, h => exact h
              | 11, h => exact h
              | 12, h => exact h
              | 13, h => exact h
              | 14, h => exact h
              | 15, h => exact h
              | 16, h => exact h
              | 17, h => exact h
              | i + 18, h => trivial
            · refine ⟨?_, ?_, ?_, ?_, ?_, ?_, ?_, ?_, ?_, ?_, ?_, ?_, ?_, ?_, ?_, ?_, ?_, ?_, trivial⟩
              · -- 0
                intro li a1 W2 hA K hK
                have e11 := hA.par 11 (by kernel_rfl)
                refine opStep (some l) 0 rfl rfl (fun c hc => by cases hc) ?_
                go_simp
                exact hK _ _ rfl Chg.refl (rowPh_other hA.ph (by decide))
              · -- 1
                intro li a1 W2 hA K hK
                have e11 := hA.par 11 (by kernel_rfl)
                refine opStep (some l) 0 rfl rfl (fun c hc => by cases hc) ?_
                go_simp
                exact hK _ _ rfl Chg.refl (rowPh_other hA.ph (by decide))
              · -- 2
                intro li a1 W2 hA K hK
                have e11 := hA.par 11 (by kernel_rfl)
                refine opStep (some l) 0 rfl rfl (fun c hc => by cases hc) ?_
                go_simp
                exact hK _ _ rfl Chg.refl (rowPh_other hA.ph (by decide))
              · -- 3
                intro li a1 W2 hA K hK
                have e59 : a1.tmps.getD 59 undef = .pointer (some ⟨C.Rr r, q * 2, none⟩) := hA.val 2 59 (by kernel_rfl) (by kernel_rfl)
                refine opStep (some l) 0 rfl rfl (fun c hc => by cases hc) ?_
                go_simp
                exact hK _ _ rfl Chg.refl (rowPh_other hA.ph (by decide))
              · -- 4
                intro li a1 W2 hA K hK
                have e60 : a1.tmps.getD 60 undef = .pointer (some ⟨C.Rr r, q * 2, none⟩) := hA.val 3 60 (by kernel_rfl) (by kernel_rfl)
                refine opStep (some l) 0 rfl rfl (fun c hc => by cases hc) ?_
                go_simp
                exact hK _ _ rfl Chg.refl (rowPh_other hA.ph (by decide))
              · -- 5
                intro li a1 W2 hA K hK
                have e61 : a1.tmps.getD 61 undef = .pointer (some ⟨C.Rr r, q * 2, none⟩) := hA.val 4 61 (by kernel_rfl) (by kernel_rfl)
                have hnl : li.getD 17 false = false := by
                  cases hl : li.getD 17 false
                  · rfl
                  · have := hA.past hl 5 (by kernel_rfl); rw [hA.new] at this; cases this
                have hbl : Blk W2 (C.Rr r) 49 cs0 := by have := hA.ph; unfold RowPh at this; rwa [hnl, if_neg (by decide)] at this
                have q1 : W2.cell? ⟨C.Rr r, q * 2, none⟩ = some (.int .i64 p.1) := by rw [hbl.cell]; exact HC0.out.1
                refine opStep (some l) 0 rfl rfl (fun c hc => by cases hc) ?_
                go_simp
                exact hK _ _ rfl Chg.refl (rowPh_other hA.ph (by decide))
              · -- 6
                intro li a1 W2 hA K hK
                have e10 := hA.par 10 (by kernel_rfl)
                refine opStep (some l) 0 rfl rfl (fun c hc => by cases hc) ?_
                go_simp
                exact hK _ _ rfl Chg.refl (rowPh_other hA.ph (by decide))
              · -- 7
                intro li a1 W2 hA K hK
                have e62 : a1.tmps.getD 62 undef = .int .i64 p.1 := hA.val 5 62 (by kernel_rfl) (by kernel_rfl)
                have e63 : a1.tmps.getD 63 undef = .int .i64 n := hA.val 6 63 (by kernel_rfl) (by kernel_rfl)
                have hz1 := hA.st.size
                have e62' := e62
                have e63' := e63
                rw [Array.getD_eq_getD_getElem?] at e62' e63'
                refine opStep (some l) 0 rfl rfl (fun c hc => by cases hc) ?_
                go_simp
                exact hK _ _ ⟨_, rfl, hz1, Blk.new _ _ _⟩ (Chg.of_below ((Below.refl _ _).alloc (Nat.le_refl _) _)) (rowPh_other (rowPh_below hA.ph ((Below.refl _ _).alloc (Nat.le_refl _) _)) (by decide))
              · -- 8
                intro li a1 W2 hA K hK
                obtain ⟨gl, e64, hgl, hbg⟩ := hA.val 7 64 (by kernel_rfl) (by kernel_rfl)
                have hints : IsInts W2 W2.heap.size (some ⟨gl, 0, none⟩) [p.1, n] := ints_of_two hbg
                refine opStep (some l) 0 rfl rfl (fun c hc => by cases hc) ?_
                go_simp
                refine (smallest_any (some ⟨gl, 0, none⟩) 2 [p.1, n] W2 hints (by simp) (by simp)).mono ?_
                rintro e W3 ⟨rfl, rfl⟩
                exact hK _ _ (congrArg (Value.int .i64) (minOf_two _ _)) Chg.refl (rowPh_other hA.ph (by decide))
              · -- 9
                intro li a1 W2 hA K hK
                have e11 := hA.par 11 (by kernel_rfl)
                refine opStep (some l) 0 rfl rfl (fun c hc => by cases hc) ?_
                go_simp
                exact hK _ _ rfl Chg.refl (rowPh_other hA.ph (by decide))
              · -- 10
                intro li a1 W2 hA K hK
                have e66 : a1.tmps.getD 66 undef = .pointer (some ⟨C.Rr r, q * 2, none⟩) := hA.val 9 66 (by kernel_rfl) (by kernel_rfl)
                refine opStep (some l) 0 rfl rfl (fun c hc => by cases hc) ?_
                go_simp
                exact hK _ _ rfl Chg.refl (rowPh_other hA.ph (by decide))
              · -- 11
                intro li a1 W2 hA K hK
                have e67 : a1.tmps.getD 67 undef = .pointer (some ⟨C.Rr r, q * 2, none⟩) := hA.val 10 67 (by kernel_rfl) (by kernel_rfl)
                refine opStep (some l) 0 rfl rfl (fun c hc => by cases hc) ?_
                go_simp
                exact hK _ _ rfl Chg.refl (rowPh_other hA.ph (by decide))
              · -- 12
                intro li a1 W2 hA K hK
                have e68 : a1.tmps.getD 68 undef = .pointer (some ⟨C.Rr r, q * 2 + 1, none⟩) := hA.val 11 68 (by kernel_rfl) (by kernel_rfl)
                have q1 : W2.cell? ⟨C.Rr r, q * 2 + 1, none⟩ = some (.int .i64 p.2) := rowPh_hi hA.ph HC0.out.2 HC1.out
                refine opStep (some l) 0 rfl rfl (fun c hc => by cases hc) ?_
                go_simp
                exact hK _ _ rfl Chg.refl (rowPh_other hA.ph (by decide))
              · -- 13
                intro li a1 W2 hA K hK
                have e10 := hA.par 10 (by kernel_rfl)
                refine opStep (some l) 0 rfl rfl (fun c hc => by cases hc) ?_
                go_simp
                exact hK _ _ rfl Chg.refl (rowPh_other hA.ph (by decide))
              · -- 14
                intro li a1 W2 hA K hK
                have e69 : a1.tmps.getD 69 undef = .int .i64 p.2 := hA.val 12 69 (by kernel_rfl) (by kernel_rfl)
                have e70 : a1.tmps.getD 70 undef = .int .i64 n := hA.val 13 70 (by kernel_rfl) (by kernel_rfl)
                refine opStep (some l) 0 rfl rfl (fun c hc => by cases hc) ?_
                go_simp
                exact hK _ _ (congrArg (Value.int .i64) (by rw [Int.max_def]; split <;> split <;> omega)) Chg.refl (rowPh_other hA.ph (by decide))
              · -- 15
                intro li a1 W2 hA K hK
                have e57 : a1.tmps.getD 57 undef = .pointer (some ⟨C.Rr r, q * 2, none⟩) := hA.val 0 57 (by kernel_rfl) (by kernel_rfl)
                refine opStep (some l) 0 rfl rfl (fun c hc => by cases hc) ?_
                go_simp
                exact hK _ _ rfl Chg.refl (rowPh_other hA.ph (by decide))
              · -- 16
                intro li a1 W2 hA K hK
                have e72 : a1.tmps.getD 72 undef = .pointer (some ⟨C.Rr r, q * 2, none⟩) := hA.val 15 72 (by kernel_rfl) (by kernel_rfl)
                refine opStep (some l) 0 rfl rfl (fun c hc => by cases hc) ?_
                go_simp
                exact hK _ _ rfl Chg.refl (rowPh_other hA.ph (by decide))
              · -- 17
                intro li a1 W2 hA K hK
                have e73 : a1.tmps.getD 73 undef = .pointer (some ⟨C.Rr r, q * 2, none⟩) := hA.val 16 73 (by kernel_rfl) (by kernel_rfl)
                have e65 : a1.tmps.getD 65 undef = .int .i64 (min p.1 n) := hA.val 8 65 (by kernel_rfl) (by kernel_rfl)
                have hbl : Blk W2 (C.Rr r) 49 cs0 := by have := hA.ph; unfold RowPh at this; rwa [hA.new, if_neg (by decide)] at this
                have q1 : W2.cell? ⟨C.Rr r, q * 2, none⟩ = some (.int .i64 p.1) := by rw [hbl.cell]; exact HC0.out.1
                have q2 := hbl.frozen (q * 2)
                have q3 := hbl.lt
                refine opStep (some l) 0 rfl rfl (fun c hc => by cases hc) ?_
                go_simp
                exact hK undef _ trivial (Chg.of_grown (grown_of_set W2 ⟨C.Rr r, q * 2, none⟩ _) (fun u hu => by cases hu; rfl)) (rowPh_set hbl HC1.out (by rw [hA.lsize]; decide))
            -- REGION11 END
            · intro li a1 W2 hD
              have e58 : a1.tmps.getD 58 undef = .pointer (some ⟨C.Rr r, q * 2, none⟩) := hD.val 1 58 (by kernel_rfl) (by kernel_rfl)
              have e71 : a1.tmps.getD 71 undef = .int .i64 (max p.2 n) := hD.val 14 71 (by kernel_rfl) (by kernel_rfl)
              have hb1 : Blk W2 (C.Rr r) 49 cs1 := by have := hD.ph; unfold RowPh at this; rwa [hD.all 17 (by decide), if_pos rfl] at this
              have hkp := hD.keeps (ds := [57, 58, 59, 60, 61, 62, 63, 64, 65, 66, 67, 68, 69, 70, 71, 72, 73, 74, 75]) (by kernel_rfl)
              have hds := hD.size
              have hs80 : a1.tmps.size = 80 := hD.size
              have hdd := hD.defers
              have hst := hD.st
              clear hD
              refine tail_val (i := 18) (v := .pointer (some ⟨C.Rr r, q * 2, none⟩)) (W' := W2) (some l) 0 rfl rfl rfl (fun c hc => by cases hc) (by go_simp) (by rw [hs80]; decide) ?_
              intro a2 s2 d2 f2 o2
              have hkp2 := keeps_then hkp o2 (by decide)
              refine tail_val (i := 19) (v := .pointer (some ⟨C.Rr r, q * 2 + 1, none⟩)) (W' := W2) (some l) 0 rfl rfl rfl (fun c hc => by cases hc) (by go_simp) (by rw [s2, hs80]; decide) ?_
              intro a3 s3 d3 f3 o3
              have hkp3 := keeps_then hkp2 o3 (by decide)
              have e71' := (o3 71 (by decide)).trans ((o2 71 (by decide)).trans e71)
              have q1 : W2.cell? ⟨C.Rr r, q * 2 + 1, none⟩ = some (.int .i64 p.2) := by rw [hb1.cell, HC1.out, Array.getElem?_setIfInBounds_ne (by omega)]; exact HC0.out.2
              have q2 := hb1.frozen (q * 2 + 1)
              have q3 := hb1.lt
              refine tail_store (i := 20) (W' := W2.setCell ⟨C.Rr r, q * 2 + 1, none⟩ (.int .i64 (max p.2 n))) (some l) 0 rfl rfl rfl (fun c hc => by cases hc) (by go_simp) ?_
              have hb2 := hb1.set_ (q * 2 + 1) (.int .i64 (max p.2 n))
              have hcells : cs1.setIfInBounds (q * 2 + 1) (.int .i64 (max p.2 n)) = (rowCells (updTo row x (q + 1))).toArray := by
                rw [HC1.out, HCE.out, HU.out, updC, ← rowCells_set]; simp
              rw [hcells] at hb2
              have hc2 := hst.trans (Chg.of_grown (grown_of_set W2 ⟨C.Rr r, q * 2 + 1, none⟩ (.int .i64 (max p.2 n))) (fun u hu => by cases hu; rfl))
              have hlt1 : (updTo row x (q + 1)).length = colsOf C.cs := by rw [updTo_len hrx]; exact hrlen
              have HN := hid (show RowI C (visitTo C.b C.cs C.fs k s st j).seen (visitTo C.b C.cs C.fs k s st j).grid r row x (fun q => Y q ∨ q = y) W4 (q + 1) _ from ⟨HR.out.mem.rowSet HH.out.1 hrl hc2 hb2 hlt1, HR.out.chg.trans hc2⟩)
              have e := act_mix [57, 58, 59, 60, 61, 62, 63, 64, 65, 66, 67, 68, 69, 70, 71, 72, 73, 74, 75] (s3.trans (s2.trans hds)) (d3.trans (d2.trans hdd)) (fun i _ hc => hkp3 i hc)
              clear hb1 hb2 hcells hc2 hlt1 hkp hkp2 hkp3 q1 q2 q3 e58 e71 e71' s2 s3 d2 d3 f2 f3 o2 o3 hds hs80 hdd hst HC0 HC1 HCE HU HP HR HRL
              generalize W2.setCell ⟨C.Rr r, q * 2 + 1, none⟩ (.int .i64 (max p.2 n)) = W3' at *
              generalize (fun i => a3.tmps.getD i undef) = g' at e
              refine wpListIn_nil ?_
              rw [e]
              clear e a1 a2 li
              simp only [mix, List.contains_cons, List.contains_nil, Nat.reduceAdd, Nat.reduceBEq, Bool.or_false, Bool.or_true, cond_true, cond_false]
              gi_wp2
              go_roundw
              case rel => exact ⟨q + 1, by omega, by go_num, HN.out⟩
              case measure => simp [intOf]; omega
          · have hqI : decide ((q : Int) < (x.length : Int)) = false := by simp; omega
            obtain rfl : q = x.length := by omega
            have HR := hid hri
            have hn4 := hkr.blk HN4.out (hRne (W' := W4) HN4.out (by decide))
            have c1 := hri.mem.bv.c1
            obtain ⟨d0, d1, d2, d3, d4⟩ := hn4.c5
            clear hri hRne hkr hsp4 hsp hin4 hin hn4
            have HV := hid (HH.out.2.2.2.2.2.2 (plusS s x) ⟨(visitTo C.b C.cs C.fs k s st j).seen, (visitTo C.b C.cs C.fs k s st j).grid.set r (updTo row x x.length)⟩ (fun q => Y q ∨ q = y) wr ((plusS_small' HH.out.2.2.1 HA.out.2.2.2.2.2.2.1).mono (by omega)) (.inl HH.out.2.2.2.1) (fun q hq => by
              have h1 := HYB.out q hq
              have h2 := HB4.out.size
              have h3 := HR.out.chg.size
              omega) HR.out.mem)
            gi_wp2_with fail
            refine ⟨trivial, callsFW (some l) 0 (HV.out.mono ?_)⟩
            rintro e W7 ⟨⟨v, rfl⟩, hch, hmem⟩
            have hall : Chg (ZV C) Wc W7 := ((HB4.out.sub (fun q hq => .inl hq)).trans (HR.out.chg.sub (fun q hq => .inr (.inr ⟨r, hrl, hq⟩)))).trans hch
            have hrk : C.cs.length - (k + 1) = r := by have := HH.out.2.1; omega
            have hst' : updG (visitTo C.b C.cs C.fs k s st j).grid r x = (visitTo C.b C.cs C.fs k s st j).grid.set r (updTo row x x.length) := by
              unfold updG updR
              rw [show (visitTo C.b C.cs C.fs k s st j).grid.getD r [] = row by simp [List.getD, hrow]]
            rw [← hst'] at hmem
            have HF := hid (show RoundOk W5.heap.size (VLoopI C W s r k st Y) (fun q => ∃ r', r' < C.cs.length ∧ q = C.Rr r') y j Wc .normal W7 from
              ⟨rfl, ⟨by rw [HS.out, if_neg (by rw [h0]; decide), hrk]; exact hmem, hall.keep.blk HI.out.sp (HI.out.mem.not_zv HI.out.sp (by decide)), HI.out.base.trans hall⟩, HI.out.mem.keepX hall, fun i h1 h2 => hall.block i h2 (HLT.out.not_zv h1)⟩)
            clear hch hmem hall hrk hst'
            gi_wp2
            exact HF.out
      · go_simp
        gi_wp2
        refine ⟨rfl, ⟨by rw [HS.out, if_pos h0]; exact HM4.out, HB4.out.keep.blk HI.out.sp (fun e => HI.out.mem.not_zv HI.out.sp (by decide) (.inl e)), HI.out.base.trans (HB4.out.sub (fun q hq => .inl hq))⟩, HI.out.mem.keepX (HB4.out.sub (fun q hq => .inl hq)), fun i h1 h2 => HB4.out.block i h2 (fun e => by have := HLT.out.1; omega)⟩

theorem visit_any {C : VC} (hok : VOk C) : ∀ (k r : Nat) (s : S4) (st : VSt) (Y : Nat → Prop) (W : World), r + k = C.cs.length → Small (10100 * (r : Int)) s → Y C.mb → (∀ q, Y q → q < W.heap.size) → VMem C st Y W →
    Calls Try.prog 53 #[spotV (r : Int) s, .pointer (some ⟨C.Bt, 0, none⟩), .pointer (some ⟨C.Bs, 0, none⟩), .pointer (some ⟨C.Bw, 0, none⟩), .pointer (some ⟨C.Bo, 0, none⟩), .pointer (some ⟨C.Bv, 0, none⟩)] W (GivesVisit C (visit C.b C.cs C.fs k s st) Y W) := by
  intro k
  induction k with
  | zero =>
    intro r s st Y W hr hs hY hYl h
    have hrl : r = C.cs.length := by omega
    subst hrl
    exact visit_zero h
  | succ k ih =>
    intro r s st Y W hr hs hY hYl h
    have hn2 := hok.ok.okc.n2
    by_cases hin : (k + 1, s) ∈ st.seen
    · have := visit_hit hok h hr (hs.mono (by omega)) hin
      rw [visit, if_pos hin]
      exact this
    · refine visit_miss hok h hr hs hY hYl hin ?_
      intro s' st' Y' W' q1 q2 q3 q4
      exact ih (r + 1) s' st' Y' W' (by omega) q1 q2 q3 q4
end Go.Proofs.Ytgoianldiomdoaa
