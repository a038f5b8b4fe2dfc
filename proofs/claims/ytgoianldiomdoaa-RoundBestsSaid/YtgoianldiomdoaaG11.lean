/- The tables of neighbours by bits, the order of numbers; the best rounding in plain words. Conditions stand at each theorem. -/
import Derived.Deep.Cut
import Derived.IntWalk
import Derived.Test.YtgoianldiomdoaaG5
import Derived.Test.YtgoianldiomdoaaG6
import Derived.Test.YtgoianldiomdoaaG9
import Derived.Test.YtgoianldiomdoaaG10
/- The reference's table of neighbours with a number, and the law's. -/
namespace Go.Proofs.Ytgoianldiomdoaa
open Go.RowKit Go.Shelf

def nthRow (b : Int) : List Int → Int → List Int × Int
  | [], q => ([], q)
  | x :: xs, q => ((lowOf b x + (if 0 < x % b then (nthRow b xs q).2 % 2 * b else 0)) :: (nthRow b xs q).1, if 0 < x % b then (nthRow b xs q).2 / 2 else (nthRow b xs q).2)
def nthT (b : Int) : List (List Int) → Int → List (List Int) × Int
  | [], q => ([], q)
  | x :: xs, q => ((nthRow b x (nthT b xs q).2).1 :: (nthT b xs q).1, (nthRow b x (nthT b xs q).2).2)
theorem nthRow_len (b : Int) : ∀ (xs : List Int) (q : Int), (nthRow b xs q).1.length = xs.length
  | [], _ => rfl
  | x :: xs, q => by simp [nthRow, nthRow_len b xs q]
theorem nthT_len (b : Int) : ∀ (xs : List (List Int)) (q : Int), (nthT b xs q).1.length = xs.length
  | [], _ => rfl
  | x :: xs, q => by simp [nthT, nthT_len b xs q]
theorem nthRow_nn (b : Int) : ∀ (xs : List Int) (q : Int), 0 ≤ q → 0 ≤ (nthRow b xs q).2 ∧ (nthRow b xs q).2 ≤ q
  | [], q, h => ⟨h, Int.le_refl _⟩
  | x :: xs, q, h => by
    have ih := nthRow_nn b xs q h
    simp only [nthRow]
    split
    · exact ⟨by omega, by omega⟩
    · exact ih
theorem nthT_nn (b : Int) : ∀ (xs : List (List Int)) (q : Int), 0 ≤ q → 0 ≤ (nthT b xs q).2 ∧ (nthT b xs q).2 ≤ q
  | [], q, h => ⟨h, Int.le_refl _⟩
  | x :: xs, q, h => by
    have ih := nthT_nn b xs q h
    have := nthRow_nn b x (nthT b xs q).2 ih.1
    simp only [nthT]
    omega
theorem nthRow_drop (b : Int) : ∀ (j : Nat) (xs : List Int) (q : Int), (nthRow b (xs.drop j) q).1 = (nthRow b xs q).1.drop j
  | 0, _, _ => rfl
  | j + 1, [], q => by simp [nthRow]
  | j + 1, x :: xs, q => by simp [nthRow, nthRow_drop b j xs q]
theorem nthT_drop (b : Int) : ∀ (j : Nat) (xs : List (List Int)) (q : Int), (nthT b (xs.drop j) q).1 = (nthT b xs q).1.drop j
  | 0, _, _ => rfl
  | j + 1, [], q => by simp [nthT]
  | j + 1, x :: xs, q => by simp [nthT, nthT_drop b j xs q]
theorem nthRow_at {b : Int} {xs : List Int} {q : Int} {c : Nat} {x : Int} (hx : xs[c]? = some x) :
    (nthRow b xs q).1.getD c 0 = lowOf b x + (if 0 < x % b then (nthRow b (xs.drop (c + 1)) q).2 % 2 * b else 0) ∧ (nthRow b (xs.drop c) q).2 = if 0 < x % b then (nthRow b (xs.drop (c + 1)) q).2 / 2 else (nthRow b (xs.drop (c + 1)) q).2 := by
  obtain ⟨hc, e⟩ := List.getElem?_eq_some_iff.1 hx
  have hd : xs.drop c = x :: xs.drop (c + 1) := by rw [List.drop_eq_getElem_cons hc, e]
  have h1 := nthRow_drop b c xs q
  have h2 : (nthRow b xs q).1.getD c 0 = ((nthRow b xs q).1.drop c).getD 0 0 := by simp [List.getD, List.getElem?_drop]
  rw [h2, ← h1, hd]
  exact ⟨rfl, rfl⟩
theorem nthT_at {b : Int} {cs : List (List Int)} {q : Int} {r : Nat} {x : List Int} (hx : cs[r]? = some x) :
    (nthT b cs q).1[r]? = some (nthRow b x (nthT b (cs.drop (r + 1)) q).2).1 ∧ (nthT b (cs.drop r) q).2 = (nthRow b x (nthT b (cs.drop (r + 1)) q).2).2 := by
  obtain ⟨hc, e⟩ := List.getElem?_eq_some_iff.1 hx
  have hd : cs.drop r = x :: cs.drop (r + 1) := by rw [List.drop_eq_getElem_cons hc, e]
  have h1 := nthT_drop b r cs q
  have h2 : (nthT b cs q).1[r]? = ((nthT b cs q).1.drop r)[0]? := by simp [List.getElem?_drop]
  rw [h2, ← h1, hd]
  exact ⟨rfl, rfl⟩

def rowsC (n : Nat) (f : Nat → Value) : Array Value := ((List.range n).map f).toArray
theorem rowsC_get {n : Nat} {f : Nat → Value} {i : Nat} (h : i < n) : (rowsC n f)[i]? = some (f i) := by simp [rowsC, h]
theorem rowsC_set {n k : Nat} {f f' : Nat → Value} {v : Value} (hv : v = f' k) (h : ∀ i, i < n → i ≠ k → f' i = f i) : (rowsC n f).setIfInBounds k v = rowsC n f' := by
  apply Array.ext
  · simp [rowsC]
  · intro i h1 h2
    have hi : i < n := by simpa [rowsC] using h2
    rw [Array.getElem_setIfInBounds (by simpa [rowsC] using hi)]
    by_cases hk : k = i
    · subst hk; rw [if_pos rfl]; simp [rowsC, hv]
    · rw [if_neg hk]; simp [rowsC, h i hi (fun e => hk e.symm)]
def outV (cs : List (List Int)) (Rr : Nat → Nat) (k i : Nat) : Value := if i < k then .slice none 0 0 else .slice (some ⟨Rr i, 0, none⟩) (cs.getD i []).length (cs.getD i []).length
def partF (R : List Int) (j i : Nat) : Int := if i < j then 0 else R.getD i 0
structure NthI (cs : List (List Int)) (T : List (List Int)) (go : Nat) (Rr : Nat → Nat) (k : Nat) (w W : World) : Prop where
  out : Blk W go 56 (rowsC cs.length (outV cs Rr k))
  rows : ∀ i xs, k ≤ i → T[i]? = some xs → Blk W (Rr i) 3 (cellsF xs.length (partF xs 0)) ∧ w.heap.size ≤ Rr i
  h : w.heap.size ≤ go
  below : Below w.heap.size w W
/-- within row k, when the cells from j on are done -/
structure NthJ (cs : List (List Int)) (T : List (List Int)) (R : List Int) (go : Nat) (Rr : Nat → Nat) (k : Nat) (F : Nat → Int) (w W : World) : Prop where
  out : Blk W go 56 (rowsC cs.length (outV cs Rr k))
  cur : Blk W (Rr k) 3 (cellsF R.length F)
  hc : w.heap.size ≤ Rr k
  rows : ∀ i xs, k + 1 ≤ i → T[i]? = some xs → Blk W (Rr i) 3 (cellsF xs.length (partF xs 0)) ∧ w.heap.size ≤ Rr i ∧ Rr i ≠ Rr k
  h : w.heap.size ≤ go
  below : Below w.heap.size w W
theorem NthJ.store {cs T : List (List Int)} {R : List Int} {go : Nat} {Rr : Nat → Nat} {k c : Nat} {F F' : Nat → Int} {w W : World} {v : Int} (h : NthJ cs T R go Rr k F w W) (hv : v = F' c) (hf : ∀ i, i < R.length → i ≠ c → F' i = F i) :
    NthJ cs T R go Rr k F' w (W.setCell ⟨Rr k, c, none⟩ (.int .i64 v)) := by
  refine ⟨h.out.far (p := ⟨Rr k, c, none⟩) (Blk.ne_ h.out h.cur (by decide)) _, ?_, h.hc, fun i xs hi hx => ?_, h.h, h.below.setCell (p := ⟨Rr k, c, none⟩) h.hc _⟩
  · rw [← cellsF_set hv hf]
    exact h.cur.set_ c _
  · obtain ⟨a, b, c'⟩ := h.rows i xs hi hx
    exact ⟨a.far (p := ⟨Rr k, c, none⟩) c' _, b, c'⟩
theorem NthJ.drew {cs T : List (List Int)} {R : List Int} {go : Nat} {Rr : Nat → Nat} {k : Nat} {F : Nat → Int} {w W : World} (h : NthJ cs T R go Rr k F w W) : NthJ cs T R go Rr k F w W.drew :=
  ⟨h.out.drew, h.cur.drew, h.hc, fun i xs hi hx => ⟨(h.rows i xs hi hx).1.drew, (h.rows i xs hi hx).2⟩, h.h, h.below.drew⟩
def GivesNth (b : Int) (cs : List (List Int)) (q : Int) (w : World) (e : Ending) (w' : World) : Prop :=
  ∃ go, e = .returned (.slice (some ⟨go, 0, none⟩) cs.length cs.length) ∧ IsRows w' w'.heap.size (some ⟨go, 0, none⟩) (nthT b cs q).1 ∧ Below w.heap.size w w'

set_option maxRecDepth 100000 in
set_option maxHeartbeats 4000000 in
theorem nth_any (b : Int) (A : Option Addr) (c : Nat) (cs : List (List Int)) (A2 : Option Addr) (c2 : Nat) (fs : List Fx) (q : Int) (w : World) (h : TIn A c cs A2 c2 fs w) (ok : Okc b cs) (hq : 0 ≤ q) (hq2 : q ≤ 4294967295) :
    Calls Try.prog 57 #[.agg #[.int .i64 b, .slice A cs.length c, .slice A2 fs.length c2], .int .i64 q] w (GivesNth b cs q w) := by
  have hB := below_box (w := w) #[.int .i64 b, .slice A cs.length c, .slice A2 fs.length c2] 25
  have hT := Blk.new w 25 #[.int .i64 b, .slice A cs.length c, .slice A2 fs.length c2]
  have HB := hid hB
  have HT := hid hT
  have HH := hid h
  have OK := hid ok
  have hb1 := ok.b1
  have hb2 := ok.b2
  have hn5 := ok.n2
  have hn1 := ok.n1
  have hc4 := ok.c2
  have hm1 := h.m1
  have hl1 := h.l1
  unfold maxLen at hm1
  have hk1 := run_make_row' (P := Try.prog) 22 56 (.slice none 0 0) 24 Try.underlying22 rows_info rfl .i64 .i64 cs.length (by omega) (by omega)
  obtain ⟨t0, t1, t2⟩ := hT.c3
  clear h hB hT ok
  go_enter Try.func57, Try.ntmps57
  obtain ⟨T, hTT⟩ : ∃ T, T = (nthT b cs q).1 := ⟨_, rfl⟩
  have HTT := hid hTT
  have htl : T.length = cs.length := by rw [hTT, nthT_len]
  have HTL := hid htl
  clear hTT htl
  go_wp2
  clear t0 t1 t2 hk1
  refine gen (p := Code.wp _ _ _ _) (fun W => NthI cs T (w.heap.size + 1) (fun _ => 0) cs.length w W ∧ Blk W w.heap.size 25 #[.int .i64 b, .slice A cs.length c, .slice A2 fs.length c2]) ?_ ?_
  · have k1 := Blk.new (w.alloc (.cells #[.int .i64 b, .slice A cs.length c, .slice A2 fs.length c2] 25)) 56 (madeCells #[.slice none 0 0] cs.length)
    rw [World.size_alloc] at k1
    refine ⟨⟨?_, fun i xs hi hx => ?_, by omega, HB.out.alloc HB.out.size _⟩, HT.out.alloc _⟩
    · have e : madeCells #[Value.slice none 0 0] cs.length = rowsC cs.length (outV cs (fun _ => 0) cs.length) := by
        apply Array.ext
        · rw [size_madeCells]; simp [rowsC]
        · intro i h1 h2
          have hi : i < cs.length := by simpa [rowsC] using h2
          simp [rowsC, madeCells, outV, hi, Nat.mod_one]
      rw [← e]; exact k1
    · have := (List.getElem?_eq_some_iff.1 hx).1
      have := HTL.out
      omega
  rintro W1 ⟨hI, hT1⟩
  have HI := hid hI
  have HT1 := hid hT1
  clear hI hT1
  obtain ⟨go, hgo⟩ : ∃ go, go = w.heap.size + 1 := ⟨_, rfl⟩
  rw [← hgo] at HI
  rw [← hgo]
  have hgo1 : go ≠ w.heap.size := by omega
  have hgo2 : w.heap.size ≤ go := by omega
  have HGO := hid hgo1
  clear hgo hgo1
  go_loopw [6, 1] (fun i t wr => ∃ (k : Nat) (Rr : Nat → Nat) (z : Int), z = (k : Int) - 1 ∧ k ≤ cs.length ∧ i = .int .i64 z ∧ t = .int .i64 (nthT b (cs.drop k) q).2 ∧ NthI cs T go Rr k w wr ∧ Blk wr w.heap.size 25 #[.int .i64 b, .slice A cs.length c, .slice A2 fs.length c2]) (fun i _ _ => ((intOf i) + 1).toNat)
  case atStart => exact ⟨cs.length, _, _, rfl, Nat.le_refl _, rfl, by rw [List.drop_length]; rfl, HI.out, HT1.out⟩
  case round =>
    obtain ⟨k, Rr, z, hz, hk, rfl, rfl, hi, hT2⟩ := hrel
    clear HI HT1
    have HI := hid hi
    have HT2 := hid hT2
    clear hi
    cases k with
    | zero =>
      obtain rfl : z = -1 := by omega
      have hfin := hid (show GivesNth b cs q w (.returned (.slice (some ⟨go, 0, none⟩) cs.length cs.length)) wr by
        have hi := HI.out
        refine ⟨go, rfl, fun r xs hx => ?_, hi.below⟩
        rw [← HTT.out] at hx
        have hr := (List.getElem?_eq_some_iff.1 hx).1
        have hrc : r < cs.length := by have := HTL.out; omega
        obtain ⟨hb, hbs⟩ := hi.rows r xs (Nat.zero_le _) hx
        have hlen : xs.length = (cs.getD r []).length := by
          have hy := List.getElem?_eq_getElem hrc
          have := (nthT_at (b := b) (q := q) hy).1
          rw [← HTT.out, hx] at this
          injection this with this
          rw [this, nthRow_len, List.getD, hy]; rfl
        have e := hi.out.cell r
        rw [rowsC_get hrc] at e
        unfold outV at e
        rw [if_neg (by omega), ← hlen] at e
        refine ⟨_, some ⟨Rr r, 0, none⟩, xs.length, rfl, hi.out.lt, ?_, Nat.le_refl _, ?_, fun j x hj => ⟨_, rfl, hb.lt, ?_⟩⟩
        · rw [show (⟨go, 0, none⟩ : Addr).add r = ⟨go, r, none⟩ by unfold Addr.add; split <;> simp_all]; exact e
        · have := OK.out.c2
          have hy := List.getElem?_eq_getElem hrc
          have := OK.out.row _ (List.mem_of_getElem? hy)
          rw [hlen, List.getD, hy]
          unfold maxLen
          simp only [Option.getD_some]
          omega
        · have hjl := (List.getElem?_eq_some_iff.1 hj).1
          rw [show (⟨Rr r, 0, none⟩ : Addr).add j = ⟨Rr r, j, none⟩ by unfold Addr.add; split <;> simp_all, hb.cell, cellsF_get hjl]
          unfold partF
          rw [if_neg (by omega), List.getD, hj]; rfl)
      clear hz
      go_wp2
      go_ret
      exact hfin.out
    | succ k =>
      obtain rfl : z = (k : Int) := by omega
      have hkc : (k : Int) < (cs.length : Int) := by omega
      have hkn : k < cs.length := by omega
      obtain ⟨xs, hxs⟩ : ∃ xs, cs[k]? = some xs := ⟨_, List.getElem?_eq_getElem hkn⟩
      have hxl := OK.out.row xs (List.mem_of_getElem? hxs)
      have hgx : cs.getD k [] = xs := by rw [List.getD, hxs]; rfl
      obtain ⟨a, A1, c1, rfl, p1, p2, p3, p4, p5⟩ := (HH.out.at_ HI.out.below).ic k xs hxs
      obtain ⟨t0, t1, t2⟩ := hT2.c3
      obtain ⟨q1, hq1⟩ : ∃ q1, q1 = (nthT b (cs.drop (k + 1)) q).2 := ⟨_, rfl⟩
      have hqn := nthT_nn b (cs.drop (k + 1)) q hq
      rw [← hq1] at hqn
      rw [← hq1]
      have HQ1 := hid hq1
      have HXS := hid (And.intro hxs (And.intro hxl hgx))
      have hx4 : xs.length ≤ 4 := by omega
      have hk2 := run_make_row' (P := Try.prog) 56 3 (.int .i64 0) 8 Try.underlying56 int_info rfl .i64 .i64 xs.length (by omega) (by omega)
      obtain ⟨R, hR⟩ : ∃ R, R = (nthRow b xs q1).1 := ⟨_, rfl⟩
      have hRl : R.length = xs.length := by rw [hR, nthRow_len]
      have HR := hid hR
      have HRL := hid hRl
      have hgl := HI.out.out.lt
      have hgf := HI.out.out.frozen k
      have hgf2 : ∀ o, (wr.alloc o).frozen? ⟨go, k, none⟩ = false := fun o => (HI.out.out.alloc o).frozen k
      have hgc : wr.cell? ⟨go, k, none⟩ = some (.slice none 0 0) := by
        rw [HI.out.out.cell, rowsC_get hkn]; unfold outV; rw [if_pos (by omega)]
      have hgc2 : ∀ o, (wr.alloc o).cell? ⟨go, k, none⟩ = some (.slice none 0 0) := fun o => by
        rw [(HI.out.out.alloc o).cell, rowsC_get hkn]; unfold outV; rw [if_pos (by omega)]
      have hgl2 : go < wr.heap.size + 1 := by omega
      have hqn1 := hqn.1
      have hqn2 := hqn.2
      unfold maxLen at p4
      clear hxs hxl hgx hq1 hR hRl hqn p5 hz hT2
      go_upto_region 6 with (fail)
      clear t0 t1 t2 p2 hgc hgc2 hgf hgf2 hk2
      obtain ⟨Rr', hRr'⟩ : ∃ Rr' : Nat → Nat, Rr' = fun i => if i = k then wr.heap.size else Rr i := ⟨_, rfl⟩
      refine gen (p := Code.wp _ _ _ _) (fun W => NthJ cs T R go Rr' k (partF R xs.length) w W ∧ Blk W w.heap.size 25 #[.int .i64 b, .slice (some a) cs.length c, .slice A2 fs.length c2]) ?_ ?_
      · have hi := HI.out
        have hk' : Rr' k = wr.heap.size := by rw [hRr']; simp
        have hko : ∀ i, i ≠ k → Rr' i = Rr i := fun i hi => by rw [hRr']; simp [hi]
        have hs : wr.heap.size = (wr.setCell ⟨go, k, none⟩ (.slice (some ⟨wr.heap.size, 0, none⟩) xs.length xs.length)).heap.size := by simp
        refine ⟨⟨?_, ?_, ?_, fun i ys hi2 hy => ?_, hgo2, ?_⟩, ?_⟩
        · have e : (rowsC cs.length (outV cs Rr (k + 1))).setIfInBounds k (.slice (some ⟨wr.heap.size, 0, none⟩) xs.length xs.length) = rowsC cs.length (outV cs Rr' k) := by
            refine rowsC_set (f' := outV cs Rr' k) ?_ fun i _ hik => ?_
            · unfold outV; rw [if_neg (by omega), hk', HXS.out.2.2]
            · unfold outV
              by_cases h1 : i < k
              · rw [if_pos h1, if_pos (by omega)]
              · rw [if_neg h1, if_neg (by omega), hko i hik]
          rw [← e]
          exact (hi.out.set_ k _).alloc _
        · rw [hk', HRL.out]
          have := Blk.new (wr.setCell ⟨go, k, none⟩ (.slice (some ⟨wr.heap.size, 0, none⟩) xs.length xs.length)) 3 (madeCells #[.int .i64 0] xs.length)
          rw [← hs] at this
          rw [cellsF_ext (F := fun _ => 0) (fun i hi => by unfold partF; rw [if_pos hi]), ← cellsF_zero]
          exact this
        · rw [hk']; exact hi.below.size
        · obtain ⟨h1, h2⟩ := hi.rows i ys hi2 hy
          rw [hko i (by omega), hk']
          exact ⟨(h1.far (p := ⟨go, k, none⟩) (fun e => by
            have := hi.out
            rw [← show Rr i = go from e] at this
            exact Blk.ne_ h1 this (by decide) rfl) _).alloc _, h2, by have := h1.lt; omega⟩
        · exact (hi.below.setCell (p := ⟨go, k, none⟩) hgo2 _).alloc (by rw [← hs]; exact hi.below.size) _
        · exact (HT2.out.far (p := ⟨go, k, none⟩) (fun e => HGO.out e.symm) _).alloc _
      rintro W1 ⟨hJ, hT3⟩
      have HJ := hid hJ
      have HT3 := hid hT3
      obtain ⟨t0, t1, t2⟩ := hT3.c3
      have p2 := (((HH.out.at_ HJ.out.below).ic k xs HXS.out.1))
      obtain ⟨a9, A9, c9, he, r1, r2, r3, r4, r5⟩ := p2
      injection he with he
      subst he
      unfold maxLen at r4
      clear hJ hT3 r5 hRr' HI HT2
      go_wp2
      clear t0 t1 t2 r2
      go_loopw [7, 1] (fun i t W => ∃ (j : Nat) (z : Int), z = (j : Int) - 1 ∧ j ≤ xs.length ∧ i = .int .i64 z ∧ t = .int .i64 (nthRow b (xs.drop j) q1).2 ∧ NthJ cs T R go Rr' k (partF R j) w W ∧ Blk W w.heap.size 25 #[.int .i64 b, .slice (some a) cs.length c, .slice A2 fs.length c2]) (fun i _ _ => ((intOf i) + 1).toNat)
      case atStart => exact ⟨xs.length, _, rfl, Nat.le_refl _, rfl, by rw [List.drop_length]; rfl, HJ.out, HT3.out⟩
      case round =>
        obtain ⟨j, z, hz, hj, rfl, rfl, hj2, hT4⟩ := hrel
        clear HJ HT3
        have HJ := hid hj2
        have HT4 := hid hT4
        clear hj2
        cases j with
        | zero =>
          obtain rfl : z = -1 := by omega
          have HN := hid (show NthI cs T go Rr' k w wr by
            have hi := HJ.out
            refine ⟨hi.out, fun i ys hi2 hy => ?_, hi.h, hi.below⟩
            by_cases hik : i = k
            · subst hik
              have e := (nthT_at (b := b) (q := q) HXS.out.1).1
              rw [← HTT.out, hy, ← HQ1.out, ← HR.out] at e
              injection e with e
              subst e
              exact ⟨hi.cur, hi.hc⟩
            · obtain ⟨h1, h2, h3⟩ := hi.rows i ys (by omega) hy
              exact ⟨h1, h2⟩)
          have HQE := hid (show (nthRow b (xs.drop 0) q1).2 = (nthT b (cs.drop k) q).2 by
            have e := (nthT_at (b := b) (q := q) HXS.out.1).2
            rw [e, ← HQ1.out]; rfl)
          clear hz hT4
          go_wp2
          go_roundw
          case rel => exact ⟨k, Rr', _, rfl, by omega, rfl, by rw [HQE.out], HN.out, HT4.out⟩
          case measure => first | (simp [intOf]; done) | (simp [intOf]; omega)
        | succ j =>
          obtain rfl : z = (j : Int) := by omega
          have hjx : (j : Int) < (xs.length : Int) := by omega
          obtain ⟨x, hx⟩ : ∃ x, xs[j]? = some x := ⟨_, List.getElem?_eq_getElem (by omega)⟩
          obtain ⟨hx1, hx2⟩ := OK.out.cell xs (List.mem_of_getElem? HXS.out.1) x (List.mem_of_getElem? hx)
          obtain ⟨q2, hq2⟩ : ∃ q2, q2 = (nthRow b (xs.drop (j + 1)) q1).2 := ⟨_, rfl⟩
          have hq2n := nthRow_nn b (xs.drop (j + 1)) q1 hqn1
          rw [← hq2] at hq2n
          rw [← hq2]
          obtain ⟨hq21, hq22⟩ := hq2n
          have hat := nthRow_at (b := b) (q := q1) hx
          rw [← HR.out, ← hq2] at hat
          have HAT := hid hat
          have HQ2 := hid hq2
          clear hq2
          have m1 := Int.emod_nonneg x (show b ≠ 0 by omega)
          have m2 := Int.emod_lt_of_pos x (show 0 < b by omega)
          have m3 := Int.mul_ediv_add_emod x b
          have m4 := Int.mul_nonneg (show 0 ≤ b by omega) (Int.ediv_nonneg hx1 (show 0 ≤ b by omega))
          obtain ⟨u, hu⟩ : ∃ u, u = x % b := ⟨_, rfl⟩
          have hlo : lowOf b x = x - u := by unfold lowOf; rw [hu]
          rw [hlo] at hat
          rw [hlo, ← hu] at HAT
          rw [← hu] at m1 m2 m3
          have hux : u ≤ x := by omega
          have hxu : x % b = u := hu.symm
          obtain ⟨a8, A8, c8, he, p1, p2, p3, p4, p5⟩ := (HH.out.at_ HJ.out.below).ic k xs HXS.out.1
          injection he with he
          subst he
          unfold maxLen at p4
          obtain ⟨ax, rfl, v1, v2⟩ := p5 j x hx
          obtain ⟨t0, t1, t2⟩ := hT4.c3
          have hjR : j < R.length := by have := HRL.out; omega
          have o1 : wr.cell? ⟨go, k, none⟩ = some (.slice (some ⟨Rr' k, 0, none⟩) xs.length xs.length) := by
            rw [HJ.out.out.cell, rowsC_get hkn]; unfold outV; rw [if_neg (by omega), HXS.out.2.2]
          have o2 := HJ.out.cur.cell j
          rw [cellsF_get hjR] at o2
          have o3 := HJ.out.cur.frozen j
          have o4 := HJ.out.cur.lt
          have k1 : ∀ u, (wr.setCell ⟨Rr' k, j, none⟩ u).cell? ⟨w.heap.size, 0, none⟩ = some (.int .i64 b) := fun u => ((HT4.out.far (p := ⟨Rr' k, j, none⟩) (Blk.ne_ HT4.out HJ.out.cur (by decide)) u).c3).1
          have hb0 : (b == 0) = false := by simp; omega
          have hb00 : ¬ b = 0 := by omega
          have htm : x.tmod b = u := by rw [Int.tmod_eq_emod_of_nonneg hx1]; exact hxu
          have hw1 : IntKind.i64.wrap u = u := IntWalk.i64_in _ (by omega)
          have hw2 : IntKind.i64.wrap (x - u) = x - u := IntWalk.i64_in _ (by omega)
          have HU := hid hu
          have HN1 := hid (show NthJ cs T R go Rr' k (fun i => if i = j then x - u else partF R (j + 1) i) w (wr.setCell ⟨Rr' k, j, none⟩ (.int .i64 (x - u))).drew from
            (HJ.out.store (c := j) (F' := fun i => if i = j then x - u else partF R (j + 1) i) (by simp) (fun i _ hi => by simp [hi])).drew)
          have HTN := hid (show Blk (wr.setCell ⟨Rr' k, j, none⟩ (.int .i64 (x - u))).drew w.heap.size 25 #[.int .i64 b, .slice (some a) cs.length c, .slice A2 fs.length c2] from (HT4.out.far (p := ⟨Rr' k, j, none⟩) (Blk.ne_ HT4.out HJ.out.cur (by decide)) _).drew)
          clear hat hu hlo hx p5 hT4 hz
          by_cases hup : 0 < u
          · have HUP := hid hup
            go_wp2
            go_still_tail 11, (by kernel_rfl)
            go_wp2
            refine gen (p := Code.wp _ _ _ _) (fun W => NthJ cs T R go Rr' k (fun i => if i = j then x - u else partF R (j + 1) i) w W ∧ Blk W w.heap.size 25 #[.int .i64 b, .slice (some a) cs.length c, .slice A2 fs.length c2]) ⟨HN1.out, HTN.out⟩ ?_
            rintro W2 ⟨hJ2, hT5⟩
            clear HJ HT4 HN1 HTN t0 t1 t2 p2 v2 o1 o2 o3 o4 k1
            have HJ := hid hJ2
            have HT4 := hid hT5
            obtain ⟨t0, t1, t2⟩ := hT5.c3
            have o1 : W2.cell? ⟨go, k, none⟩ = some (.slice (some ⟨Rr' k, 0, none⟩) xs.length xs.length) := by
              rw [hJ2.out.cell, rowsC_get hkn]; unfold outV; rw [if_neg (by omega), HXS.out.2.2]
            have o2 := hJ2.cur.cell j
            rw [cellsF_get hjR, if_pos rfl] at o2
            have o3 := hJ2.cur.frozen j
            have o4 := hJ2.cur.lt
            have hm1' := Int.emod_nonneg q2 (show (2 : Int) ≠ 0 by omega)
            have hm2' := Int.emod_lt_of_pos q2 (show (0 : Int) < 2 by omega)
            obtain ⟨y, hy⟩ : ∃ y, y = q2 % 2 * b := ⟨_, rfl⟩
            have hy0 : 0 ≤ y ∧ y ≤ 100 := by
              rw [hy]
              have : q2 % 2 = 0 ∨ q2 % 2 = 1 := by omega
              rcases this with h | h <;> rw [h] <;> omega
            obtain ⟨hy1, hy2⟩ := hy0
            have hqy : q2 % 2 * b = y := hy.symm
            have htm2 : q2.tmod 2 = q2 % 2 := Int.tmod_eq_emod_of_nonneg hq21
            have hw3 : IntKind.i64.wrap (q2 % 2) = q2 % 2 := IntWalk.i64_in _ (by omega)
            have hw4 : IntKind.i64.wrap y = y := IntWalk.i64_in _ (by omega)
            have hw5 : IntKind.i64.wrap (x - u + y) = x - u + y := IntWalk.i64_in _ (by omega)
            have HY := hid hy
            have HN1 := hid (show NthJ cs T R go Rr' k (partF R j) w (W2.setCell ⟨Rr' k, j, none⟩ (.int .i64 (x - u + y))).drew from
              (hJ2.store (c := j) (F' := partF R j) (by
                unfold partF
                rw [if_neg (by omega), HAT.out.1, if_pos HUP.out, HY.out]) (fun i _ hi => by
                unfold partF
                rw [if_neg hi]
                by_cases h1 : i < j
                · rw [if_pos h1, if_pos (by omega)]
                · rw [if_neg h1, if_neg (by omega)])).drew)
            have HTN := hid (show Blk (W2.setCell ⟨Rr' k, j, none⟩ (.int .i64 (x - u + y))).drew w.heap.size 25 #[.int .i64 b, .slice (some a) cs.length c, .slice A2 fs.length c2] from (hT5.far (p := ⟨Rr' k, j, none⟩) (Blk.ne_ hT5 hJ2.cur (by decide)) _).drew)
            clear hJ2 hT5 hy
            go_still_tail 13, (by kernel_rfl)
            go_wp2
            go_roundw
            case rel => exact ⟨j, _, rfl, by omega, rfl, by first | rw [HAT.out.2, if_pos HUP.out] | (rw [HAT.out.2, if_pos HUP.out]; rfl), HN1.out, HTN.out⟩
            case measure => first | (simp [intOf]; done) | (simp [intOf]; omega)
          · obtain rfl : u = 0 := by omega
            have HN2 := hid (show NthJ cs T R go Rr' k (partF R j) w (wr.setCell ⟨Rr' k, j, none⟩ (.int .i64 (x - 0))).drew from
              (HJ.out.store (c := j) (F' := partF R j) (by
                unfold partF
                rw [if_neg (by omega), HAT.out.1, if_neg (by omega), Int.add_zero]) (fun i _ hi => by
                unfold partF
                by_cases h1 : i < j
                · rw [if_pos h1, if_pos (by omega)]
                · rw [if_neg h1, if_neg (by omega)])).drew)
            rw [Int.sub_zero] at HN2 HTN
            clear HN1
            go_wp2
            go_still_tail 11, (by kernel_rfl)
            go_wp2
            go_roundw
            case rel => exact ⟨j, _, rfl, by omega, rfl, by rw [HAT.out.2, if_neg (by omega)], HN2.out, HTN.out⟩
            case measure => first | (simp [intOf]; done) | (simp [intOf]; omega)
end Go.Proofs.Ytgoianldiomdoaa
/- The reference's order of numbers; the law's table with a number. -/
namespace Go.Proofs.Ytgoianldiomdoaa
open Go.RowKit Go.Shelf

theorem ltL_at : ∀ {j : Nat} {x y : List Int} {u v : Int}, x.take j = y.take j → x[j]? = some u → y[j]? = some v → u ≠ v → ltL x y = decide (u < v)
  | 0, a :: x, b :: y, u, v, _, h1, h2, h3 => by
    simp at h1 h2
    subst h1 h2
    have : (a == b) = false := by simpa using h3
    simp [ltL, this]
  | j + 1, a :: x, b :: y, u, v, h, h1, h2, h3 => by
    simp at h
    obtain ⟨rfl, h⟩ := h
    simp only [List.getElem?_cons_succ] at h1 h2
    have := ltL_at h h1 h2 h3
    have hd : decide (a < a) = false := by simp
    simp only [ltL, hd, this, beq_self_eq_true, Bool.true_and, Bool.false_or]
  | _, [], _, u, v, _, h1, _, _ => by simp at h1
  | _, _ :: _, [], u, v, _, _, h2, _ => by simp at h2
theorem ltT_at : ∀ {j : Nat} {x y : List (List Int)} {u v : List Int}, x.take j = y.take j → x[j]? = some u → y[j]? = some v → u ≠ v → ltT x y = ltL u v
  | 0, a :: x, b :: y, u, v, _, h1, h2, h3 => by
    simp at h1 h2
    subst h1 h2
    have : (a == b) = false := by simpa using h3
    simp [ltT, this]
  | j + 1, a :: x, b :: y, u, v, h, h1, h2, h3 => by
    simp at h
    obtain ⟨rfl, h⟩ := h
    simp only [List.getElem?_cons_succ] at h1 h2
    have := ltT_at h h1 h2 h3
    simp [ltT, this, ltL_irrefl]
  | _, [], _, u, v, _, h1, _, _ => by simp at h1
  | _, _ :: _, [], u, v, _, _, h2, _ => by simp at h2

set_option maxRecDepth 100000 in
set_option maxHeartbeats 4000000 in
theorem before_any (A : Option Addr) (c : Nat) (a : List (List Int)) (B : Option Addr) (c2 : Nat) (b : List (List Int)) (w : World) (ha : IsRows w w.heap.size A a) (hb : IsRows w w.heap.size B b) (hl : a.length ≤ 1000000)
    (he : a.length = b.length) (hlen : ∀ (k : Nat) (x y : List Int), a[k]? = some x → b[k]? = some y → x.length = y.length) :
    Calls Try.prog 44 #[.slice A a.length c, .slice B b.length c2] w fun e w' => e = .returned (.bool (ltT a b)) ∧ Below w.heap.size w w' := by
  have HA := hid ha
  have HB := hid hb
  have HL := hid he
  have HLEN := hid hlen
  clear ha hb he hlen
  go_enter Try.func44, Try.ntmps44
  go_wp2
  go_loopw [5] (fun i wr => ∃ k : Nat, k ≤ a.length ∧ i = .int .i64 k ∧ a.take k = b.take k ∧ Below w.heap.size w wr) (fun i _ => a.length - (intOf i).toNat)
  case atStart => exact ⟨0, Nat.zero_le _, rfl, rfl, Below.refl _ _⟩
  case round =>
    obtain ⟨k, hk, rfl, htk, hbe⟩ := hrel
    by_cases hlt : k < a.length
    · have hltb : k < b.length := by have := HL.out; omega
      have hkI : (k : Int) < (a.length : Int) := by omega
      obtain ⟨x, hx⟩ : ∃ x, a[k]? = some x := ⟨_, List.getElem?_eq_getElem hlt⟩
      obtain ⟨y, hy⟩ : ∃ y, b[k]? = some y := ⟨_, List.getElem?_eq_getElem hltb⟩
      have hxy := HLEN.out k x y hx hy
      have HX := hid (And.intro hx (And.intro hy (And.intro htk (And.intro hbe hxy))))
      clear hx hy htk hbe hxy
      go_wp2
      go_loopw [6] (fun i W => ∃ j : Nat, j ≤ x.length ∧ i = .int .i64 j ∧ x.take j = y.take j ∧ Below w.heap.size w W) (fun i _ => x.length - (intOf i).toNat)
      case atStart => exact ⟨0, Nat.zero_le _, rfl, rfl, HX.out.2.2.2.1⟩
      case round =>
        obtain ⟨j, hj, rfl, htj, hbj⟩ := hrel
        obtain ⟨aa, Ax, cx, rfl, a1, a2, a3, a4, a5⟩ := (HA.out.at_ hbj) k x HX.out.1
        obtain ⟨ab, Ay, cy, rfl, b1, b2, b3, b4, b5⟩ := (HB.out.at_ hbj) k y HX.out.2.1
        have hkb : (k : Int) < (b.length : Int) := by omega
        unfold maxLen at a4 b4
        by_cases hlj : j < x.length
        · have hjI : (j : Int) < (x.length : Int) := by omega
          have hjy : (j : Int) < (y.length : Int) := by have := HX.out.2.2.2.2; omega
          obtain ⟨u, hu⟩ : ∃ u, x[j]? = some u := ⟨_, List.getElem?_eq_getElem hlj⟩
          obtain ⟨v, hv⟩ : ∃ v, y[j]? = some v := ⟨_, List.getElem?_eq_getElem (by have := HX.out.2.2.2.2; omega)⟩
          obtain ⟨ax, rfl, c1, c2'⟩ := a5 j u hu
          obtain ⟨ay, rfl, d1, d2⟩ := b5 j v hv
          have q1 := xt_cell a2
          have q2 := xt_cell b2
          have q3 := xt_cell c2'
          have q4 := xt_cell d2
          have HJ := hid (And.intro hu (And.intro hv (And.intro htj hbj)))
          clear hu hv htj hbj a5 b5 c2' d2 b2
          by_cases huv : u = v
          · have hd : (u != v) = false := by simp [huv]
            have HD := hid hd
            have HUV := hid huv
            clear hd huv
            go_wp2
            clear a2
            refine wp_region_quiet_xt (by kernel_rfl) (by kernel_rfl) ?_
            repeat (go_big_quiet_step (fail))
            refine wpQuiet_nil ?_
            intro W3 hw3
            replace hw3 := of_xt hw3
            have HW3 := hid hw3
            clear hw3 q1 q2 q3 q4
            have hd := HD.out
            simp only [hd]
            clear hd
            go_wp2
            go_roundw
            case rel => exact ⟨j + 1, by omega, by go_num, take_step HJ.out.2.2.1 HJ.out.1 HJ.out.2.1 HUV.out, HJ.out.2.2.2.trans (HW3.out.mono HJ.out.2.2.2.size)⟩
            case measure => first | (simp [intOf]; done) | (simp [intOf]; omega)
          · have hd : (u != v) = true := by simp [huv]
            have HD := hid hd
            have HS := hid (show ltT a b = decide (u < v) by
              rw [ltT_at HX.out.2.2.1 HX.out.1 HX.out.2.1 (ne_of_at HJ.out.1 HJ.out.2.1 huv)]
              exact ltL_at HJ.out.2.2.1 HJ.out.1 HJ.out.2.1 huv)
            clear hd huv
            go_wp2
            clear a2
            refine wp_region_quiet_xt (by kernel_rfl) (by kernel_rfl) ?_
            repeat (go_big_quiet_step (fail))
            refine wpQuiet_nil ?_
            intro W3 hw3
            replace hw3 := of_xt hw3
            have HW3 := hid hw3
            clear hw3 q1 q2 q3 q4
            have hd := HD.out
            simp only [hd]
            clear hd
            have HB3 := hid (HJ.out.2.2.2.trans (HW3.out.mono HJ.out.2.2.2.size))
            have HA4 := hid (HA.out.at_ HB3.out k x HX.out.1)
            have HB4 := hid (HB.out.at_ HB3.out k y HX.out.2.1)
            obtain ⟨aa', Ax', cx', e1, a1', a2', a3', a4', a5'⟩ := HA4.out
            injection e1 with e1
            subst e1
            obtain ⟨ab', Ay', cy', e2, b1', b2', b3', b4', b5'⟩ := HB4.out
            injection e2 with e2
            subst e2
            obtain ⟨ax', rfl, c1', c2''⟩ := a5' j u HJ.out.1
            obtain ⟨ay', rfl, d1', d2'⟩ := b5' j v HJ.out.2.1
            have q1 := xt_cell a2'
            have q2 := xt_cell b2'
            have q3 := xt_cell c2''
            have q4 := xt_cell d2'
            unfold maxLen at a4' b4'
            clear a5' b5' a2' b2' c2'' d2'
            go_wp2
            refine wp_region_quiet_xt (by kernel_rfl) (by kernel_rfl) ?_
            repeat (go_big_quiet_step (fail))
            refine wpQuiet_nil ?_
            intro W4 hw4
            replace hw4 := of_xt hw4
            have HW4 := hid (HB3.out.trans (hw4.mono HB3.out.size))
            clear hw4 q1 q2 q3 q4
            go_wp2
            go_ret
            exact ⟨ret_bool HS.out.symm, HW4.out⟩
        · have hjI : decide ((j : Int) < (x.length : Int)) = false := by simp; omega
          obtain rfl : j = x.length := by omega
          have HE := hid (And.intro (eq_of_take htj HX.out.2.2.2.2) hbj)
          clear a5 b5 htj hbj b2
          go_wp2
          go_roundw
          case rel => exact ⟨k + 1, by omega, by go_num, take_step HX.out.2.2.1 HX.out.1 HX.out.2.1 HE.out.1, HE.out.2⟩
          case measure => first | (simp [intOf]; done) | (simp [intOf]; omega)
    · have hkI : decide ((k : Int) < (a.length : Int)) = false := by simp; omega
      obtain rfl : k = a.length := by omega
      have HS := hid (show ltT a b = false by rw [eq_of_take htk HL.out]; exact ltT_irrefl b)
      have HBE := hid hbe
      clear htk hbe
      go_wp2
      go_ret
      exact ⟨ret_bool HS.out.symm, HBE.out⟩

set_option maxRecDepth 100000 in
set_option maxHeartbeats 1000000 in
theorem tried_any (b : Int) (A : Option Addr) (c : Nat) (cs : List (List Int)) (A2 : Option Addr) (c2 : Nat) (fs : List Fx) (q : Int) (w : World) (h : TIn A c cs A2 c2 fs w) (ok : Okc b cs) (hq : 0 ≤ q) (hq2 : q ≤ 4294967295) :
    Calls Try.prog 38 #[.agg #[.int .i64 b, .slice A cs.length c, .slice A2 fs.length c2], .int .u32 q] w (GivesNth b cs q w) := by
  have hB := below_box (w := w) #[.int .i64 b, .slice A cs.length c, .slice A2 fs.length c2] 25
  have hT := Blk.new w 25 #[.int .i64 b, .slice A cs.length c, .slice A2 fs.length c2]
  have HB := hid hB
  have K := hid (nth_any b A c cs A2 c2 fs q _ (h.at_ hB) ok hq hq2)
  obtain ⟨t0, t1, t2⟩ := hT.c3
  clear h hB hT ok
  go_enter Try.func38, Try.ntmps38
  go_wp2_with fail
  refine K.out.mono ?_
  rintro e w2 ⟨go, rfl, hr, hb⟩
  have HN := hid (show GivesNth b cs q w (.returned (.slice (some ⟨go, 0, none⟩) cs.length cs.length)) w2 from ⟨go, rfl, hr, HB.out.trans (hb.mono HB.out.size)⟩)
  clear t0 t1 t2 hr hb K
  go_wp2
  go_ret
  exact HN.out
end Go.Proofs.Ytgoianldiomdoaa
/- What the laws say of the best rounding, in plain words. -/
namespace Go.Proofs.Ytgoianldiomdoaa

theorem ready_chk {b : Int} {cs : List (List Int)} {fs : List Fx} (h : readyB b cs fs = true) : chkE b cs fs = 0 := by
  unfold readyB at h
  rw [Bool.and_eq_true] at h
  simpa using h.2
section
variable {b : Int} {cs : List (List Int)} {fs : List Fx} {T : List (List Int)}
theorem ways_len : (spec b cs fs cs.length zeroS).ways = (rnds b cs fs cs.length zeroS).length := (spec_rnds b cs fs cs.length zeroS).1
theorem ways_ne (hw : (spec b cs fs cs.length zeroS).ways ≠ 0) : rnds b cs fs cs.length zeroS ≠ [] := fun e => hw (by rw [ways_len, e]; rfl)
theorem none_plain (hw : (spec b cs fs cs.length zeroS).ways = 0) : ¬ IsR b cs fs T := fun h => by
  rw [ways_len] at hw
  have : rnds b cs fs cs.length zeroS = [] := List.eq_nil_of_length_eq_zero (by omega)
  have hm := rnds_isR.2 h
  rw [this] at hm
  cases hm
theorem best_plain (hw : (spec b cs fs cs.length zeroS).ways ≠ 0) : Best (rnds b cs fs cs.length zeroS) (costK cs cs.length) (bestOf b cs fs cs.length zeroS) ∧ (spec b cs fs cs.length zeroS).change = changeOf (bestOf b cs fs cs.length zeroS) cs := by
  obtain ⟨h1, h2⟩ := (spec_rnds b cs fs cs.length zeroS).2 (ways_ne hw)
  exact ⟨h1, by rw [h2, costK_change (bestOf_len _ _)]⟩
theorem best_isR (hw : (spec b cs fs cs.length zeroS).ways ≠ 0) : IsR b cs fs (bestOf b cs fs cs.length zeroS) := rnds_isR.1 (best_plain hw).1.mem
theorem least_plain (hb : 2 ≤ b) (hw : (spec b cs fs cs.length zeroS).ways ≠ 0) (hT : IsR b cs fs T) : (spec b cs fs cs.length zeroS).change ≤ changeOf T cs ∧ (changeOf T cs = (spec b cs fs cs.length zeroS).change → ltT T (bestOf b cs fs cs.length zeroS) = false) := by
  obtain ⟨h1, h2⟩ := best_plain hw
  have hm := rnds_isR.2 hT
  have e := costK_change (cs := cs) (x := T) hT.len
  have e2 := costK_change (cs := cs) (x := bestOf b cs fs cs.length zeroS) (bestOf_len _ _)
  refine ⟨by have := h1.le hm; rw [e, e2] at this; omega, fun he => ?_⟩
  rcases h1.after (rnds_sorted hb cs fs cs.length zeroS) hm (by rw [e, e2]; omega) with h | h
  · rw [h]; exact ltT_irrefl _
  · exact ltT_asymm h
end
theorem nthT_rows {b : Int} {cs : List (List Int)} {q : Int} {n : Nat} (h : ∀ r ∈ cs, r.length = n) : ∀ xs ∈ (nthT b cs q).1, xs.length = n := by
  induction cs with
  | nil => intro xs hx; cases hx
  | cons r cs ih =>
    intro xs hx
    rcases List.mem_cons.1 hx with rfl | hx
    · rw [nthRow_len]; exact h r (by simp)
    · exact ih (fun r' hr' => h r' (List.mem_cons_of_mem _ hr')) xs hx
theorem ralk_of {n m : Nat} {l : List (List Int)} (h : alikeB n m l = true) : ralkB n m l = true := by
  obtain ⟨h1, h2⟩ := alike_rows h
  unfold ralkB alkTo
  rw [List.take_length, Bool.and_eq_true]
  exact ⟨List.all_eq_true.2 fun r hr => by simpa using (h2 r hr).1, by simpa using h1⟩
end Go.Proofs.Ytgoianldiomdoaa
/- The ranges that Span finds are those of all roundings. -/
namespace Go.Proofs.Ytgoianldiomdoaa

structure Ex (n m : Nat) (g : List (List (Int × Int))) (P : Nat → List Int → Prop) : Prop where
  len : g.length = n
  row : ∀ (r : Nat) (row : List (Int × Int)), g[r]? = some row → row.length = m
  lo : ∀ (r : Nat) (row : List (Int × Int)) (c : Nat) (p : Int × Int) (l : List Int) (v : Int), g[r]? = some row → row[c]? = some p → P r l → l[c]? = some v → p.1 ≤ v ∧ v ≤ p.2
  al : ∀ (r : Nat) (row : List (Int × Int)) (c : Nat) (p : Int × Int), g[r]? = some row → row[c]? = some p → p.1 = 10100 ∨ ∃ l, P r l ∧ l[c]? = some p.1
  ah : ∀ (r : Nat) (row : List (Int × Int)) (c : Nat) (p : Int × Int), g[r]? = some row → row[c]? = some p → p.2 = 0 ∨ ∃ l, P r l ∧ l[c]? = some p.2
theorem Ex.ext {n m : Nat} {g : List (List (Int × Int))} {P P' : Nat → List Int → Prop} (h : Ex n m g P) (e : ∀ r l, P r l ↔ P' r l) : Ex n m g P' :=
  ⟨h.len, h.row, fun r row c p l v h1 h2 h3 h4 => h.lo r row c p l v h1 h2 ((e r l).2 h3) h4,
   fun r row c p h1 h2 => or_of (h.al r row c p h1 h2) id fun ⟨l, h3, h4⟩ => ⟨l, (e r l).1 h3, h4⟩,
   fun r row c p h1 h2 => or_of (h.ah r row c p h1 h2) id fun ⟨l, h3, h4⟩ => ⟨l, (e r l).1 h3, h4⟩⟩
theorem updR_eq {row : List (Int × Int)} {l : List Int} (h : row.length = l.length) : updR row l = List.zipWith updC row l := by
  unfold updR updTo
  rw [List.take_of_length_le (by omega), List.take_of_length_le (by omega), List.drop_of_length_le (by omega), List.append_nil]
theorem Ex.step {n m : Nat} {g : List (List (Int × Int))} {P : Nat → List Int → Prop} (h : Ex n m g P) {r : Nat} {l : List Int} (hr : r < n) (hl : l.length = m) :
    Ex n m (updG g r l) fun r' l' => P r' l' ∨ (r' = r ∧ l' = l) := by
  have hg := List.getElem?_eq_getElem (l := g) (i := r) (by rw [h.len]; exact hr)
  obtain ⟨row0, hrow0⟩ : ∃ row0, g[r]? = some row0 := ⟨_, hg⟩
  have hm := h.row r row0 hrow0
  have hu : updG g r l = g.set r (List.zipWith updC row0 l) := by
    unfold updG
    rw [show g.getD r [] = row0 by rw [List.getD, hrow0]; rfl, updR_eq (by omega)]
  rw [hu]
  have hrl : r < g.length := by rw [h.len]; exact hr
  have hat : ∀ (r' : Nat) (row : List (Int × Int)), (g.set r (List.zipWith updC row0 l))[r']? = some row → (r' = r ∧ row = List.zipWith updC row0 l) ∨ (r' ≠ r ∧ g[r']? = some row) := by
    intro r' row hx
    by_cases he : r' = r
    · subst he
      rw [List.getElem?_set_self hrl] at hx
      injection hx with hx
      exact .inl ⟨rfl, hx.symm⟩
    · rw [List.getElem?_set_ne (fun e => he e.symm)] at hx
      exact .inr ⟨he, hx⟩
  have hcell : ∀ (c : Nat) (p : Int × Int), (List.zipWith updC row0 l)[c]? = some p → ∃ p0 v, row0[c]? = some p0 ∧ l[c]? = some v ∧ p = (min p0.1 v, max p0.2 v) := by
    intro c p hp
    have hc : c < row0.length := by
      have := (List.getElem?_eq_some_iff.1 hp).1
      rw [List.length_zipWith] at this; omega
    have e1 := List.getElem?_eq_getElem hc
    have e2 := List.getElem?_eq_getElem (l := l) (i := c) (by omega)
    rw [List.getElem?_zipWith, e1, e2] at hp
    injection hp with hp
    exact ⟨_, _, e1, e2, hp.symm⟩
  refine ⟨by rw [List.length_set, h.len], fun r' row hx => ?_, fun r' row c p l' v hx hp hP hv => ?_, fun r' row c p hx hp => ?_, fun r' row c p hx hp => ?_⟩
  · rcases hat r' row hx with ⟨_, rfl⟩ | ⟨_, hx⟩
    · rw [List.length_zipWith]; omega
    · exact h.row r' row hx
  · rcases hat r' row hx with ⟨rfl, rfl⟩ | ⟨hne, hx⟩
    · obtain ⟨p0, v0, h1, h2, rfl⟩ := hcell c p hp
      rcases hP with hP | ⟨_, rfl⟩
      · have := h.lo r' row0 c p0 l' v hrow0 h1 hP hv
        exact ⟨by show min p0.1 v0 ≤ v; omega, by show v ≤ max p0.2 v0; omega⟩
      · rw [h2] at hv
        injection hv with hv
        subst hv
        exact ⟨by show min p0.1 v0 ≤ v0; omega, by show v0 ≤ max p0.2 v0; omega⟩
    · rcases hP with hP | ⟨he, _⟩
      · exact h.lo r' row c p l' v hx hp hP hv
      · exact absurd he hne
  · rcases hat r' row hx with ⟨rfl, rfl⟩ | ⟨_, hx⟩
    · obtain ⟨p0, v0, h1, h2, rfl⟩ := hcell c p hp
      by_cases hle : p0.1 ≤ v0
      · rcases h.al r' row0 c p0 hrow0 h1 with h3 | ⟨l', h3, h4⟩
        · left; show min p0.1 v0 = 10100; omega
        · right; exact ⟨l', .inl h3, by rw [h4]; congr 1; show p0.1 = min p0.1 v0; omega⟩
      · right; exact ⟨l, .inr ⟨rfl, rfl⟩, by rw [h2]; congr 1; show v0 = min p0.1 v0; omega⟩
    · exact or_of (h.al r' row c p hx hp) id fun ⟨l', h3, h4⟩ => ⟨l', .inl h3, h4⟩
  · rcases hat r' row hx with ⟨rfl, rfl⟩ | ⟨_, hx⟩
    · obtain ⟨p0, v0, h1, h2, rfl⟩ := hcell c p hp
      by_cases hle : v0 ≤ p0.2
      · rcases h.ah r' row0 c p0 hrow0 h1 with h3 | ⟨l', h3, h4⟩
        · left; show max p0.2 v0 = 0; omega
        · right; exact ⟨l', .inl h3, by rw [h4]; congr 1; show p0.2 = max p0.2 v0; omega⟩
      · right; exact ⟨l, .inr ⟨rfl, rfl⟩, by rw [h2]; congr 1; show v0 = max p0.2 v0; omega⟩
    · exact or_of (h.ah r' row c p hx hp) id fun ⟨l', h3, h4⟩ => ⟨l', .inl h3, h4⟩

section
variable {b : Int} {cs : List (List Int)} {fs : List Fx}
/-- the lists from a spot on that lead to a rounding -/
def Live (b : Int) (cs : List (List Int)) (fs : List Fx) (k : Nat) (s : S4) (l : List Int) : Prop := l ∈ outsAt b cs fs (k + 1) ∧ (spec b cs fs k (plusS s l)).ways ≠ 0
def Reach (b : Int) (cs : List (List Int)) (fs : List Fx) (k : Nat) (s : S4) : Prop :=
  ∃ p : List (List Int), p.length + k = cs.length ∧ (∀ (i : Nat) (l : List Int), p[i]? = some l → l ∈ outsAt b cs fs (cs.length - i)) ∧ p.foldl plusS zeroS = s
theorem Reach.next {k : Nat} {s : S4} {l : List Int} (h : Reach b cs fs (k + 1) s) (hl : l ∈ outsAt b cs fs (k + 1)) : Reach b cs fs k (plusS s l) := by
  obtain ⟨p, h1, h2, h3⟩ := h
  refine ⟨p ++ [l], by simp; omega, fun i l' hi => ?_, by rw [List.foldl_append, h3]; rfl⟩
  by_cases hlt : i < p.length
  · rw [List.getElem?_append_left hlt] at hi
    exact h2 i l' hi
  · rw [List.getElem?_append_right (by omega)] at hi
    have : i = p.length := by
      have := (List.getElem?_eq_some_iff.1 hi).1
      simp at this; omega
    subst this
    simp at hi
    subst hi
    rwa [show cs.length - p.length = k + 1 by omega]
/-- the new spots of a visit -/
structure Vis (b : Int) (cs : List (List Int)) (fs : List Fx) (Q : Nat → List Int → Prop) (B : List (Nat × S4)) (st' : VSt) : Prop where
  sub : ∀ x, x ∈ B → x ∈ st'.seen
  ex : Ex cs.length (colsOf cs) st'.grid fun r l => Q r l ∨ ∃ k' s', (k' + 1, s') ∈ st'.seen ∧ (k' + 1, s') ∉ B ∧ r = cs.length - (k' + 1) ∧ Live b cs fs k' s' l
  clo : ∀ k' s' l, (k' + 1, s') ∈ st'.seen → (k' + 1, s') ∉ B → Live b cs fs k' s' l → 1 ≤ k' → (k', plusS s' l) ∈ st'.seen
  rea : ∀ k' s', (k', s') ∈ st'.seen → (k', s') ∉ B → Reach b cs fs k' s'
theorem visit_ok (ok : TOk b cs fs) : ∀ (k : Nat) (s : S4) (st : VSt) (Q : Nat → List Int → Prop), k ≤ cs.length → Reach b cs fs k s → Ex cs.length (colsOf cs) st.grid Q →
    Vis b cs fs Q st.seen (visit b cs fs k s st) ∧ (1 ≤ k → (k, s) ∈ (visit b cs fs k s st).seen)
  | 0, s, st, Q, hk, hr, he => by
    refine ⟨⟨fun x hx => hx, he.ext fun r l => ⟨.inl, fun h => h.elim id fun ⟨k', s', h1, h2, _⟩ => absurd h1 h2⟩, fun k' s' l h1 h2 => absurd h1 h2, fun k' s' h1 h2 => absurd h1 h2⟩, fun h => absurd h (by omega)⟩
  | k + 1, s, st, Q, hk, hr, he => by
    unfold visit
    by_cases hm : (k + 1, s) ∈ st.seen
    · rw [if_pos hm]
      exact ⟨⟨fun x hx => hx, he.ext fun r l => ⟨.inl, fun h => h.elim id fun ⟨k', s', h1, h2, _⟩ => absurd h1 h2⟩, fun k' s' l h1 h2 => absurd h1 h2, fun k' s' h1 h2 => absurd h1 h2⟩, fun _ => hm⟩
    · rw [if_neg hm]
      -- the lists, one after the other
      have key : ∀ (L : List (List Int)) (D : List Int → Prop) (st1 : VSt), (∀ l ∈ L, l ∈ outsAt b cs fs (k + 1)) → Vis b cs fs (fun r l => Q r l ∨ (r = cs.length - (k + 1) ∧ D l)) ((k + 1, s) :: st.seen) st1 →
          (∀ l, D l → 1 ≤ k → (k, plusS s l) ∈ st1.seen) →
          let st2 := L.foldl (fun st l => if (spec b cs fs k (plusS s l)).ways == 0 then st else visit b cs fs k (plusS s l) ⟨st.seen, updG st.grid (cs.length - (k + 1)) l⟩) st1
          Vis b cs fs (fun r l => Q r l ∨ (r = cs.length - (k + 1) ∧ (D l ∨ (l ∈ L ∧ (spec b cs fs k (plusS s l)).ways ≠ 0)))) ((k + 1, s) :: st.seen) st2 ∧ (∀ l, (D l ∨ (l ∈ L ∧ (spec b cs fs k (plusS s l)).ways ≠ 0)) → 1 ≤ k → (k, plusS s l) ∈ st2.seen) := by
        intro L
        induction L with
        | nil =>
          intro D st1 _ hv hd
          refine ⟨⟨hv.sub, hv.ex.ext fun r l => ?_, hv.clo, hv.rea⟩, fun l hl => hd l (hl.elim id fun h => by cases h.1)⟩
          exact or_congr_left (or_congr_right (and_congr_right fun _ => ⟨.inl, fun h => h.elim id fun h => by cases h.1⟩))
        | cons l L ih =>
          intro D st1 hL hv hd
          have hlm := hL l (by simp)
          have hlen : l.length = colsOf cs := by
            obtain ⟨h1, _⟩ := outsAt_mem ok hk hlm
            rw [h1]
            exact ok.okc.row _ (List.mem_of_getElem? (rowAt_get hk))
          simp only [List.foldl_cons]
          by_cases hz : (spec b cs fs k (plusS s l)).ways = 0
          · rw [if_pos (by simpa using hz)]
            obtain ⟨g1, g2⟩ := ih D st1 (fun l' h' => hL l' (List.mem_cons_of_mem _ h')) hv hd
            have e : ∀ l', (D l' ∨ (l' ∈ L ∧ (spec b cs fs k (plusS s l')).ways ≠ 0)) ↔ (D l' ∨ (l' ∈ l :: L ∧ (spec b cs fs k (plusS s l')).ways ≠ 0)) := fun l' =>
              or_congr_right ⟨fun h => ⟨List.mem_cons_of_mem _ h.1, h.2⟩, fun h => ⟨(List.mem_cons.1 h.1).elim (fun e => absurd (e ▸ hz) h.2) id, h.2⟩⟩
            exact ⟨⟨g1.sub, g1.ex.ext fun r l' => or_congr_left (or_congr_right (and_congr_right fun _ => e l')), g1.clo, g1.rea⟩, fun l' h' => g2 l' ((e l').2 h')⟩
          · rw [if_neg (by simpa using hz)]
            have hstep := hv.ex.step (r := cs.length - (k + 1)) (l := l) (by omega) hlen
            obtain ⟨u1, u2⟩ := visit_ok ok k (plusS s l) ⟨st1.seen, updG st1.grid (cs.length - (k + 1)) l⟩ _ (by omega) (hr.next hlm) hstep
            generalize hst2 : visit b cs fs k (plusS s l) ⟨st1.seen, updG st1.grid (cs.length - (k + 1)) l⟩ = st2 at u1 u2 ⊢
            have u1s : ∀ x, x ∈ st1.seen → x ∈ st2.seen := u1.sub
            have hv2 : Vis b cs fs (fun r l' => Q r l' ∨ (r = cs.length - (k + 1) ∧ (D l' ∨ l' = l))) ((k + 1, s) :: st.seen) st2 := by
              refine ⟨fun x hx => u1s x (hv.sub x hx), u1.ex.ext fun r l' => ?_, fun k' s' l' h1 h2 h3 h4 => ?_, fun k' s' h1 h2 => ?_⟩
              · constructor
                · rintro ((((h | ⟨h, h'⟩) | ⟨k', s', h1, h2, h3, h4⟩) | ⟨h, h'⟩) | ⟨k', s', h1, h2, h3, h4⟩)
                  · exact .inl (.inl h)
                  · exact .inl (.inr ⟨h, .inl h'⟩)
                  · exact .inr ⟨k', s', u1s _ h1, h2, h3, h4⟩
                  · exact .inl (.inr ⟨h, .inr h'⟩)
                  · exact .inr ⟨k', s', h1, fun hb => h2 (hv.sub _ hb), h3, h4⟩
                · rintro ((h | ⟨h, h' | h'⟩) | ⟨k', s', h1, h2, h3, h4⟩)
                  · exact .inl (.inl (.inl (.inl h)))
                  · exact .inl (.inl (.inl (.inr ⟨h, h'⟩)))
                  · exact .inl (.inr ⟨h, h'⟩)
                  · by_cases hb : (k' + 1, s') ∈ st1.seen
                    · exact .inl (.inl (.inr ⟨k', s', hb, h2, h3, h4⟩))
                    · exact .inr ⟨k', s', h1, hb, h3, h4⟩
              · by_cases hb : (k' + 1, s') ∈ st1.seen
                · exact u1s _ (hv.clo k' s' l' hb h2 h3 h4)
                · exact u1.clo k' s' l' h1 hb h3 h4
              · by_cases hb : (k', s') ∈ st1.seen
                · exact hv.rea k' s' hb h2
                · exact u1.rea k' s' h1 hb
            obtain ⟨g1, g2⟩ := ih (fun l' => D l' ∨ l' = l) st2 (fun l' h' => hL l' (List.mem_cons_of_mem _ h')) hv2 (fun l' h' hk1 => h'.elim (fun h => u1s _ (hd l' h hk1)) (fun h => by subst h; exact u2 hk1))
            have e : ∀ l', ((D l' ∨ l' = l) ∨ (l' ∈ L ∧ (spec b cs fs k (plusS s l')).ways ≠ 0)) ↔ (D l' ∨ (l' ∈ l :: L ∧ (spec b cs fs k (plusS s l')).ways ≠ 0)) := fun l' => by
              constructor
              · rintro ((h | h) | h)
                · exact .inl h
                · subst h; exact .inr ⟨by simp, hz⟩
                · exact .inr ⟨List.mem_cons_of_mem _ h.1, h.2⟩
              · rintro (h | ⟨h, h'⟩)
                · exact .inl (.inl h)
                · rcases List.mem_cons.1 h with h | h
                  · exact .inl (.inr h)
                  · exact .inr ⟨h, h'⟩
            exact ⟨⟨g1.sub, g1.ex.ext fun r l' => or_congr_left (or_congr_right (and_congr_right fun _ => e l')), g1.clo, g1.rea⟩, fun l' h' => g2 l' ((e l').2 h')⟩
      obtain ⟨g1, g2⟩ := key (outsAt b cs fs (k + 1)) (fun _ => False) ⟨(k + 1, s) :: st.seen, st.grid⟩ (fun l h => h)
        ⟨fun x hx => hx, he.ext fun r l => ⟨fun h => .inl (.inl h), fun h => h.elim (fun h => h.elim id fun h => h.2.elim) fun ⟨k', s', h1, h2, _⟩ => absurd h1 h2⟩, fun k' s' l h1 h2 => absurd h1 h2, fun k' s' h1 h2 => absurd h1 h2⟩ (fun l h => h.elim)
      generalize (outsAt b cs fs (k + 1)).foldl (fun st l => if (spec b cs fs k (plusS s l)).ways == 0 then st else visit b cs fs k (plusS s l) ⟨st.seen, updG st.grid (cs.length - (k + 1)) l⟩) ⟨(k + 1, s) :: st.seen, st.grid⟩ = st2 at g1 g2 ⊢
      have hself : (k + 1, s) ∈ st2.seen := g1.sub _ (by simp)
      refine ⟨⟨fun x hx => g1.sub x (List.mem_cons_of_mem _ hx), g1.ex.ext fun r l => ?_, fun k' s' l h1 h2 h3 h4 => ?_, fun k' s' h1 h2 => ?_⟩, fun _ => hself⟩
      · constructor
        · rintro ((h | ⟨h, h' | h'⟩) | ⟨k', s', h1, h2, h3, h4⟩)
          · exact .inl h
          · exact h'.elim
          · exact .inr ⟨k, s, hself, hm, h, h'.1, h'.2⟩
          · exact .inr ⟨k', s', h1, fun hb => h2 (List.mem_cons_of_mem _ hb), h3, h4⟩
        · rintro (h | ⟨k', s', h1, h2, h3, h4⟩)
          · exact .inl (.inl h)
          · by_cases hb : (k' + 1, s') = (k + 1, s)
            · injection hb with e1 e2
              have e1 : k' = k := by omega
              subst e1 e2
              exact .inl (.inr ⟨h3, .inr ⟨h4.1, h4.2⟩⟩)
            · exact .inr ⟨k', s', h1, fun hc => (List.mem_cons.1 hc).elim hb h2, h3, h4⟩
      · by_cases hb : (k' + 1, s') = (k + 1, s)
        · injection hb with e1 e2
          have e1 : k' = k := by omega
          subst e1 e2
          exact g2 l (.inr ⟨h3.1, h3.2⟩) h4
        · exact g1.clo k' s' l h1 (fun hc => (List.mem_cons.1 hc).elim hb h2) h3 h4
      · by_cases hb : (k', s') = (k + 1, s)
        · injection hb with e1 e2
          subst e1 e2
          exact hr
        · exact g1.rea k' s' h1 (fun hc => (List.mem_cons.1 hc).elim hb h2)

theorem mem_split {x : List (List Int)} {r : Nat} {l : List Int} (h : x[r]? = some l) : x = x.take r ++ l :: x.drop (r + 1) := by
  obtain ⟨hr, e⟩ := List.getElem?_eq_some_iff.1 h
  rw [← e, List.getElem_cons_drop, List.take_append_drop]
/-- what Span finds is just what the roundings have -/
theorem span_ex (ok : TOk b cs fs) (hw : (spec b cs fs cs.length zeroS).ways ≠ 0) :
    Ex cs.length (colsOf cs) (spanOf b cs fs) fun r l => ∃ x, IsR b cs fs x ∧ x[r]? = some l := by
  have h0 : Ex cs.length (colsOf cs) (gridZ cs) (fun _ _ => False) := by
    have hcell : ∀ (r : Nat) (row : List (Int × Int)) (c : Nat) (p : Int × Int), (gridZ cs)[r]? = some row → row[c]? = some p → p = (10100, 0) := by
      intro r row c p h1 h2
      have := List.mem_of_getElem? h1
      rw [(List.mem_replicate.1 this).2] at h2
      exact (List.mem_replicate.1 (List.mem_of_getElem? h2)).2
    refine ⟨by simp [gridZ], fun r row h => ?_, fun _ _ _ _ _ _ _ _ h => h.elim, fun r row c p h1 h2 => .inl (by rw [hcell r row c p h1 h2]), fun r row c p h1 h2 => .inl (by rw [hcell r row c p h1 h2])⟩
    have := List.mem_of_getElem? h
    rw [(List.mem_replicate.1 this).2, List.length_replicate]
  have hr0 : Reach b cs fs cs.length zeroS := ⟨[], by simp, fun i l h => by simp at h, rfl⟩
  obtain ⟨v1, v2⟩ := visit_ok ok cs.length zeroS ⟨[], gridZ cs⟩ (fun _ _ => False) (Nat.le_refl _) hr0 h0
  have hin := v2 ok.okc.n1
  have v3 := v1.ex
  have v4 := v1.clo
  have v5 := v1.rea
  clear v1 v2
  unfold spanOf
  generalize visit b cs fs cs.length zeroS ⟨[], gridZ cs⟩ = st at *
  -- every spot on the way of a rounding is met
  have hmet : ∀ (x : List (List Int)), x ∈ rnds b cs fs cs.length zeroS → ∀ r, r < cs.length → (cs.length - r, (x.take r).foldl plusS zeroS) ∈ st.seen ∧ ∀ l, x[r]? = some l → Live b cs fs (cs.length - (r + 1)) ((x.take r).foldl plusS zeroS) l := by
    intro x hx
    obtain ⟨hxl, hxo, hxc⟩ := rnds_mem.1 hx
    have hlive : ∀ r, r < cs.length → ∀ l, x[r]? = some l → Live b cs fs (cs.length - (r + 1)) ((x.take r).foldl plusS zeroS) l := by
      intro r hr l hl
      refine ⟨by have := hxo r l hl; rwa [show cs.length - (r + 1) + 1 = cs.length - r by omega], ?_⟩
      have hm : x.drop (r + 1) ∈ rnds b cs fs (cs.length - (r + 1)) (plusS ((x.take r).foldl plusS zeroS) l) := by
        refine rnds_mem.2 ⟨by rw [List.length_drop, hxl], fun i l' hi => ?_, ?_⟩
        · rw [List.getElem?_drop] at hi
          have := hxo _ l' hi
          rwa [show cs.length - (r + 1 + i) = cs.length - (r + 1) - i by omega] at this
        · have e := mem_split hl
          rw [e, List.foldl_append, List.foldl_cons] at hxc
          exact hxc
      rw [(spec_rnds b cs fs _ _).1]
      have := List.length_pos_of_mem hm
      omega
    intro r
    induction r with
    | zero => intro hr; exact ⟨hin, hlive 0 hr⟩
    | succ r ih =>
      intro hr
      refine ⟨?_, hlive (r + 1) hr⟩
      obtain ⟨h1, h2⟩ := ih (by omega)
      have hl := List.getElem?_eq_getElem (l := x) (i := r) (by omega)
      have := v4 (cs.length - (r + 1)) ((x.take r).foldl plusS zeroS) _ (by rwa [show cs.length - (r + 1) + 1 = cs.length - r by omega]) (fun h => by cases h) (h2 _ hl) (by omega)
      rw [List.take_succ_eq_append_getElem (by omega), List.foldl_append]
      exact this
  refine v3.ext fun r l => ?_
  constructor
  · rintro (h | ⟨k', s', h1, h2, h3, h4, h5⟩)
    · exact h.elim
    · obtain ⟨p, p1, p2, p3⟩ := v5 _ _ h1 h2
      rw [(spec_rnds b cs fs _ _).1] at h5
      obtain ⟨y, hy⟩ := List.exists_mem_of_ne_nil (rnds b cs fs k' (plusS s' l)) (fun e => h5 (by rw [e]; rfl))
      obtain ⟨y1, y2, y3⟩ := rnds_mem.1 hy
      have hpl : p.length = r := by omega
      refine ⟨p ++ l :: y, rnds_isR.1 (rnds_mem.2 ⟨by simp; omega, fun i l' hi => ?_, ?_⟩), ?_⟩
      · by_cases hlt : i < p.length
        · rw [List.getElem?_append_left hlt] at hi
          exact p2 i l' hi
        · rw [List.getElem?_append_right (by omega)] at hi
          obtain ⟨j, hj⟩ : ∃ j, i = p.length + j := ⟨i - p.length, by omega⟩
          subst hj
          rw [show p.length + j - p.length = j by omega] at hi
          cases j with
          | zero =>
            simp at hi
            subst hi
            rwa [show cs.length - (p.length + 0) = k' + 1 by omega]
          | succ j =>
            simp only [List.getElem?_cons_succ] at hi
            have := y2 j l' hi
            rwa [show cs.length - (p.length + (j + 1)) = k' - j by omega]
      · rw [List.foldl_append, p3]; exact y3
      · rw [List.getElem?_append_right (by omega), hpl, Nat.sub_self]; rfl
  · rintro ⟨x, hx, hl⟩
    have hm := rnds_isR.2 hx
    have hr : r < cs.length := by have := (List.getElem?_eq_some_iff.1 hl).1; have := hx.len; omega
    obtain ⟨g1, g2⟩ := hmet x hm r hr
    exact .inr ⟨cs.length - (r + 1), _, by rwa [show cs.length - (r + 1) + 1 = cs.length - r by omega], (fun h => by cases h), by omega, g2 l hl⟩
end
end Go.Proofs.Ytgoianldiomdoaa
/- A table without fixes has a rounding. -/
namespace Go.Proofs.Ytgoianldiomdoaa

def sm : Nat → (Nat → Int) → Int
  | 0, _ => 0
  | n + 1, f => sm n f + f n
theorem sm_congr {f g : Nat → Int} : ∀ {n : Nat}, (∀ i, i < n → f i = g i) → sm n f = sm n g
  | 0, _ => rfl
  | n + 1, h => by rw [sm, sm, sm_congr fun i hi => h i (by omega), h n (by omega)]
theorem sm_add (f g : Nat → Int) : ∀ n, sm n (fun i => f i + g i) = sm n f + sm n g
  | 0 => rfl
  | n + 1 => by simp only [sm, sm_add f g n]; omega
theorem sm_sub (f g : Nat → Int) : ∀ n, sm n (fun i => f i - g i) = sm n f - sm n g
  | 0 => rfl
  | n + 1 => by simp only [sm, sm_sub f g n]; omega
theorem sm_neg (f : Nat → Int) : ∀ n, sm n (fun i => - f i) = - sm n f
  | 0 => rfl
  | n + 1 => by simp only [sm, sm_neg f n]; omega
theorem sm_zero : ∀ n, sm n (fun _ => 0) = 0
  | 0 => rfl
  | n + 1 => by simp only [sm, sm_zero n]; rfl
theorem sm_nonneg {f : Nat → Int} : ∀ {n : Nat}, (∀ i, i < n → 0 ≤ f i) → 0 ≤ sm n f
  | 0, _ => Int.le_refl _
  | n + 1, h => by
    have := sm_nonneg (n := n) fun i hi => h i (by omega)
    have := h n (by omega)
    simp only [sm]; omega
theorem sm_le {f g : Nat → Int} : ∀ {n : Nat}, (∀ i, i < n → f i ≤ g i) → sm n f ≤ sm n g
  | 0, _ => Int.le_refl _
  | n + 1, h => by
    have := sm_le (n := n) fun i hi => h i (by omega)
    have := h n (by omega)
    simp only [sm]; omega
theorem sm_pos {f : Nat → Int} {n i : Nat} (h : ∀ i, i < n → 0 ≤ f i) (hi : i < n) (hp : 0 < f i) : 0 < sm n f := by
  induction n with
  | zero => omega
  | succ n ih =>
    simp only [sm]
    by_cases e : i = n
    · subst e
      have := sm_nonneg (n := i) fun k hk => h k (by omega)
      omega
    · have := ih (fun k hk => h k (by omega)) (by omega)
      have := h n (by omega)
      omega
theorem sm_comm (f : Nat → Nat → Int) (n : Nat) : ∀ m, sm n (fun i => sm m (f i)) = sm m fun j => sm n fun i => f i j
  | 0 => by simp only [sm]; exact sm_zero n
  | m + 1 => by
    simp only [sm]
    rw [sm_add, sm_comm f n m]
theorem sm_delta {c : Nat} : ∀ {n : Nat} (v : Int), sm n (fun j => if c = j then v else 0) = if c < n then v else 0
  | 0, v => by simp [sm]
  | n + 1, v => by
    simp only [sm, sm_delta (n := n) v]
    by_cases h : c = n
    · subst h; simp
    · rw [if_neg h]
      by_cases h2 : c < n
      · rw [if_pos h2, if_pos (by omega)]; omega
      · rw [if_neg h2, if_neg (by omega)]; rfl
theorem sm_tele (f : Nat → Int) : ∀ n, sm n (fun t => f t - f (t + 1)) = f 0 - f n
  | 0 => by simp [sm]
  | n + 1 => by simp only [sm, sm_tele f n]; omega
theorem sm_mod {b : Int} {f : Nat → Int} {j : Nat} : ∀ {n : Nat}, (∀ i, i < n → i ≠ j → f i % b = 0) → (sm n f - if j < n then f j else 0) % b = 0
  | 0, _ => by simp [sm]
  | n + 1, h => by
    have ih := sm_mod (n := n) (fun i hi hj => h i (by omega) hj)
    simp only [sm]
    by_cases e : j = n
    · subst e
      rw [if_neg (by omega)] at ih
      rw [if_pos (by omega)]
      rwa [show sm j f + f j - f j = sm j f - 0 by omega]
    · have hn := h n (by omega) (fun e' => e e'.symm)
      have h2 : (if j < n + 1 then f j else 0) = if j < n then f j else 0 := by
        by_cases h1 : j < n
        · rw [if_pos h1, if_pos (by omega)]
        · rw [if_neg h1, if_neg (by omega)]
      rw [h2, show sm n f + f n - (if j < n then f j else 0) = (sm n f - if j < n then f j else 0) + f n by omega]
      exact mult_add ih hn
/-- at most one of them is 1 -/
theorem sm_one {p : Nat → Bool} : ∀ {n : Nat}, (∀ s t, s < n → t < n → p s = true → p t = true → s = t) → 0 ≤ sm n (fun t => if p t then 1 else 0) ∧ sm n (fun t => if p t then 1 else 0) ≤ 1 ∧ (sm n (fun t => if p t then 1 else 0) ≠ 0 → ∃ t, t < n ∧ p t = true) ∧ (∀ t, t < n → p t = true → sm n (fun t => if p t then 1 else 0) = 1)
  | 0, _ => by simp [sm]
  | n + 1, h => by
    obtain ⟨h1, h2, h3, h4⟩ := sm_one (n := n) fun s t hs ht => h s t (by omega) (by omega)
    simp only [sm]
    cases hp : p n
    · simp only [Bool.false_eq_true, if_false, Int.add_zero]
      refine ⟨h1, h2, fun hne => ?_, fun t ht hpt => ?_⟩
      · obtain ⟨t, ht, hpt⟩ := h3 hne; exact ⟨t, by omega, hpt⟩
      · have : t ≠ n := fun e => by subst e; rw [hp] at hpt; cases hpt
        exact h4 t (by omega) hpt
    · have hz : sm n (fun t => if p t then 1 else 0) = 0 := by
        by_cases hne : sm n (fun t => if p t then 1 else 0) = 0
        · exact hne
        · obtain ⟨t, ht, hpt⟩ := h3 hne
          have := h t n (by omega) (by omega) hpt hp
          omega
      rw [hz]
      simp only [if_true]
      exact ⟨by omega, by omega, fun _ => ⟨n, by omega, hp⟩, fun _ _ _ => rfl⟩
theorem php : ∀ (K : Nat) (f : Nat → Nat), (∀ t, t ≤ K → f t < K) → ∃ q p, q < p ∧ p ≤ K ∧ f q = f p
  | 0, f, h => absurd (h 0 (Nat.le_refl _)) (by omega)
  | K + 1, f, h => by
    by_cases hx : ∃ q, q ≤ K ∧ f q = f (K + 1)
    · obtain ⟨q, hq, e⟩ := hx
      exact ⟨q, K + 1, by omega, Nat.le_refl _, e⟩
    · have hne : ∀ q, q ≤ K → f q ≠ f (K + 1) := fun q hq e => hx ⟨q, hq, e⟩
      have hK := h (K + 1) (Nat.le_refl _)
      obtain ⟨q, p, h1, h2, h3⟩ := php K (fun t => if f t = K then f (K + 1) else f t) (fun t ht => by
        have := h t (by omega)
        have := hne t ht
        show (if f t = K then f (K + 1) else f t) < K
        split
        · omega
        · omega)
      refine ⟨q, p, h1, by omega, ?_⟩
      have e1 := hne q (by omega)
      have e2 := hne p (by omega)
      have h3 : (if f q = K then f (K + 1) else f q) = (if f p = K then f (K + 1) else f p) := h3
      split at h3 <;> split at h3 <;> omega
/-- the first value that comes again -/
theorem first_again (K : Nat) (f : Nat → Nat) (h : ∀ t, f t < K) : ∃ q L, 0 < L ∧ f q = f (q + L) ∧ ∀ s t, s < L → t < L → f (q + s) = f (q + t) → s = t := by
  obtain ⟨q, p, h1, h2, h3⟩ := php K f fun t _ => h t
  -- a shortest stretch with equal ends
  have key : ∀ (L q : Nat), 0 < L → f q = f (q + L) → ∃ q L, 0 < L ∧ f q = f (q + L) ∧ ∀ s t, s < L → t < L → f (q + s) = f (q + t) → s = t := by
    intro L
    induction L using Nat.strongRecOn with
    | _ L ih =>
      intro q hL e
      by_cases hg : ∀ s t, s < L → t < L → f (q + s) = f (q + t) → s = t
      · exact ⟨q, L, hL, e, hg⟩
      · simp only [Classical.not_forall] at hg
        obtain ⟨s, t, hs, ht, he, hne⟩ := hg
        rcases Nat.lt_or_gt_of_ne hne with hlt | hlt
        · exact ih (t - s) (by omega) (q + s) (by omega) (by rw [show q + s + (t - s) = q + t by omega]; exact he)
        · exact ih (s - t) (by omega) (q + t) (by omega) (by rw [show q + t + (s - t) = q + s by omega]; exact he.symm)
  exact key (p - q) q (by omega) (by rw [show q + (p - q) = p by omega]; exact h3)

/-- a way round the loose cells: a change with no sums -/
theorem around {N K : Nat} {loose : Nat → Nat → Prop} (hb : ∀ i j, loose i j → i < N ∧ j < K) (HR : ∀ i j, loose i j → ∃ j', j' ≠ j ∧ loose i j') (HC : ∀ i j, loose i j → ∃ i', i' ≠ i ∧ loose i' j) {i0 j0 : Nat} (h0 : loose i0 j0) :
    ∃ D : Nat → Nat → Int, (∀ i j, -1 ≤ D i j ∧ D i j ≤ 1) ∧ (∀ i j, D i j ≠ 0 → loose i j) ∧ (∀ i, sm K (D i) = 0) ∧ (∀ j, sm N (fun i => D i j) = 0) ∧ ∃ i j, i < N ∧ j < K ∧ D i j ≠ 0 := by
  let step : {p : Nat × Nat // loose p.1 p.2} → {p : Nat × Nat // loose p.1 p.2} := fun p =>
    ⟨(Classical.choose (HC p.1.1 _ (Classical.choose_spec (HR p.1.1 p.1.2 p.2)).2), Classical.choose (HR p.1.1 p.1.2 p.2)), (Classical.choose_spec (HC p.1.1 _ (Classical.choose_spec (HR p.1.1 p.1.2 p.2)).2)).2⟩
  let seq : Nat → {p : Nat × Nat // loose p.1 p.2} := fun t => Nat.rec ⟨(i0, j0), h0⟩ (fun _ p => step p) t
  have hs : ∀ t, (seq (t + 1)).1.2 ≠ (seq t).1.2 ∧ loose (seq t).1.1 (seq (t + 1)).1.2 ∧ (seq (t + 1)).1.1 ≠ (seq t).1.1 := fun t =>
    ⟨(Classical.choose_spec (HR (seq t).1.1 (seq t).1.2 (seq t).2)).1, (Classical.choose_spec (HR (seq t).1.1 (seq t).1.2 (seq t).2)).2, (Classical.choose_spec (HC (seq t).1.1 _ (Classical.choose_spec (HR (seq t).1.1 (seq t).1.2 (seq t).2)).2)).1⟩
  have hl : ∀ t, loose (seq t).1.1 (seq t).1.2 := fun t => (seq t).2
  generalize hr : (fun t => (seq t).1.1) = r
  generalize hc : (fun t => (seq t).1.2) = c
  have er : ∀ t, (seq t).1.1 = r t := fun t => by rw [← hr]
  have ec : ∀ t, (seq t).1.2 = c t := fun t => by rw [← hc]
  simp only [er, ec] at hs hl
  obtain ⟨q, L, hL, hend, hinj⟩ := first_again K c fun t => (hb _ _ (hl t)).2
  have hL2 : 2 ≤ L := by
    rcases Nat.lt_or_ge L 2 with h | h
    · have : L = 1 := by omega
      subst this
      exact absurd hend.symm (hs q).1
    · exact h
  have hinj2 : ∀ s t, s < L → t < L → c (q + s + 1) = c (q + t + 1) → s = t := by
    intro s t hs' ht e
    by_cases h1 : s + 1 = L
    · by_cases h2 : t + 1 = L
      · omega
      · have e1 : c (q + s + 1) = c (q + 0) := by rw [show q + s + 1 = q + L by omega, ← hend]; rfl
        rw [e1] at e
        have := hinj 0 (t + 1) (by omega) (by omega) (by rw [e]; rfl)
        omega
    · by_cases h2 : t + 1 = L
      · have e1 : c (q + t + 1) = c (q + 0) := by rw [show q + t + 1 = q + L by omega, ← hend]; rfl
        rw [e1] at e
        have := hinj (s + 1) 0 (by omega) (by omega) (by rw [← e]; rfl)
        omega
      · have := hinj (s + 1) (t + 1) (by omega) (by omega) e
        omega
  let P : Nat → Nat → Int := fun i j => sm L fun t => if (decide (r (q + t) = i ∧ c (q + t) = j)) then 1 else 0
  let M : Nat → Nat → Int := fun i j => sm L fun t => if (decide (r (q + t) = i ∧ c (q + t + 1) = j)) then 1 else 0
  have hP : ∀ i j, _ := fun i j => sm_one (p := fun t => decide (r (q + t) = i ∧ c (q + t) = j)) (n := L) fun s t hs' ht h1 h2 => by
    have h1 := of_decide_eq_true h1
    have h2 := of_decide_eq_true h2
    exact hinj s t hs' ht (by rw [h1.2, h2.2])
  have hM : ∀ i j, _ := fun i j => sm_one (p := fun t => decide (r (q + t) = i ∧ c (q + t + 1) = j)) (n := L) fun s t hs' ht h1 h2 => by
    have h1 := of_decide_eq_true h1
    have h2 := of_decide_eq_true h2
    exact hinj2 s t hs' ht (by rw [h1.2, h2.2])
  refine ⟨fun i j => P i j - M i j, fun i j => ?_, fun i j hne => ?_, fun i => ?_, fun j => ?_, r (q + 1), c (q + 1), (hb _ _ (hl _)).1, (hb _ _ (hl _)).2, ?_⟩
  · have h1 := hP i j
    have h2 := hM i j
    show -1 ≤ P i j - M i j ∧ P i j - M i j ≤ 1
    have : 0 ≤ P i j ∧ P i j ≤ 1 := ⟨h1.1, h1.2.1⟩
    have : 0 ≤ M i j ∧ M i j ≤ 1 := ⟨h2.1, h2.2.1⟩
    omega
  · by_cases hp : P i j = 0
    · have hm : M i j ≠ 0 := fun e => hne (by show P i j - M i j = 0; omega)
      obtain ⟨t, ht, e⟩ := (hM i j).2.2.1 hm
      have e := of_decide_eq_true e
      rw [← e.1, ← e.2]
      exact (hs (q + t)).2.1
    · obtain ⟨t, ht, e⟩ := (hP i j).2.2.1 hp
      have e := of_decide_eq_true e
      rw [← e.1, ← e.2]
      exact hl (q + t)
  · show sm K (fun j => P i j - M i j) = 0
    rw [sm_sub]
    have e1 : sm K (fun j => P i j) = sm L fun t => if r (q + t) = i then 1 else 0 := by
      show sm K (fun j => sm L fun t => if (decide (r (q + t) = i ∧ c (q + t) = j)) then 1 else 0) = _
      rw [sm_comm]
      refine sm_congr fun t _ => ?_
      have hk := (hb _ _ (hl (q + t))).2
      by_cases e : r (q + t) = i
      · rw [if_pos e]
        have := sm_delta (c := c (q + t)) (n := K) 1
        rw [if_pos hk] at this
        exact Eq.trans (sm_congr fun j _ => by simp [e]) this
      · rw [if_neg e]
        exact Eq.trans (sm_congr fun j _ => by simp [e]) (sm_zero K)
    have e2 : sm K (fun j => M i j) = sm L fun t => if r (q + t) = i then 1 else 0 := by
      show sm K (fun j => sm L fun t => if (decide (r (q + t) = i ∧ c (q + t + 1) = j)) then 1 else 0) = _
      rw [sm_comm]
      refine sm_congr fun t _ => ?_
      have hk := (hb _ _ (hl (q + t + 1))).2
      by_cases e : r (q + t) = i
      · rw [if_pos e]
        have := sm_delta (c := c (q + t + 1)) (n := K) 1
        rw [if_pos hk] at this
        exact Eq.trans (sm_congr fun j _ => by simp [e]) this
      · rw [if_neg e]
        exact Eq.trans (sm_congr fun j _ => by simp [e]) (sm_zero K)
    rw [e1, e2]; omega
  · show sm N (fun i => P i j - M i j) = 0
    rw [sm_sub]
    have e1 : sm N (fun i => P i j) = sm L fun t => if c (q + t) = j then 1 else 0 := by
      show sm N (fun i => sm L fun t => if (decide (r (q + t) = i ∧ c (q + t) = j)) then 1 else 0) = _
      rw [sm_comm]
      refine sm_congr fun t _ => ?_
      have hk := (hb _ _ (hl (q + t))).1
      by_cases e : c (q + t) = j
      · rw [if_pos e]
        have := sm_delta (c := r (q + t)) (n := N) 1
        rw [if_pos hk] at this
        exact Eq.trans (sm_congr fun i _ => by simp [e]) this
      · rw [if_neg e]
        exact Eq.trans (sm_congr fun i _ => by simp [e]) (sm_zero N)
    have e2 : sm N (fun i => M i j) = sm L fun t => if c (q + t + 1) = j then 1 else 0 := by
      show sm N (fun i => sm L fun t => if (decide (r (q + t) = i ∧ c (q + t + 1) = j)) then 1 else 0) = _
      rw [sm_comm]
      refine sm_congr fun t _ => ?_
      have hk := (hb _ _ (hl (q + t))).1
      by_cases e : c (q + t + 1) = j
      · rw [if_pos e]
        have := sm_delta (c := r (q + t)) (n := N) 1
        rw [if_pos hk] at this
        exact Eq.trans (sm_congr fun i _ => by simp [e]) this
      · rw [if_neg e]
        exact Eq.trans (sm_congr fun i _ => by simp [e]) (sm_zero N)
    rw [e1, e2, ← sm_sub]
    have := sm_tele (fun t => if c (q + t) = j then (1 : Int) else 0) L
    refine Eq.trans (sm_congr fun t _ => ?_) (this.trans ?_)
    · rw [show q + (t + 1) = q + t + 1 by omega]
    · show (if c (q + 0) = j then (1 : Int) else 0) - (if c (q + L) = j then 1 else 0) = 0
      rw [← hend]; simp
  · show P (r (q + 1)) (c (q + 1)) - M (r (q + 1)) (c (q + 1)) ≠ 0
    have h1 : P (r (q + 1)) (c (q + 1)) = 1 := (hP _ _).2.2.2 1 (by omega) (by simp)
    have h2 : M (r (q + 1)) (c (q + 1)) = 0 := by
      by_cases hm : M (r (q + 1)) (c (q + 1)) = 0
      · exact hm
      · obtain ⟨t, ht, e⟩ := (hM _ _).2.2.1 hm
        have e := of_decide_eq_true e
        have : t = 0 := hinj2 t 0 ht (by omega) e.2
        subst this
        exact absurd e.1.symm (hs q).2.2
    rw [h1, h2]; decide
end Go.Proofs.Ytgoianldiomdoaa
/- A table without fixes has a rounding: the cells are pushed to their neighbours. -/
namespace Go.Proofs.Ytgoianldiomdoaa

def sq (N K : Nat) (T : Nat → Nat → Int) : Int := sm N fun i => sm K fun j => T i j * T i j
theorem sm_const (v : Int) : ∀ n, sm n (fun _ => v) = n * v
  | 0 => by simp [sm]
  | n + 1 => by simp only [sm, sm_const v n]; rw [Int.natCast_add, Int.add_mul]; simp
theorem sq_two (N K : Nat) (T D : Nat → Nat → Int) : sq N K (fun i j => T i j + D i j) + sq N K (fun i j => T i j - D i j) = (sq N K T + sq N K T) + (sq N K D + sq N K D) := by
  unfold sq
  rw [← sm_add, ← sm_add, ← sm_add, ← sm_add]
  refine sm_congr fun i _ => ?_
  rw [← sm_add, ← sm_add, ← sm_add, ← sm_add]
  refine sm_congr fun j _ => ?_
  have := Int.mul_comm (D i j) (T i j)
  simp only [Int.add_mul, Int.mul_add, Int.sub_mul, Int.mul_sub]
  omega
theorem sq_le {N K : Nat} {T : Nat → Nat → Int} {C : Int} (h : ∀ i j, i < N → j < K → -C ≤ T i j ∧ T i j ≤ C) : sq N K T ≤ N * (K * (C * C)) := by
  unfold sq
  rw [← sm_const (K * (C * C)) N, ← sm_const (C * C) K]
  refine sm_le fun i hi => sm_le fun j hj => ?_
  have h1 := h i j hi hj
  have := Int.mul_nonneg (show 0 ≤ C - T i j by omega) (show 0 ≤ C + T i j by omega)
  have e := Int.mul_comm C (T i j)
  simp only [Int.sub_mul, Int.mul_add] at this
  omega
theorem sq_pos {N K : Nat} {D : Nat → Nat → Int} {i j : Nat} (hi : i < N) (hj : j < K) (hd : ∀ i j, -1 ≤ D i j ∧ D i j ≤ 1) (h : D i j ≠ 0) : 0 < sq N K D := by
  have hn : ∀ i j, 0 ≤ D i j * D i j := fun i j => by
    have := hd i j
    have : D i j = -1 ∨ D i j = 0 ∨ D i j = 1 := by omega
    rcases this with e | e | e <;> rw [e] <;> decide
  refine sm_pos (fun i _ => sm_nonneg fun j _ => hn i j) hi (sm_pos (fun j _ => hn i j) hj ?_)
  have := hd i j
  have : D i j = -1 ∨ D i j = 1 := by omega
  rcases this with e | e <;> rw [e] <;> decide
/-- what is asked of bounds -/
structure Bds (N K : Nat) (b C : Int) (lo hi : Nat → Nat → Int) : Prop where
  b0 : 0 < b
  l : ∀ i j, lo i j % b = 0
  h : ∀ i j, hi i j % b = 0
  le : ∀ i j, hi i j ≤ lo i j + b
  c1 : ∀ i j, i < N → j < K → -C ≤ lo i j
  c2 : ∀ i j, i < N → j < K → hi i j ≤ C
theorem lone {b : Int} {n j : Nat} {f : Nat → Int} (hj : j < n) (hs : sm n f = 0) (ho : ∀ i, i < n → i ≠ j → f i % b = 0) : f j % b = 0 := by
  have := sm_mod ho
  rw [hs, if_pos hj] at this
  have e : f j = 0 - (0 - f j) := by omega
  rw [e, Int.sub_emod, this]
  simp
theorem push {N K : Nat} {b C : Int} {lo hi : Nat → Nat → Int} (B : Bds N K b C lo hi) : ∀ (fuel : Nat) (T : Nat → Nat → Int), (N * (K * (C * C)) - sq N K T).toNat ≤ fuel → (∀ i j, i < N → j < K → lo i j ≤ T i j ∧ T i j ≤ hi i j) → (∀ i, i < N → sm K (T i) = 0) → (∀ j, j < K → sm N (fun i => T i j) = 0) →
    ∃ X : Nat → Nat → Int, (∀ i j, i < N → j < K → X i j = lo i j ∨ X i j = hi i j) ∧ (∀ i, i < N → sm K (X i) = 0) ∧ (∀ j, j < K → sm N (fun i => X i j) = 0) := by
  intro fuel
  induction fuel with
  | zero =>
    intro T hf hT hr hc
    -- nothing is left to gain: no cell is loose
    exact push_step B T hT hr hc fun T' hT' _ _ hlt => by
      have := sq_le (C := C) (T := T') fun i j hi1 hj1 => by
        have := hT' i j hi1 hj1
        have := B.c1 i j hi1 hj1
        have := B.c2 i j hi1 hj1
        omega
      omega
  | succ fuel ih =>
    intro T hf hT hr hc
    exact push_step B T hT hr hc fun T' hT' hr' hc' hlt => ih T' (by omega) hT' hr' hc'
where
  push_step {N K : Nat} {b C : Int} {lo hi : Nat → Nat → Int} (B : Bds N K b C lo hi) (T : Nat → Nat → Int) (hT : ∀ i j, i < N → j < K → lo i j ≤ T i j ∧ T i j ≤ hi i j) (hr : ∀ i, i < N → sm K (T i) = 0) (hc : ∀ j, j < K → sm N (fun i => T i j) = 0)
      (next : ∀ T' : Nat → Nat → Int, (∀ i j, i < N → j < K → lo i j ≤ T' i j ∧ T' i j ≤ hi i j) → (∀ i, i < N → sm K (T' i) = 0) → (∀ j, j < K → sm N (fun i => T' i j) = 0) → sq N K T < sq N K T' →
        ∃ X : Nat → Nat → Int, (∀ i j, i < N → j < K → X i j = lo i j ∨ X i j = hi i j) ∧ (∀ i, i < N → sm K (X i) = 0) ∧ (∀ j, j < K → sm N (fun i => X i j) = 0)) :
      ∃ X : Nat → Nat → Int, (∀ i j, i < N → j < K → X i j = lo i j ∨ X i j = hi i j) ∧ (∀ i, i < N → sm K (X i) = 0) ∧ (∀ j, j < K → sm N (fun i => X i j) = 0) := by
    let loose : Nat → Nat → Prop := fun i j => i < N ∧ j < K ∧ lo i j < T i j ∧ T i j < hi i j
    have hmul : ∀ i j, i < N → j < K → ¬ loose i j → T i j % b = 0 := fun i j h1 h2 h3 => by
      have h4 := hT i j h1 h2
      have : T i j = lo i j ∨ T i j = hi i j := by
        by_cases e : T i j = lo i j
        · exact .inl e
        · right
          by_cases e2 : T i j = hi i j
          · exact e2
          · exact absurd ⟨h1, h2, by omega, by omega⟩ h3
      rcases this with e | e <;> rw [e]
      · exact B.l i j
      · exact B.h i j
    have hno : ∀ i j, loose i j → T i j % b ≠ 0 := fun i j h e => by
      obtain ⟨h1, h2, h3, h4⟩ := h
      have h5 := B.le i j
      have : (T i j - lo i j) % b = 0 := by rw [Int.sub_emod, e, B.l i j]; simp
      rw [Int.emod_eq_of_lt (by omega) (by omega)] at this
      omega
    by_cases hl : ∃ i j, loose i j
    · obtain ⟨i0, j0, h0⟩ := hl
      obtain ⟨D, d1, d2, d3, d4, i, j, hi1, hj1, hne⟩ := around (N := N) (K := K) (loose := loose) (fun i j h => ⟨h.1, h.2.1⟩) (fun i j h => by
        refine Classical.byContradiction fun hn => hno i j h (lone h.2.1 (hr i h.1) fun j' hj' hne => hmul i j' h.1 hj' fun hl => hn ⟨j', hne, hl⟩)) (fun i j h => by
        refine Classical.byContradiction fun hn => hno i j h (lone (f := fun i => T i j) h.1 (hc j h.2.1) fun i' hi' hne => hmul i' j hi' h.2.1 fun hl => hn ⟨i', hne, hl⟩)) h0
      have hp := sq_pos hi1 hj1 d1 hne
      have ht := sq_two N K T D
      have hok : ∀ i j, i < N → j < K → lo i j ≤ T i j + D i j ∧ T i j + D i j ≤ hi i j ∧ lo i j ≤ T i j - D i j ∧ T i j - D i j ≤ hi i j := fun i j h1 h2 => by
        have h3 := hT i j h1 h2
        have h4 := d1 i j
        by_cases e : D i j = 0
        · rw [e]; omega
        · have := (d2 i j e).2.2; omega
      by_cases hgt : sq N K T < sq N K (fun i j => T i j + D i j)
      · refine next _ (fun i j h1 h2 => ⟨(hok i j h1 h2).1, (hok i j h1 h2).2.1⟩) (fun i h1 => ?_) (fun j h1 => ?_) hgt
        · rw [sm_add, hr i h1]; have := d3 i; simp only [Int.zero_add]; exact this
        · rw [sm_add (fun i => T i j) (fun i => D i j), hc j h1, d4 j]; rfl
      · refine next (fun i j => T i j - D i j) (fun i j h1 h2 => ⟨(hok i j h1 h2).2.2.1, (hok i j h1 h2).2.2.2⟩) (fun i h1 => ?_) (fun j h1 => ?_) (by omega)
        · rw [sm_sub, hr i h1]; have := d3 i; simp only [Int.zero_sub]; rw [show sm K (fun i_1 => D i i_1) = 0 from this]; rfl
        · rw [sm_sub (fun i => T i j) (fun i => D i j), hc j h1, d4 j]; rfl
    · refine ⟨T, fun i j h1 h2 => ?_, hr, hc⟩
      have h3 := hT i j h1 h2
      by_cases e : T i j = lo i j
      · exact .inl e
      · right
        by_cases e2 : T i j = hi i j
        · exact e2
        · exact absurd ⟨i, j, h1, h2, by omega, by omega⟩ hl
end Go.Proofs.Ytgoianldiomdoaa
/- A table without fixes has a rounding: the table itself. -/
namespace Go.Proofs.Ytgoianldiomdoaa

theorem range_sm (f : Nat → Int) : ∀ n, ((List.range n).map f).sum = sm n f
  | 0 => rfl
  | n + 1 => by rw [List.range_succ, List.map_append, List.sum_append, range_sm f n]; simp [sm]
theorem sum_sm (xs : List Int) : ∀ k, k ≤ xs.length → (xs.take k).sum = sm k fun j => xs.getD j 0
  | 0, _ => rfl
  | k + 1, h => by
    rw [List.take_succ_eq_append_getElem (by omega), List.sum_append, sum_sm xs k (by omega)]
    simp [sm, List.getD, List.getElem?_eq_getElem (show k < xs.length by omega)]
theorem low_le {b x : Int} (hb : 2 ≤ b) : lowOf b x ≤ x ∧ x ≤ highOf b x ∧ highOf b x ≤ lowOf b x + b := by
  have h1 := Int.emod_nonneg x (show b ≠ 0 by omega)
  have h2 := Int.emod_nonneg (x + b - 1) (show b ≠ 0 by omega)
  have h3 := Int.emod_lt_of_pos (x + b - 1) (show 0 < b by omega)
  have h4 := Int.emod_lt_of_pos x (show 0 < b by omega)
  have e1 : lowOf b x = x - x % b := rfl
  have e2 : highOf b x = x + b - 1 - (x + b - 1) % b := rfl
  have m1 := (low_near (x := x) hb).1
  have m2 := (high_near (x := x) hb).1
  have : (highOf b x - lowOf b x) % b = 0 := by rw [Int.sub_emod, m1, m2]; simp
  obtain ⟨q, hq⟩ := Int.dvd_of_emod_eq_zero this
  have hq2 : q < 2 := by
    refine Int.lt_of_mul_lt_mul_left (a := b) ?_ (by omega)
    omega
  have := Int.mul_le_mul_of_nonneg_left (show q ≤ 1 by omega) (show 0 ≤ b by omega)
  omega
theorem near_of {b x y : Int} (h : y = lowOf b x ∨ y = highOf b x) : nearB b y x = true := by
  unfold nearB
  rcases h with rfl | rfl <;> simp
theorem near_neg {b s X : Int} (hb : 2 ≤ b) (h : X = lowOf b (-s) ∨ X = highOf b (-s)) : nearB b (-X) s = true := by
  rw [near_nbr hb]
  unfold nbrM
  have : X % b = 0 ∧ 1 - b ≤ X - -s ∧ X - -s ≤ b - 1 := by
    rcases h with rfl | rfl
    · exact low_near hb
    · exact high_near hb
  obtain ⟨h1, h2, h3⟩ := this
  simp only [Bool.and_eq_true, beq_iff_eq, decide_eq_true_eq]
  exact ⟨Int.emod_eq_zero_of_dvd ((Int.dvd_neg).2 (Int.dvd_of_emod_eq_zero h1)), by omega, by omega⟩
def cellA (cs : List (List Int)) (i j : Nat) : Int := (cs.getD i []).getD j 0
def extE (cs : List (List Int)) (n m i j : Nat) : Int :=
  if i < n then (if j < m then cellA cs i j else - sm m (cellA cs i)) else if j < m then - sm n (fun i => cellA cs i j) else sm n fun i => sm m (cellA cs i)
theorem plain_rounding {b : Int} {cs : List (List Int)} (ok : TOk b cs []) : ∃ x, IsR b cs [] x := by
  have hb := ok.okc.b1
  have hb2 := ok.okc.b2
  have hn5 := ok.okc.n2
  have hm4 := ok.okc.c2
  obtain ⟨n, hn⟩ : ∃ n, n = cs.length := ⟨_, rfl⟩
  obtain ⟨m, hm⟩ : ∃ m, m = colsOf cs := ⟨_, rfl⟩
  have hA : ∀ i j, 0 ≤ cellA cs i j ∧ cellA cs i j ≤ 10000 := fun i j => by
    have := (bounds_at (l := cs) (fun r hr x hx => by have := ok.okc.cell r hr x hx; omega) (fun r hr => by rw [ok.okc.row r hr]; exact hm4) i).1 j
    refine ⟨this.1, ?_⟩
    unfold cellA
    rw [List.getD, List.getD]
    cases h1 : cs[i]? with
    | none => simp
    | some r =>
      simp only [Option.getD_some]
      cases h2 : r[j]? with
      | none => simp
      | some v => simp only [Option.getD_some]; exact (ok.okc.cell r (List.mem_of_getElem? h1) v (List.mem_of_getElem? h2)).2
  have hrow : ∀ i, 0 ≤ sm m (cellA cs i) ∧ sm m (cellA cs i) ≤ 40000 := fun i => by
    refine ⟨sm_nonneg fun j _ => (hA i j).1, ?_⟩
    have := sm_le (n := m) (f := cellA cs i) (g := fun _ => 10000) fun j _ => (hA i j).2
    rw [sm_const] at this
    omega
  have hcol : ∀ j, 0 ≤ sm n (fun i => cellA cs i j) ∧ sm n (fun i => cellA cs i j) ≤ 50000 := fun j => by
    refine ⟨sm_nonneg fun i _ => (hA i j).1, ?_⟩
    have := sm_le (n := n) (f := fun i => cellA cs i j) (g := fun _ => 10000) fun i _ => (hA i j).2
    rw [sm_const] at this
    omega
  have htot : 0 ≤ sm n (fun i => sm m (cellA cs i)) ∧ sm n (fun i => sm m (cellA cs i)) ≤ 200000 := by
    refine ⟨sm_nonneg fun i _ => (hrow i).1, ?_⟩
    have := sm_le (n := n) (f := fun i => sm m (cellA cs i)) (g := fun _ => 40000) fun i _ => (hrow i).2
    rw [sm_const] at this
    omega
  have hE : ∀ i j, -200000 ≤ extE cs n m i j ∧ extE cs n m i j ≤ 200000 := fun i j => by
    have := hA i j; have := hrow i; have := hcol j
    unfold extE
    split <;> split <;> omega
  have B : Bds (n + 1) (m + 1) b 1000000 (fun i j => lowOf b (extE cs n m i j)) (fun i j => highOf b (extE cs n m i j)) :=
    ⟨by omega, fun i j => (low_near hb).1, fun i j => (high_near hb).1, fun i j => (low_le hb).2.2, fun i j _ _ => by
      have := (low_near (x := extE cs n m i j) hb).2; have := hE i j; omega, fun i j _ _ => by
      have := (high_near (x := extE cs n m i j) hb).2; have := hE i j; omega⟩
  obtain ⟨X, x1, x2, x3⟩ := push B _ (extE cs n m) (Nat.le_refl _) (fun i j _ _ => ⟨(low_le hb).1, (low_le hb).2.1⟩) (fun i hi => by
    simp only [sm]
    by_cases h : i < n
    · rw [sm_congr (g := cellA cs i) fun j hj => by unfold extE; rw [if_pos h, if_pos hj]]
      unfold extE
      rw [if_pos h, if_neg (by omega)]; omega
    · rw [sm_congr (g := fun j => - sm n fun i => cellA cs i j) fun j hj => by unfold extE; rw [if_neg h, if_pos hj], sm_neg, ← sm_comm (cellA cs) n m]
      unfold extE
      rw [if_neg h, if_neg (by omega)]; omega) (fun j hj => by
    simp only [sm]
    by_cases h : j < m
    · rw [sm_congr (g := fun i => cellA cs i j) fun i hi => by unfold extE; rw [if_pos hi, if_pos h]]
      unfold extE
      rw [if_neg (by omega), if_pos h]; omega
    · rw [sm_congr (g := fun i => - sm m (cellA cs i)) fun i hi => by unfold extE; rw [if_pos hi, if_neg h], sm_neg]
      unfold extE
      rw [if_neg (by omega), if_neg h]; omega)
  -- the table
  have hx : ∀ i, i < n → ((List.range n).map fun i => (List.range m).map (X i)).getD i [] = (List.range m).map (X i) := fun i hi => by
    rw [List.getD, List.getElem?_map, List.getElem?_range hi]; rfl
  have hrs : ∀ i, i < n → sm m (X i) = - X i m := fun i hi => by
    have := x2 i (by omega)
    simp only [sm] at this
    omega
  have hcs : ∀ j, j ≤ m → sm n (fun i => X i j) = - X n j := fun j hj => by
    have := x3 j (by omega)
    simp only [sm] at this
    omega
  have hA2 : ∀ i cells, cs[i]? = some cells → cells.length = m ∧ (∀ j, cells.getD j 0 = cellA cs i j) ∧ cells.sum = sm m (cellA cs i) := fun i cells hc => by
    have hl := ok.okc.row cells (List.mem_of_getElem? hc)
    have he : ∀ j, cells.getD j 0 = cellA cs i j := fun j => by unfold cellA; rw [show cs.getD i [] = cells by rw [List.getD, hc]; rfl]
    refine ⟨by omega, he, ?_⟩
    have := sum_sm cells cells.length (Nat.le_refl _)
    rw [List.take_length] at this
    rw [this, hl, ← hm]
    exact sm_congr fun j _ => he j
  refine ⟨(List.range n).map fun i => (List.range m).map (X i), ⟨by simp [hn], fun i cells l hc hl => ?_, ?_⟩⟩
  · have hi : i < n := by rw [hn]; exact (List.getElem?_eq_some_iff.1 hc).1
    rw [List.getElem?_map, List.getElem?_range hi] at hl
    injection hl with hl
    subst hl
    obtain ⟨g1, g2, g3⟩ := hA2 i cells hc
    refine ⟨cands_mem.2 ⟨by simp [g1], fun j x y hx hy => ?_⟩, ?_⟩
    · have hj : j < m := by have := (List.getElem?_eq_some_iff.1 hx).1; omega
      rw [List.getElem?_map, List.getElem?_range hj] at hy
      injection hy with hy
      subst hy
      have e : extE cs n m i j = x := by
        unfold extE
        rw [if_pos hi, if_pos hj, ← g2 j, List.getD, hx]; rfl
      have := x1 i j (by omega) (by omega)
      rw [e] at this
      exact near_of this
    · unfold testB
      rw [Bool.and_eq_true]
      refine ⟨?_, by simp [holdsB]⟩
      rw [range_sm, g3, hrs i hi]
      refine near_neg hb ?_
      have := x1 i m (by omega) (by omega)
      have e : extE cs n m i m = - sm m (cellA cs i) := by unfold extE; rw [if_pos hi, if_neg (by omega)]
      rwa [e] at this
  · rw [closes_all ok.okc.row (fun r hr => by
      obtain ⟨i, _, rfl⟩ := List.mem_map.1 hr
      simp [hm]) hm4, Bool.and_eq_true, List.all_eq_true]
    have hxl : ((List.range n).map fun i => (List.range m).map (X i)).length = n := by simp
    have hcsum : ∀ i, (cs.getD i []).sum = sm m (cellA cs i) ∨ ¬ i < n := fun i => by
      by_cases hi : i < n
      · left
        have hc := List.getElem?_eq_getElem (l := cs) (i := i) (by omega)
        rw [List.getD, hc]
        exact (hA2 i _ hc).2.2
      · right; exact hi
    refine ⟨fun j hj => ?_, ?_⟩
    · have hj := List.mem_range.1 hj
      rw [← hm] at hj
      have e1 : colTo ((List.range n).map fun i => (List.range m).map (X i)) ((List.range n).map fun i => (List.range m).map (X i)).length j = - X n j := by
        unfold colTo
        rw [hxl, range_sm, ← hcs j (by omega)]
        refine sm_congr fun i hi => ?_
        rw [hx i hi, List.getD, List.getElem?_map, List.getElem?_range hj]; rfl
      have e2 : colTo cs cs.length j = sm n fun i => cellA cs i j := by
        unfold colTo
        rw [range_sm, ← hn]; rfl
      rw [e1, e2]
      refine near_neg hb ?_
      have := x1 n j (by omega) (by omega)
      have e : extE cs n m n j = - sm n (fun i => cellA cs i j) := by unfold extE; rw [if_neg (by omega), if_pos hj]
      rwa [e] at this
    · have e1 : totTo ((List.range n).map fun i => (List.range m).map (X i)) ((List.range n).map fun i => (List.range m).map (X i)).length = X n m := by
        unfold totTo
        rw [hxl, range_sm]
        have := hcs m (Nat.le_refl _)
        rw [sm_congr (g := fun i => - X i m) fun i hi => by rw [hx i hi, range_sm, hrs i hi], sm_neg, this]
        omega
      have e2 : totTo cs cs.length = sm n fun i => sm m (cellA cs i) := by
        unfold totTo
        rw [range_sm, ← hn]
        exact sm_congr fun i hi => (hcsum i).resolve_right (fun h => h hi)
      rw [e1, e2]
      refine near_of ?_
      have := x1 n m (by omega) (by omega)
      have e : extE cs n m n m = sm n fun i => sm m (cellA cs i) := by unfold extE; rw [if_neg (by omega), if_neg (by omega)]
      rwa [e] at this
end Go.Proofs.Ytgoianldiomdoaa
