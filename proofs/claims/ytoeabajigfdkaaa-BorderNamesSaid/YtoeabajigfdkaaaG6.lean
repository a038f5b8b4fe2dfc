/- The walks and the plain laws of this part of the program, part 6: what each computes. Conditions stand at each theorem. -/
import Derived.Maps.AppendAt
import Derived.DeepKeys3
import Derived.WideKeyEntry
import Derived.Test.YtoeabajigfdkaaaG1
import Derived.Test.YtoeabajigfdkaaaG2
import Derived.Test.YtoeabajigfdkaaaG3
import Derived.Test.YtoeabajigfdkaaaG4
import Derived.Test.YtoeabajigfdkaaaG5
/- The bounds of all streets and of all new districts. No condition. -/
namespace Go.Proofs.Ytoeabajigfdkaaa
open Go.RowKit Go.Shelf

theorem own_ne {W : World} {base e size n z : Nat} {v : Value} {xs : List Value} (h : W.ownsRow base e size v n xs) (hz : ∀ cs, W.heap[z]? ≠ some (.cells cs e (0, 0))) : v.ownBlock = none ∨ v.ownBlock ≠ some z := by
  rcases h.2 with ⟨rfl, _⟩ | ⟨g, cap, cur, rfl, _, hb, _⟩
  · exact .inl rfl
  · refine .inr fun e' => ?_
    injection e' with e'
    simp only at e'
    subst e'
    exact hz _ hb
theorem blk_not {W : World} {g t e : Nat} {us : Array Value} (h : Blk W g t us) (hne : t ≠ e) : ∀ cs, W.heap[g]? ≠ some (.cells cs e (0, 0)) := by
  intro cs hc
  unfold Blk at h
  rw [h] at hc
  injection hc with hc
  injection hc with _ ht
  exact hne ht
/-- a block of another type stays where a row has grown -/
theorem blk_grown {W W' : World} {base e size n g t : Nat} {v : Value} {xs : List Value} {us : Array Value} (ho : W.ownsRow base e size v n xs) (hg : W.grownBy W' v.ownBlock) (hb : Blk W g t us) (hne : t ≠ e) : Blk W' g t us :=
  (hg.block _ hb.lt (by
    rcases own_ne ho (blk_not hb hne) with q | q
    · rw [q]; intro e'; cases e'
    · exact fun e' => q e'.symm)).trans hb
def rgC (rs : List (Int × Int)) : List Value := rs.flatMap fun p => [.int .i64 p.1, .int .i64 p.2]
theorem rgC_snoc (rs : List (Int × Int)) (p : Int × Int) : rgC (rs ++ [p]) = rgC rs ++ [.int .i64 p.1, .int .i64 p.2] := by simp [rgC]
theorem rgC_at : ∀ {rs : List (Int × Int)} {c : Nat} {p : Int × Int}, rs[c]? = some p → (rgC rs)[c * 2]? = some (.int .i64 p.1) ∧ (rgC rs)[c * 2 + 1]? = some (.int .i64 p.2)
  | [], c, p, h => by simp at h
  | q :: l, 0, p, h => by
    simp at h; subst h
    exact ⟨rfl, rfl⟩
  | q :: l, c + 1, p, h => by
    have : rgC (q :: l) = Value.int .i64 q.1 :: Value.int .i64 q.2 :: rgC l := rfl
    have ih := rgC_at (rs := l) (c := c) (p := p) (by simpa using h)
    rw [this, show (c + 1) * 2 = c * 2 + 1 + 1 by omega]
    exact ih
/-- the slice at A reads as these ranges, below block n -/
def IsRngs (w : World) (n : Nat) (A : Option Addr) (rs : List (Int × Int)) : Prop :=
  ∀ k p, rs[k]? = some p → ∃ a, A = some a ∧ a.block < n ∧ w.cell? (a.add (k * 2)) = some (.int .i64 p.1) ∧ w.cell? ⟨(a.add (k * 2)).block, (a.add (k * 2)).off + 1, none⟩ = some (.int .i64 p.2)
theorem IsRngs.at_ {w w' : World} {A : Option Addr} {rs : List (Int × Int)} (h : IsRngs w w.heap.size A rs) (hb : Below w.heap.size w w') : IsRngs w' w'.heap.size A rs := fun k s hk => by
  obtain ⟨a, e, hl, h0, h1⟩ := h k s hk
  exact ⟨a, e, Nat.lt_of_lt_of_le hl hb.size, (hb.cell (by rw [block_of_add]; exact hl)).trans h0, (hb.cell (by show (a.add _).block < _; rw [block_of_add]; exact hl)).trans h1⟩
theorem own_rngs {W : World} {base n : Nat} {v : Value} {rs : List (Int × Int)} (h : W.ownsRow base 49 2 v n (rgC rs)) (hn : n = rs.length) : ∃ A c, v = .slice A rs.length c ∧ IsRngs W W.heap.size A rs ∧ rs.length ≤ c ∧ c ≤ maxLen := by
  subst hn
  rcases h.2 with ⟨e, h0⟩ | ⟨z, cap, cur, e, hb, _, hl, hm, _⟩
  · have : rs = [] := List.eq_nil_of_length_eq_zero h0
    subst this
    exact ⟨none, 0, e, fun k p hk => by simp at hk, Nat.le_refl _, Nat.zero_le _⟩
  · refine ⟨some ⟨z, 0, none⟩, cap, e, fun k p hk => ?_, hl, hm⟩
    obtain ⟨q1, q2⟩ := rgC_at hk
    have c1 := h.cells (g := z) (by rw [e]; rfl) _ _ q1
    have c2 := h.cells (g := z) (by rw [e]; rfl) _ _ q2
    rw [add_blk] at c1 c2
    refine ⟨⟨z, 0, none⟩, rfl, ?_, ?_, ?_⟩
    · have := World.block_lt_of_cell? W _ c1
      exact this
    · rw [add_blk]; exact c1
    · rw [add_blk]; exact c2
theorem brng_info : (Try.prog.info? 49).map (fun i => (i.zero, i.size, i.bytes)) = some (some (.agg #[.int .i64 0, .int .i64 0]), 2, 16) := by kernel_rfl
/-- a list of ranges is handed back -/
def GivesRngs (rs : List (Int × Int)) (w : World) (e : Ending) (w' : World) : Prop := ∃ A c, e = .returned (.tuple #[.slice A rs.length c, .int .i64 0]) ∧ IsRngs w' w'.heap.size A rs ∧ rs.length ≤ c ∧ c ≤ maxLen ∧ Below w.heap.size w w'
theorem rng_new (w : World) (x y : Int) : ∀ (j : Nat) (u : Value), [Value.int .i64 x, .int .i64 y][j]? = some u → (w.alloc (.cells #[.int .i64 x, .int .i64 y] 49)).cell? ((⟨w.heap.size, 0, none⟩ : Addr).add j) = some u := by
  intro q u hq
  rw [add_blk]
  obtain ⟨n0, n1⟩ := (Blk.new w 49 #[.int .i64 x, .int .i64 y]).c2
  match q, hq with
  | 0, hq => injection hq with hq; subst hq; exact n0
  | 1, hq => injection hq with hq; subst hq; exact n1
  | q + 2, hq => simp at hq
theorem rng_blk {W : World} {g : Nat} {x y : Int} (h : Blk W g 49 #[.int .i64 x, .int .i64 y]) : ∀ (j : Nat) (u : Value), [Value.int .i64 x, .int .i64 y][j]? = some u → W.cell? ((⟨g, 0, none⟩ : Addr).add j) = some u := by
  intro q u hq
  rw [add_blk]
  obtain ⟨n0, n1⟩ := h.c2
  match q, hq with
  | 0, hq => injection hq with hq; subst hq; exact n0
  | 1, hq => injection hq with hq; subst hq; exact n1
  | q + 2, hq => simp at hq
def aloneP (i : Nat) : Nat → Bool := fun k => ((k : Int) == (i : Int))
def strOne (m : MapD) (i : Nat) : Int × Int := (partLo m (aloneP i) (m.S i).o.toNat, partHi m (aloneP i) (m.S i).o.toNat)
def strL (m : MapD) : List (Int × Int) := (List.range m.ss.length).map (strOne m)
def bndOne (m : MapD) (d : Nat) : Int × Int := (sizeLo m (inD (ownL m) (d : Int)) m.old.length, sizeHi m (inD (ownL m) (d : Int)) m.old.length)
def bndL (m : MapD) : List (Int × Int) := (List.range m.nw.toNat).map (bndOne m)
theorem map_range_succ {α : Type} (f : Nat → α) (k : Nat) : (List.range (k + 1)).map f = (List.range k).map f ++ [f k] := by rw [List.range_succ, List.map_append]; rfl

set_option maxRecDepth 100000 in
set_option maxHeartbeats 2000000 in
theorem streets_any (m : MapD) (A : Option Addr) (c : Nat) (A2 : Option Addr) (c2 : Nat) (A3 : Option Addr) (c3 : Nat) (w : World) (h : MIn m A c A2 c2 A3 c3 w) :
    Calls Try.prog 45 #[.agg #[.slice A m.old.length c, .int .i64 m.nw, .slice A2 m.ss.length c2, .slice A3 m.js.length c3]] w fun e w' => if cstM m ≠ 0 then e = .returned (.tuple #[.slice none 0 0, .int .i64 (cstM m)]) ∧ Below w.heap.size w w' else GivesRngs (strL m) w e w' := by
  have hm1 := h.m2
  have hl1 := h.l2
  unfold maxLen at hm1
  have hB := below_box (w := w) #[.slice A m.old.length c, .int .i64 m.nw, .slice A2 m.ss.length c2, .slice A3 m.js.length c3] 34
  have hT := Blk.new w 34 #[.slice A m.old.length c, .int .i64 m.nw, .slice A2 m.ss.length c2, .slice A3 m.js.length c3]
  obtain ⟨t0, t1, t2, t3⟩ := hT.c4
  have HB := hid hB
  have HT := hid hT
  have HH := hid h
  have KC := hid (consist_any m A c A2 c2 A3 c3 _ (h.at_ hB))
  clear h hB hT
  by_cases hc : cstM m = 0
  · rw [hc] at KC
    simp only [hc, ne_eq, not_true_eq_false, if_false]
    have hok : chkM m = 0 := by
      unfold cstM at hc
      by_cases h : chkM m = 0
      · exact h
      · rw [if_neg h] at hc; exact absurd hc h
    have OK := hid (chk_okm hok)
    have hs8 := OK.out.s8
    clear hc hok
    go_enter Try.func45, Try.ntmps45
    go_wp2_with fail
    refine KC.out.mono ?_
    rintro e wc ⟨rfl, hb⟩
    have HBC := hid (HB.out.trans (hb.mono HB.out.size))
    have HTC := hid (HT.out.keep hb)
    clear hb KC t0 t1 t2 t3
    obtain ⟨t0, t1, t2, t3⟩ := HTC.out.c4
    go_wp2
    clear t0 t1 t2 t3
    go_loopw [5, 16] (fun v i W => ∃ k : Nat, k ≤ m.ss.length ∧ i = .int .i64 k ∧ W.ownsRow w.heap.size 49 2 v k (rgC ((List.range k).map (strOne m))) ∧ Below w.heap.size w W ∧ Blk W w.heap.size 34 #[.slice A m.old.length c, .int .i64 m.nw, .slice A2 m.ss.length c2, .slice A3 m.js.length c3]) (fun _ i _ => m.ss.length - (intOf i).toNat)
    case atStart => exact ⟨0, Nat.zero_le _, rfl, ⟨rfl, .inl ⟨rfl, rfl⟩⟩, HBC.out, HTC.out⟩
    case round =>
      obtain ⟨k, hk, rfl, ho, hb, hbm⟩ := hrel
      obtain ⟨t0, t1, t2, t3⟩ := hbm.c4
      have bl := hbm.lt
      have bl1 : w.heap.size < wr.heap.size + 1 := by omega
      have HO := hid (And.intro ho (And.intro hb hbm))
      by_cases hlt : k < m.ss.length
      · have hkI : (k : Int) < (m.ss.length : Int) := by omega
        obtain ⟨s, hs⟩ : ∃ s, m.ss[k]? = some s := ⟨_, List.getElem?_eq_getElem hlt⟩
        obtain ⟨a, rfl, hab, f0, f1, f2, f3, f4⟩ := (HH.out.at_ hb).is k s hs
        have hso := OK.out.sAt hlt
        rw [MapD.S_eq hs] at hso
        have HSO := hid (show s.o = ((s.o.toNat : Nat) : Int) by omega)
        have HSK := hid (MapD.S_eq hs)
        have hbi := Blk.new wr 3 #[.int .i64 (k : Int)]
        have hbw := then_below (below_box (w := wr) #[.int .i64 (k : Int)] 3) (below_box #[.int .i64 s.o, .int .i64 s.n, .int .i64 s.wt, .int .i64 s.lo, .int .i64 s.hi] 89)
        have KP := part_any m (aloneP k) 88 #[.pointer (some ⟨wr.heap.size, 0, none⟩)] s.o.toNat A c (some a) c2 A3 c3 _ ((HH.out.at_ hb).at_ hbw) OK.out (by omega) (enters_of Try.func88 (by kernel_rfl) rfl)
          (fun W i hW hi => by simpa [aloneP] using alone_test (k : Int) (i : Int) _ W ((hbi.alloc _).keep hW))
        rw [← HSO.out] at KP
        have KP := hid KP
        have HBW := hid hbw
        clear ho hb hbm hs hbi hbw hso hab
        go_wp2_with fail
        refine KP.out.mono ?_
        rintro e w2 ⟨rfl, hb2⟩
        have hbx := HBW.out.trans (hb2.mono HBW.out.size)
        have ho2 := row_kept (vo := .slice none 0 0) HO.out.1 (grown_of_below hbx _) (.inl rfl)
        have hbw2 := HO.out.2.1.trans (hbx.mono HO.out.2.1.size)
        obtain ⟨i0, hi0, hz0, hz1, hz2⟩ := info_parts brng_info
        have HV := hid (show strOne m k = (partLo m (aloneP k) s.o.toNat, partHi m (aloneP k) s.o.toNat) by unfold strOne; rw [HSK.out])
        generalize partLo m (aloneP k) s.o.toNat = P at *
        generalize partHi m (aloneP k) s.o.toNat = Q at *
        have HO2 := hid (And.intro (ho2.alloc (.cells #[.int .i64 P, .int .i64 Q] 49)) (And.intro hbw2 (HO.out.2.2.keep hbx)))
        have hsz2 := hbw2.size
        clear ho2 hbw2 hbx hb2 t0 t1 t2 t3 f0 f1 f2 f3 f4 HO
        go_wp2_with (at_builtin; refine wpList_append_own_at _ rfl _ _ 46 rfl w.heap.size 49 i0 (.agg #[.int .i64 0, .int .i64 0]) 2 16 Try.underlying46 hi0 hz0 hz1 hz2 rfl (by decide) u5 k _ rfl HO2.out.1 ⟨w2.heap.size, 0, none⟩ 1 1 [.int .i64 P, .int .i64 Q] rfl rfl (rng_new w2 P Q) (by intro u hu; simp at hu; rcases hu with rfl | rfl <;> rfl) (by simp only [maxLen]; omega) (by omega) (by simp; omega) ?_; intro v' w6 hown' hgrow _ _)
        have hba : Below w2.heap.size w2 (w2.alloc (.cells #[.int .i64 P, .int .i64 Q] 49)) := below_box _ _
        have b5 := HO2.out.2.1.trans (hba.mono HO2.out.2.1.size)
        have b6 := below_row' b5 HO2.out.1 (Nat.le_refl _) hgrow (by simp; omega)
        have m6 := blk_grown HO2.out.1 hgrow (HO2.out.2.2.keep hba) (by decide)
        have HN := hid (show w6.ownsRow w.heap.size 49 2 v' (k + 1) (rgC ((List.range (k + 1)).map (strOne m))) ∧ Below w.heap.size w w6 ∧ Blk w6 w.heap.size 34 #[.slice A m.old.length c, .int .i64 m.nw, .slice (some a) m.ss.length c2, .slice A3 m.js.length c3] from
          ⟨by rw [map_range_succ, rgC_snoc, HV.out]; exact hown', b6, m6⟩)
        clear HO2 hba b5 b6 m6 hown' hgrow KP HV
        go_wp2
        go_roundw
        case rel => exact ⟨k + 1, by omega, by go_num, HN.out⟩
        case measure => first | (simp [intOf]; done) | (simp [intOf]; omega)
      · have hkI : decide ((k : Int) < (m.ss.length : Int)) = false := by simp; omega
        obtain rfl : k = m.ss.length := by omega
        obtain ⟨A5, c5, e5, q1, q2, q3⟩ := own_rngs ho (by simp)
        subst e5
        have HN := hid (show GivesRngs (strL m) w (.returned (.tuple #[.slice A5 (strL m).length c5, .int .i64 0])) wr from ⟨A5, c5, rfl, q1, q2, q3, hb⟩)
        clear ho hb hbm q1 q2 q3 HO t0 t1 t2 t3
        go_wp2
        go_ret2
        exact HN.out
  · have hne : (cstM m != 0) = true := by simp [hc]
    simp only [ne_eq, hc, not_false_eq_true, if_true]
    obtain ⟨z, hz⟩ : ∃ z, cstM m = z := ⟨_, rfl⟩
    rw [hz] at KC hne ⊢
    clear hc hz
    go_enter Try.func45, Try.ntmps45
    go_wp2_with fail
    refine KC.out.mono ?_
    rintro e wc ⟨rfl, hb⟩
    have HBC := hid (HB.out.trans (hb.mono HB.out.size))
    clear hb KC t0 t1 t2 t3
    go_wp2
    go_ret2
    exact ⟨rfl, HBC.out⟩
set_option maxRecDepth 100000 in
set_option maxHeartbeats 2000000 in
theorem bounds_any (m : MapD) (A : Option Addr) (c : Nat) (A2 : Option Addr) (c2 : Nat) (A3 : Option Addr) (c3 : Nat) (w : World) (h : MIn m A c A2 c2 A3 c3 w) :
    Calls Try.prog 27 #[.agg #[.slice A m.old.length c, .int .i64 m.nw, .slice A2 m.ss.length c2, .slice A3 m.js.length c3]] w fun e w' => if cstM m ≠ 0 then e = .returned (.tuple #[.slice none 0 0, .int .i64 (cstM m)]) ∧ Below w.heap.size w w' else GivesRngs (bndL m) w e w' := by
  have hm1 := h.m2
  have hl1 := h.l2
  unfold maxLen at hm1
  have hB := below_box (w := w) #[.slice A m.old.length c, .int .i64 m.nw, .slice A2 m.ss.length c2, .slice A3 m.js.length c3] 34
  have hT := Blk.new w 34 #[.slice A m.old.length c, .int .i64 m.nw, .slice A2 m.ss.length c2, .slice A3 m.js.length c3]
  obtain ⟨t0, t1, t2, t3⟩ := hT.c4
  have HB := hid hB
  have HT := hid hT
  have HH := hid h
  have KC := hid (consist_any m A c A2 c2 A3 c3 _ (h.at_ hB))
  clear h hB hT
  by_cases hc : cstM m = 0
  · rw [hc] at KC
    simp only [hc, ne_eq, not_true_eq_false, if_false]
    have hok : chkM m = 0 := by
      unfold cstM at hc
      by_cases h : chkM m = 0
      · exact h
      · rw [if_neg h] at hc; exact absurd hc h
    have OK := hid (chk_okm hok)
    have hs8 := OK.out.s8
    clear hc hok
    go_enter Try.func27, Try.ntmps27
    go_wp2_with fail
    refine KC.out.mono ?_
    rintro e wc ⟨rfl, hb⟩
    have HBC := hid (HB.out.trans (hb.mono HB.out.size))
    have HTC := hid (HT.out.keep hb)
    clear hb KC t0 t1 t2 t3
    obtain ⟨t0, t1, t2, t3⟩ := HTC.out.c4
    have hn1 := OK.out.n1
    have hn4 := OK.out.n4
    obtain ⟨N, hN⟩ : ∃ N : Nat, m.nw = (N : Int) := ⟨m.nw.toNat, by omega⟩
    have HN0 := hid hN
    rw [hN] at t1
    clear hN
    go_wp2
    clear t0 t1 t2 t3
    go_loopw [5, 14] (fun v i W => ∃ k : Nat, k ≤ N ∧ i = .int .i64 k ∧ W.ownsRow w.heap.size 49 2 v k (rgC ((List.range k).map (bndOne m))) ∧ Below w.heap.size w W ∧ Blk W w.heap.size 34 #[.slice A m.old.length c, .int .i64 m.nw, .slice A2 m.ss.length c2, .slice A3 m.js.length c3]) (fun _ i _ => N - (intOf i).toNat)
    case atStart => exact ⟨0, Nat.zero_le _, rfl, ⟨rfl, .inl ⟨rfl, rfl⟩⟩, HBC.out, HTC.out⟩
    case round =>
      obtain ⟨k, hk, rfl, ho, hb, hbm⟩ := hrel
      have hk4 : N ≤ 4 := by have := HN0.out; omega
      have HO := hid (And.intro ho (And.intro hb hbm))
      by_cases hlt : k < N
      · have hkI : (k : Int) < (N : Int) := by omega
        have KO := hid (fun W (hW : Below wr.heap.size wr W) => bown_any m A c A2 c2 A3 c3 W ((HH.out.at_ hb).at_ hW) hs8)
        have KS := hid (fun W (hW : Below wr.heap.size wr W) => bsize_any m (ownL m) (k : Int) A c A2 c2 A3 c3 W ((HH.out.at_ hb).at_ hW) OK.out)
        have HV := hid (show bndOne m k = (sizeLo m (inD (ownL m) (k : Int)) m.old.length, sizeHi m (inD (ownL m) (k : Int)) m.old.length) from rfl)
        generalize sizeLo m (inD (ownL m) (k : Int)) m.old.length = S at *
        generalize sizeHi m (inD (ownL m) (k : Int)) m.old.length = T at *
        clear ho hb hbm
        go_wp2
        refine (wpIn_wide (n := 0)).1 ?_
        refine wpIn_region_each 7 (fun i v W' => match i with | 0 => v = u5 | 1 => v = .agg #[.slice A m.old.length c, .int .i64 m.nw, .slice A2 m.ss.length c2, .slice A3 m.js.length c3] | 2 => v = .agg #[.slice A m.old.length c, .int .i64 m.nw, .slice A2 m.ss.length c2, .slice A3 m.js.length c3] | 3 => v = .agg (liC (ownL m)) | 4 => v = .int .i64 (k : Int) | 5 => v = .agg #[.int .i64 S, .int .i64 T] | 6 => ∃ gl, v = .slice (some ⟨gl, 0, none⟩) 1 1 ∧ Blk W' gl 49 #[.int .i64 S, .int .i64 T] | _ => True) (fun A B => Below A.heap.size A B) (fun _ _ => True) (by kernel_rfl) (by kernel_rfl) ?_ (fun h k => h.trans (k.mono h.size)) ⟨rfl, rfl, rfl, Nat.le_refl _, fun _ _ => rfl⟩ trivial (by kernel_rfl) ?_ ?_
        · intro i v W1 W2 hb h
          match i, h with
          | 0, h => exact h
          | 1, h => exact h
          | 2, h => exact h
          | 3, h => exact h
          | 4, h => exact h
          | 5, h => exact h
          | 6, h =>
            obtain ⟨gl, rfl, h1⟩ := h
            exact ⟨_, rfl, h1.keep hb⟩
          | i + 7, h => trivial
        · refine ⟨?_, ?_, ?_, ?_, ?_, ?_, ?_, trivial⟩
          · -- 0
            intro li a1 W2 hA K hK
            have e5 := hA.par 5 (by kernel_rfl)
            refine opStep none 0 rfl rfl (fun c hc => by cases hc) ?_
            go_simp
            exact hK _ _ rfl (Below.refl _ _) trivial
          · -- 1
            intro li a1 W2 hA K hK
            have e1 := hA.par 1 (by kernel_rfl)
            obtain ⟨q1, q2, q3, q4⟩ := (HO.out.2.2.keep hA.st).c4
            refine opStep none 0 rfl rfl (fun c hc => by cases hc) ?_
            go_simp
            exact hK _ _ rfl (Below.refl _ _) trivial
          · -- 2
            intro li a1 W2 hA K hK
            have e1 := hA.par 1 (by kernel_rfl)
            obtain ⟨q1, q2, q3, q4⟩ := (HO.out.2.2.keep hA.st).c4
            refine opStep none 0 rfl rfl (fun c hc => by cases hc) ?_
            go_simp
            exact hK _ _ rfl (Below.refl _ _) trivial
          · -- 3
            intro li a1 W2 hA K hK
            have e19 : a1.tmps.getD 19 undef = .agg #[.slice A m.old.length c, .int .i64 m.nw, .slice A2 m.ss.length c2, .slice A3 m.js.length c3] := hA.val 2 19 (by kernel_rfl) (by kernel_rfl)
            refine opStep none 0 rfl rfl (fun c hc => by cases hc) ?_
            go_simp
            refine (KO.out W2 hA.st).mono ?_
            rintro e W4 ⟨rfl, hb⟩
            exact hK _ _ rfl hb trivial
          · -- 4
            intro li a1 W2 hA K hK
            have e6 := hA.par 6 (by kernel_rfl)
            refine opStep none 0 rfl rfl (fun c hc => by cases hc) ?_
            go_simp
            exact hK _ _ rfl (Below.refl _ _) trivial
          · -- 5
            intro li a1 W2 hA K hK
            have e18 : a1.tmps.getD 18 undef = .agg #[.slice A m.old.length c, .int .i64 m.nw, .slice A2 m.ss.length c2, .slice A3 m.js.length c3] := hA.val 1 18 (by kernel_rfl) (by kernel_rfl)
            have e20 : a1.tmps.getD 20 undef = .agg (liC (ownL m)) := hA.val 3 20 (by kernel_rfl) (by kernel_rfl)
            have e21 : a1.tmps.getD 21 undef = .int .i64 (k : Int) := hA.val 4 21 (by kernel_rfl) (by kernel_rfl)
            refine opStep none 0 rfl rfl (fun c hc => by cases hc) ?_
            go_simp
            refine (KS.out W2 hA.st).mono ?_
            rintro e W4 ⟨rfl, hb⟩
            exact hK _ _ rfl hb trivial
          · -- 6
            intro li a1 W2 hA K hK
            have e22 : a1.tmps.getD 22 undef = .agg #[.int .i64 S, .int .i64 T] := hA.val 5 22 (by kernel_rfl) (by kernel_rfl)
            have e22' := e22
            rw [Array.getD_eq_getD_getElem?] at e22'
            refine opStep none 0 rfl rfl (fun c hc => by cases hc) ?_
            go_simp
            exact hK _ _ ⟨_, rfl, Blk.new _ _ _⟩ ((Below.refl _ _).alloc (Nat.le_refl _) _) trivial
        · intro li a1 W2 hD
          obtain ⟨gl, e23, hgl⟩ := hD.val 6 23 (by kernel_rfl) (by kernel_rfl)
          have e17 : a1.tmps.getD 17 undef = u5 := hD.val 0 17 (by kernel_rfl) (by kernel_rfl)
          have hst := hD.st
          have ho2 := row_kept (vo := .slice none 0 0) HO.out.1 (grown_of_below hst _) (.inl rfl)
          have hbw2 := HO.out.2.1.trans (hst.mono HO.out.2.1.size)
          have hsz2 := hbw2.size
          obtain ⟨i0, hi0, hz0, hz1, hz2⟩ := info_parts brng_info
          obtain ⟨v', w7, hrun, hr7, hg7, _, hf7⟩ := run_append_own_at (P := Try.prog) W2 w.heap.size 46 46 49 i0 (.agg #[.int .i64 0, .int .i64 0]) 2 16 Try.underlying46 hi0 hz0 hz1 hz2 rfl (by decide) u5 k _ ho2 ⟨gl, 0, none⟩ 1 1 [.int .i64 S, .int .i64 T] rfl (rng_blk hgl) (by intro u hu; simp at hu; rcases hu with rfl | rfl <;> rfl) (by simp only [maxLen]; omega) (by omega) (by omega)
          have b6 := below_row' hbw2 ho2 (Nat.le_refl _) hg7 hsz2
          have m6 := blk_grown ho2 hg7 (HO.out.2.2.keep hst) (by decide)
          have HN := hid (show w7.ownsRow w.heap.size 49 2 v' (k + 1) (rgC ((List.range (k + 1)).map (bndOne m))) ∧ Below w.heap.size w w7 ∧ Blk w7 w.heap.size 34 #[.slice A m.old.length c, .int .i64 m.nw, .slice A2 m.ss.length c2, .slice A3 m.js.length c3] from ⟨by rw [map_range_succ, rgC_snoc, HV.out]; exact hr7, b6, m6⟩)
          have hkp2 := hD.keeps (ds := [17, 18, 19, 20, 21, 22, 23, 24, 5]) (by kernel_rfl)
          have hds := hD.size
          have hsz : a1.tmps.size = 27 := hD.size
          have hdd := hD.defers
          clear hst hr7 hg7 hf7 hgl ho2 hbw2 hsz2 b6 m6
          refine tail_val (i := 7) (v := v') (W' := w7) none 0 rfl rfl rfl (fun c hc => by cases hc) (by simp [execOp, resolve, invoke, builtin, Act.eval, e17, e23, hrun, Result.andThen]) (by rw [hsz]; decide) ?_
          intro a3 s3 d3 f3 o3
          have hkp3 := keeps_then hkp2 o3 (by decide)
          refine tail_val (i := 8) (v := v') (W' := w7) none 0 rfl rfl rfl (fun c hc => by cases hc) (by go_simp) (by rw [s3, hsz]; decide) ?_
          intro a4 s4 d4 f4 o4
          have hkp4 := keeps_then hkp3 o4 (by decide)
          have e := act_mix [17, 18, 19, 20, 21, 22, 23, 24, 5] (s4.trans (s3.trans hds)) (d4.trans (d3.trans hdd)) (fun i _ hc => hkp4 i hc)
          have hg5 : (fun i => a4.tmps.getD i undef) 5 = v' := f4
          generalize (fun i => a4.tmps.getD i undef) = g' at e hg5
          refine wpListIn_nil ?_
          rw [e]
          clear e hD hkp2 hkp3 hkp4 s3 s4 d3 d4 f3 f4 o3 o4 e17 e23 hds hdd hsz hi0 hz0 hz1 hz2 hrun HO KO KS HV
          simp only [mix, List.contains_cons, List.contains_nil, Nat.reduceAdd, Nat.reduceBEq, Bool.or_false, Bool.or_true, cond_true, cond_false, hg5]
          clear hg5
          go_wp2
          go_roundw
          case rel => exact ⟨k + 1, by omega, by go_num, HN.out⟩
          case measure => first | (simp [intOf]; done) | (simp [intOf]; omega)
      · have hkI : decide ((k : Int) < (N : Int)) = false := by simp; omega
        obtain rfl : k = N := by omega
        obtain ⟨A5, c5, e5, q1, q2, q3⟩ := own_rngs ho (by simp)
        subst e5
        have hbl : bndL m = (List.range k).map (bndOne m) := by unfold bndL; rw [show m.nw.toNat = k by have := HN0.out; omega]
        have HN := hid (show GivesRngs (bndL m) w (.returned (.tuple #[.slice A5 ((List.range k).map (bndOne m)).length c5, .int .i64 0])) wr by rw [hbl]; exact ⟨A5, c5, rfl, q1, q2, q3, hb⟩)
        clear ho hb hbm q1 q2 q3 HO hbl
        go_wp2
        go_ret2
        exact HN.out
  · have hne : (cstM m != 0) = true := by simp [hc]
    simp only [ne_eq, hc, not_false_eq_true, if_true]
    obtain ⟨z, hz⟩ : ∃ z, cstM m = z := ⟨_, rfl⟩
    rw [hz] at KC hne ⊢
    clear hc hz
    go_enter Try.func27, Try.ntmps27
    go_wp2_with fail
    refine KC.out.mono ?_
    rintro e wc ⟨rfl, hb⟩
    have HBC := hid (HB.out.trans (hb.mono HB.out.size))
    clear hb KC t0 t1 t2 t3
    go_wp2
    go_ret2
    exact ⟨rfl, HBC.out⟩
end Go.Proofs.Ytoeabajigfdkaaa
/- Which streets of a district can be reached from its first one, in plain words. No condition. -/
namespace Go.Proofs.Ytoeabajigfdkaaa

def meet (m : MapD) (a b : Int) : Bool := m.js.any fun j => (j.a == a && j.b == b) || (j.a == b && j.b == a)
theorem meet_iff {m : MapD} {a b : Int} : meet m a b = true ↔ ∃ j ∈ m.js, (j.a = a ∧ j.b = b) ∨ (j.a = b ∧ j.b = a) := by simp [meet]
/-- the first k streets that lie in a district of borders -/
def mem (l : Nat → Int) (d : Int) (k : Nat) : List Int := ((List.range k).filter (inD l d)).map fun i : Nat => (i : Int)
theorem mem_iff {l : Nat → Int} {d : Int} {k : Nat} {y : Int} : y ∈ mem l d k ↔ ∃ i : Nat, i < k ∧ l i = d ∧ y = (i : Int) := by
  simp only [mem, List.mem_map, List.mem_filter, List.mem_range, inD, beq_iff_eq]
  constructor
  · rintro ⟨i, ⟨h1, h2⟩, rfl⟩; exact ⟨i, h1, h2, rfl⟩
  · rintro ⟨i, h1, h2, rfl⟩; exact ⟨i, ⟨h1, h2⟩, rfl⟩
theorem mem_succ_in {l : Nat → Int} {d : Int} {k : Nat} (h : l k = d) : mem l d (k + 1) = mem l d k ++ [(k : Int)] := by
  simp [mem, List.range_succ, inD, h]
theorem mem_succ_out {l : Nat → Int} {d : Int} {k : Nat} (h : l k ≠ d) : mem l d (k + 1) = mem l d k := by
  simp [mem, List.range_succ, inD, h]
theorem mem_len {l : Nat → Int} {d : Int} (k : Nat) : (mem l d k).length ≤ k := by
  have := List.length_filter_le (inD l d) (List.range k)
  simp [mem] at this ⊢
  exact this
theorem mem_nodup (l : Nat → Int) (d : Int) (k : Nat) : (mem l d k).Nodup := by
  unfold mem
  exact (List.Pairwise.filter _ List.nodup_range).map _ (fun a b h e => h (by omega))
inductive Rch (m : MapD) (ms : List Int) (f : Int) : Int → Prop
  | base : Rch m ms f f
  | step {x y : Int} : Rch m ms f x → y ∈ ms → meet m x y = true → Rch m ms f y
def clo (m : MapD) (ms : List Int) : Nat → List Int → List Int
  | 0, rs => rs
  | n + 1, rs => clo m ms n (rs ++ ms.filter fun y => !rs.contains y && rs.any fun x => meet m x y)
def conL (m : MapD) (ms : List Int) : Bool :=
  match ms with
  | [] => false
  | f :: t => (f :: t).all fun y => (clo m (f :: t) (t.length + 1) [f]).contains y
/-- whether a new district is connected, in borders -/
def conB (m : MapD) (l : Nat → Int) (d : Int) : Bool := conL m (mem l d m.ss.length)
theorem clo_sound {m : MapD} {ms : List Int} {f : Int} : ∀ (n : Nat) (rs : List Int), (∀ y ∈ rs, Rch m ms f y) → ∀ y ∈ clo m ms n rs, Rch m ms f y
  | 0, _, h => h
  | n + 1, rs, h => by
    refine clo_sound n _ fun y hy => ?_
    rcases List.mem_append.1 hy with hy | hy
    · exact h y hy
    · simp only [List.mem_filter, Bool.and_eq_true, List.any_eq_true] at hy
      obtain ⟨h1, _, x, hx, h3⟩ := hy
      exact .step (h x hx) h1 h3
theorem clo_mono {m : MapD} {ms : List Int} : ∀ (n : Nat) (rs : List Int) (y : Int), y ∈ rs → y ∈ clo m ms n rs
  | 0, _, _, h => h
  | n + 1, _, y, h => clo_mono n _ y (List.mem_append.2 (.inl h))
theorem clo_still {m : MapD} {ms : List Int} : ∀ (n : Nat) (rs : List Int), (ms.filter fun y => !rs.contains y && rs.any fun x => meet m x y) = [] → clo m ms n rs = rs
  | 0, _, _ => rfl
  | n + 1, rs, h => by
    show clo m ms n (rs ++ _) = rs
    rw [h, List.append_nil]
    exact clo_still n rs h
def Closed (m : MapD) (ms rs : List Int) : Prop := ∀ x ∈ rs, ∀ y ∈ ms, meet m x y = true → y ∈ rs
theorem flt_le {p q : Int → Bool} (h : ∀ y, p y = true → q y = true) : ∀ l : List Int, (l.filter p).length ≤ (l.filter q).length
  | [] => by simp
  | a :: l => by
    have ih := flt_le h l
    cases hp : p a <;> cases hq : q a
    · simp [hp, hq]; exact ih
    · simp [hp, hq]; omega
    · have := h a hp
      rw [hq] at this; cases this
    · simp [hp, hq]; exact ih
theorem flt_lt {p q : Int → Bool} (h : ∀ y, p y = true → q y = true) : ∀ {l : List Int} {z : Int}, z ∈ l → q z = true → p z = false → (l.filter p).length < (l.filter q).length
  | a :: l, z, hz, h1, h2 => by
    rcases List.mem_cons.1 hz with rfl | hz
    · have ih := flt_le h l
      simp [h1, h2]; omega
    · have ih := flt_lt h hz h1 h2
      cases hp : p a <;> cases hq : q a
      · simp [hp, hq]; exact ih
      · simp [hp, hq]; omega
      · have := h a hp
        rw [hq] at this; cases this
      · simp [hp, hq]; exact ih
theorem clo_closed {m : MapD} {ms : List Int} : ∀ (n : Nat) (rs : List Int), (ms.filter fun y => !rs.contains y).length ≤ n → Closed m ms (clo m ms n rs)
  | 0, rs, h => by
    intro x hx y hy _
    have h0 := List.eq_nil_of_length_eq_zero (Nat.le_zero.1 h)
    have := List.filter_eq_nil_iff.1 h0 y hy
    show y ∈ rs
    simpa using this
  | n + 1, rs, h => by
    by_cases hn : (ms.filter fun y => !rs.contains y && rs.any fun x => meet m x y) = []
    · rw [clo_still _ _ hn]
      intro x hx y hy hm
      have := List.filter_eq_nil_iff.1 hn y hy
      simp only [Bool.and_eq_true, Bool.not_eq_true', not_and, List.any_eq_true] at this
      by_cases hc : rs.contains y = true
      · simpa using hc
      · exact absurd ⟨x, hx, hm⟩ (this (by simpa using hc))
    · refine clo_closed n _ ?_
      obtain ⟨z, hz⟩ := List.exists_mem_of_ne_nil _ hn
      have hz' := hz
      simp only [List.mem_filter, Bool.and_eq_true] at hz'
      have hlt : (ms.filter fun y => !(rs ++ ms.filter fun y => !rs.contains y && rs.any fun x => meet m x y).contains y).length < (ms.filter fun y => !rs.contains y).length := by
        refine flt_lt (fun y h1 => ?_) hz'.1 hz'.2.1 ?_
        · simp only [List.contains_append, Bool.not_eq_true', Bool.or_eq_false_iff] at h1
          rw [h1.1]; rfl
        · have : (rs ++ ms.filter fun y => !rs.contains y && rs.any fun x => meet m x y).contains z = true := by
            rw [List.contains_iff_mem]
            exact List.mem_append.2 (.inr hz)
          rw [this]; rfl
      omega
theorem rch_in {m : MapD} {ms : List Int} {f : Int} (S : Int → Prop) (h0 : S f) (hc : ∀ x y, S x → y ∈ ms → meet m x y = true → S y) {y : Int} (h : Rch m ms f y) : S y := by
  induction h with
  | base => exact h0
  | step _ h2 h3 ih => exact hc _ _ ih h2 h3
theorem conL_iff {m : MapD} {ms : List Int} : conL m ms = true ↔ ∃ f t, ms = f :: t ∧ ∀ y ∈ ms, Rch m ms f y := by
  cases ms with
  | nil => simp [conL]
  | cons f t =>
    have hcl := clo_closed (m := m) (ms := f :: t) (t.length + 1) [f] (by simpa using List.length_filter_le (fun y => ![f].contains y) (f :: t))
    have hso := clo_sound (m := m) (ms := f :: t) (f := f) (t.length + 1) [f] (fun y hy => by simp at hy; subst hy; exact .base)
    have hmo := clo_mono (m := m) (ms := f :: t) (t.length + 1) [f] f (by simp)
    simp only [conL, List.all_eq_true, List.contains_iff_mem]
    constructor
    · intro h
      exact ⟨f, t, rfl, fun y hy => hso y (h y hy)⟩
    · rintro ⟨f', t', e, h⟩ y hy
      cases e
      exact rch_in (fun y => y ∈ clo m (f :: t) (t.length + 1) [f]) hmo (fun x y hx hy hm => hcl x hx y hy hm) (h y hy)
end Go.Proofs.Ytoeabajigfdkaaa
/- Maps whose keys are joins. Conditions stand at each theorem. -/
namespace Go.Proofs.Ytoeabajigfdkaaa
open Go.RowKit Go.Shelf

def jnV (a b : Int) : Value := .agg #[.int .i64 a, .int .i64 b]
theorem jn_law : WideMaps.KeyLaw Try.prog 90 := deep_law (m := 2) (by decide) (by kernel_rfl) (by kernel_rfl) (by kernel_rfl)
theorem wf64 {x : Int} (h : -1000000000 ≤ x) (h2 : x ≤ 1000000000) : (Lit.int .i64 x).wf = true := by
  have h3 : IntKind.i64.min = -9223372036854775808 := by rfl
  have h4 : IntKind.i64.max = 9223372036854775807 := by rfl
  simp [Lit.wf, h3, h4]; omega
theorem two_fields {P : Program} {t : TypeId} {n0 n1 : String} {t0 t1 o0 o1 : Nat} (h1 : (P.fieldsOf t).toList.map (fun f => (f.name, f.type, f.offset)) = [(n0, t0, o0), (n1, t1, o1)]) (h2 : P.underlying t = some (.struct (P.fieldsOf t))) :
    ∃ f0 f1 : Field, P.underlying t = some (.struct #[f0, f1]) ∧ f0.name = n0 ∧ f0.type = t0 ∧ f0.offset = o0 ∧ f1.name = n1 ∧ f1.type = t1 ∧ f1.offset = o1 := by
  revert h1 h2
  generalize P.fieldsOf t = fs
  intro h1 h2
  obtain ⟨l⟩ := fs
  match l, h1 with
  | [f0, f1], h1 =>
    simp only [List.map_cons, List.map_nil, List.cons.injEq, Prod.mk.injEq, and_true] at h1
    obtain ⟨⟨a, b, c⟩, d, e, f⟩ := h1
    exact ⟨f0, f1, h2, a, b, c, d, e, f⟩
theorem jn_fields : ∃ f0 f1 : Field, Try.prog.underlying 90 = some (.struct #[f0, f1]) ∧ f0.name = "A" ∧ f0.type = 3 ∧ f0.offset = 0 ∧ f1.name = "B" ∧ f1.type = 3 ∧ f1.offset = 1 :=
  two_fields (by kernel_rfl) (by kernel_rfl)
theorem jn_cells : Try.prog.cellsOf 90 = 2 ∧ Try.prog.cellsOf 3 = 1 := ⟨by kernel_rfl, by kernel_rfl⟩
theorem int_lits (d : Nat) {x : Int} (h : (Lit.int .i64 x).wf = true) : Try.prog.keyLits (d + 1) 3 [.int .i64 x] = some [.int .i64 x] := by
  simp [Program.keyLits, Try.underlying3, h]
def Ix (a : Int) : Prop := 0 ≤ a ∧ a ≤ 1000
theorem jn_key {a b : Int} (ha : Ix a) (hb : Ix b) : ∃ l, keyOf Try.prog 90 (jnV a b) = some l := by
  obtain ⟨f0, f1, h0, h1, h2, h3, h4, h5, h6⟩ := jn_fields
  unfold Ix at ha hb
  have hkt : Try.prog.keyType 90 = true := by kernel_rfl
  have hsz : decide (2 ≤ Try.prog.types.size) = true := by kernel_rfl
  obtain ⟨m, hm⟩ : ∃ m, Try.prog.types.size + 1 = m + 3 := ⟨Try.prog.types.size - 2, by have := of_decide_eq_true hsz; omega⟩
  have hfm : (jnV a b).formed Try.prog 90 = true := by
    simp only [jnV, Value.formed, h0, jn_cells.1]; rfl
  unfold keyOf
  simp only [h0, hkt, hfm, Bool.and_self, if_true, hm]
  unfold Program.keyLits
  have hnm : (#[f0, f1].all fun x => x.name != "_") = true := by simp [h1, h4]
  simp only [h0, jn_cells.1, jnV, Value.cells, List.length_cons, List.length_nil, Nat.zero_add, Nat.reduceAdd, hnm, and_self, if_true]
  simp only [List.mapM_cons, List.mapM_nil, h2, h3, h5, h6, jn_cells.2, List.drop_zero, List.drop_succ_cons, List.take_succ_cons, List.take_zero]
  rw [int_lits (m + 1) (wf64 (by omega) (by omega)), int_lits (m + 1) (wf64 (by omega) (by omega))]
  exact ⟨_, rfl⟩
theorem jnV_inj {a b a' b' : Int} (h : jnV a b = jnV a' b') : a = a' ∧ b = b' := by
  simp [jnV] at h
  exact h

theorem set_getElem_same {α : Type} {l : List α} {j : Nat} {a : α} (h : l[j]? = some a) : l.set j a = l := WideElems.set_self _ _ _ h
/-- the keys are the pairs of K; the value of each is true, but for those of U -/
structure JW (K U : Int → Int → Prop) (es : Array MapEntry) (clock : Nat) : Prop where
  keys : ∀ e ∈ es.toList, ∃ a b, e.key = jnV a b ∧ Ix a ∧ Ix b ∧ K a b ∧ (U a b ∨ e.val = .bool true)
  has : ∀ a b, K a b → ∃ e ∈ es.toList, e.key = jnV a b
  lt : ∀ e ∈ es.toList, e.born < clock
  nd : (es.toList.map (·.born)).Nodup
  kd : (es.toList.map (·.key)).Nodup
def MapAt (K U : Int → Int → Prop) (b : Nat) (W : World) : Prop := ∃ es clock, W.heap[b]? = some (.map es clock) ∧ JW K U es clock
/-- an entry of a map that stays where it is -/
def EntAt (b : Nat) (x y : Int) (st : Nat) (W : World) : Prop := ∃ es clock, W.heap[b]? = some (.map es clock) ∧ ∃ e ∈ es.toList, e.key = jnV x y ∧ e.born = st
/-- what may change: one map, and its entries stay -/
structure StM (b : Nat) (A B : World) : Prop where
  chg : Chg (fun q => q = b) A B
  ent : ∀ x y st, EntAt b x y st A → EntAt b x y st B
theorem StM.refl {b : Nat} {A : World} : StM b A A := ⟨Chg.refl, fun _ _ _ h => h⟩
theorem StM.trans {b : Nat} {A B D : World} (h : StM b A B) (k : StM b B D) : StM b A D := ⟨h.chg.trans k.chg, fun x y st e => k.ent x y st (h.ent x y st e)⟩
theorem MapAt.congr {K U K' U' : Int → Int → Prop} {b : Nat} {W : World} (h : MapAt K U b W) (hK : ∀ x y, K' x y ↔ K x y) (hU : ∀ x y, U x y → U' x y) : MapAt K' U' b W := by
  obtain ⟨es, c, h1, h2⟩ := h
  refine ⟨es, c, h1, ⟨fun e he => ?_, fun x y hxy => h2.has x y ((hK x y).1 hxy), h2.lt, h2.nd, h2.kd⟩⟩
  obtain ⟨x, y, a1, a2, a3, a4, a5⟩ := h2.keys e he
  exact ⟨x, y, a1, a2, a3, (hK x y).2 a4, a5.imp (hU x y) id⟩
theorem JW.ok {K U : Int → Int → Prop} {es : Array MapEntry} {clock : Nat} (h : JW K U es clock) : ∀ e ∈ es.toList, ∃ l, keyOf Try.prog 90 e.key = some l := fun e he => by
  obtain ⟨a, b, e1, h1, h2, _, _⟩ := h.keys e he
  rw [e1]; exact jn_key h1 h2
theorem Chg.putObj {Z : Nat → Prop} {A B : World} (h : Chg Z A B) {b : Nat} (hz : Z b) (o : Obj) : Chg Z A (B.putObj b o) :=
  ⟨h.os, h.tape, h.output, by simp [World.putObj]; exact h.size, fun k hk hn => by
    have hne : b ≠ k := fun e => hn (e ▸ hz)
    simp only [World.putObj]
    rw [Array.getElem?_setIfInBounds_ne hne]
    exact h.block k hk hn⟩
theorem putObj_at {W : World} {b : Nat} {o o' : Obj} (hb : W.heap[b]? = some o) : (W.putObj b o').heap[b]? = some o' := by
  have hlt := (Array.getElem?_eq_some_iff.1 hb).1
  simp [World.putObj, hlt]
section
variable {W : World} {b t e : Nat} {K U : Int → Int → Prop} {x y : Int}
theorem jn_look (ht : Try.prog.underlying t = some (.map 90 e)) (hz : (zeroValue e).run Try.prog W = .ok (.bool false) W) (h : MapAt K (fun _ _ => False) b W) (hx : Ix x) (hy : Ix y) {r : Bool} (hr : r = true ↔ K x y) :
    (Instr.lookup t (.map (some b)) (jnV x y) false).run Try.prog W = .ok (.bool r) W := by
  obtain ⟨es, clock, hb, hj⟩ := h
  obtain ⟨l, hk⟩ := jn_key hx hy
  rcases jn_law.find W hk es.toList hj.ok with ⟨h1, h2⟩ | ⟨j, e0, h1, h2, h3⟩
  · have : r = false := by
      cases r with
      | false => rfl
      | true =>
        obtain ⟨e1, he1, hk1⟩ := hj.has x y (hr.1 rfl)
        exact absurd hk1 (h2 e1 he1)
    rw [this]
    simp [Instr.lookup, run_underlying ht, MapKept.run_getObj_map hb, jn_law.check W _ hk, h1, hz, Result.andThen]
  · have hm := List.mem_of_getElem? h2
    obtain ⟨a', b', e1, _, _, hK, hv⟩ := hj.keys e0 hm
    rw [h3] at e1
    obtain ⟨rfl, rfl⟩ := jnV_inj e1
    have : r = true := hr.2 hK
    rw [this]
    have hv' : e0.val = .bool true := hv.resolve_left id
    simp [Instr.lookup, run_underlying ht, MapKept.run_getObj_map hb, jn_law.check W _ hk, h1, hv', Result.andThen]
theorem jn_entry (ht : Try.prog.underlying t = some (.map 90 e)) (hz : (zeroValue e).run Try.prog W = .ok (.bool false) W) (h : MapAt K (fun _ _ => False) b W) (hx : Ix x) (hy : Ix y) :
    ∃ (v : Value) (st : Nat) (W' : World), (Instr.mapEntry t (.map (some b)) (jnV x y)).run Try.prog W = .ok (.tuple #[v, goInt st]) W' ∧ StM b W W' ∧ EntAt b x y st W' ∧ MapAt (fun p q => K p q ∨ (p = x ∧ q = y)) (fun p q => p = x ∧ q = y) b W' := by
  obtain ⟨es, clock, hb, hj⟩ := h
  obtain ⟨l, hk⟩ := jn_key hx hy
  rcases jn_law.find W hk es.toList hj.ok with ⟨h1, h2⟩ | ⟨j, e0, h1, h2, h3⟩
  · refine ⟨.bool false, clock, W.putObj b (.map (es.push ⟨jnV x y, .bool false, clock⟩) (clock + 1)), ?_, ⟨Chg.putObj (Z := fun q => q = b) Chg.refl rfl _, ?_⟩, ⟨_, _, putObj_at hb, ⟨jnV x y, .bool false, clock⟩, by simp, rfl, rfl⟩, _, _, putObj_at hb, ?_⟩
    · simp [Instr.mapEntry, run_underlying ht, MapKept.run_getObj_map hb, jn_law.check W false hk, h1, hz, MapKept.run_setObj_map _ hb, Result.andThen, World.putObj]
    · rintro p q st ⟨es', c', hb', e', he', hk', hs'⟩
      rw [hb] at hb'
      cases hb'
      exact ⟨_, _, putObj_at hb, e', by simp [he'], hk', hs'⟩
    · refine ⟨fun e' he' => ?_, fun p q hpq => ?_, fun e' he' => ?_, ?_, ?_⟩
      · simp only [Array.toList_push, List.mem_append, List.mem_singleton] at he'
        rcases he' with he' | rfl
        · obtain ⟨p, q, a1, a2, a3, a4, a5⟩ := hj.keys e' he'
          exact ⟨p, q, a1, a2, a3, .inl a4, .inr (a5.resolve_left id)⟩
        · exact ⟨x, y, rfl, hx, hy, .inr ⟨rfl, rfl⟩, .inl ⟨rfl, rfl⟩⟩
      · rcases hpq with hpq | ⟨rfl, rfl⟩
        · obtain ⟨e1, he1, hk1⟩ := hj.has p q hpq
          exact ⟨e1, by simp [he1], hk1⟩
        · exact ⟨⟨jnV p q, .bool false, clock⟩, by simp, rfl⟩
      · simp only [Array.toList_push, List.mem_append, List.mem_singleton] at he'
        rcases he' with he' | rfl
        · have := hj.lt e' he'; omega
        · exact Nat.lt_succ_self _
      · simp only [Array.toList_push, List.map_append, List.map_cons, List.map_nil]
        refine List.nodup_append.2 ⟨hj.nd, by simp, fun p hp q hq e1 => ?_⟩
        simp only [List.mem_singleton] at hq
        obtain ⟨e1', he1, rfl⟩ := List.mem_map.1 hp
        have := hj.lt e1' he1
        omega
      · simp only [Array.toList_push, List.map_append, List.map_cons, List.map_nil]
        refine List.nodup_append.2 ⟨hj.kd, by simp, fun p hp q hq e1 => ?_⟩
        simp only [List.mem_singleton] at hq
        obtain ⟨e1', he1, rfl⟩ := List.mem_map.1 hp
        exact h2 e1' he1 (e1.trans hq)
  · have hj' : es[j]? = some e0 := by simpa using h2
    have hsame : es.modify j (fun e => { e with key := jnV x y }) = es := by
      apply Array.ext'
      rw [Array.toList_modify, ChangeMaps.modify_eq_set _ _ _ _ h2]
      have : ({ e0 with key := jnV x y } : MapEntry) = e0 := by rw [← h3]
      rw [this]
      exact WideElems.set_self _ _ _ h2
    have hm := List.mem_of_getElem? h2
    refine ⟨e0.val, e0.born, W.putObj b (.map es clock), ?_, ⟨Chg.putObj (Z := fun q => q = b) Chg.refl rfl _, ?_⟩, ⟨_, _, putObj_at hb, e0, hm, h3, rfl⟩, _, _, putObj_at hb, ?_⟩
    · simp [Instr.mapEntry, run_underlying ht, MapKept.run_getObj_map hb, jn_law.check W false hk, h1, hj', h3, jn_law.stays W hk, hsame, MapKept.run_setObj_map _ hb, Result.andThen, World.putObj]
    · rintro p q st ⟨es', c', hb', e', he', hk', hs'⟩
      rw [hb] at hb'
      cases hb'
      exact ⟨_, _, putObj_at hb, e', he', hk', hs'⟩
    · obtain ⟨a', b', e1, _, _, hK, hv⟩ := hj.keys e0 hm
      rw [h3] at e1
      obtain ⟨rfl, rfl⟩ := jnV_inj e1
      refine ⟨fun e' he' => ?_, fun p q hpq => ?_, hj.lt, hj.nd, hj.kd⟩
      · obtain ⟨p, q, a1, a2, a3, a4, a5⟩ := hj.keys e' he'
        exact ⟨p, q, a1, a2, a3, .inl a4, .inr (a5.resolve_left id)⟩
      · rcases hpq with hpq | ⟨rfl, rfl⟩
        · exact hj.has p q hpq
        · exact hj.has _ _ hK
theorem jn_store (h : MapAt K (fun p q => p = x ∧ q = y) b W) {st : Nat} (he : EntAt b x y st W) :
    ∃ W', (Instr.entryStore t (.map (some b)) (goInt st) (.bool true)).run Try.prog W = .ok () W' ∧ StM b W W' ∧ MapAt K (fun _ _ => False) b W' := by
  obtain ⟨es, clock, hb, hj⟩ := h
  obtain ⟨es', c', hb', e0, hm, hk0, hs0⟩ := he
  rw [hb] at hb'
  cases hb'
  obtain ⟨j, h2⟩ := List.getElem?_of_mem hm
  have hj' : es[j]? = some e0 := by simpa using h2
  have hidx : es.findIdx? (fun e => ((e.born : Nat) : Int) == ((st : Nat) : Int)) = some j := by
    rw [WideElems.findIdx_arr, ← hs0]
    exact WideElems.findIdx_born hj.nd h2
  have hmod : (es.modify j fun e => { e with val := .bool true }).toList = es.toList.set j { e0 with val := .bool true } := by
    rw [Array.toList_modify, ChangeMaps.modify_eq_set _ _ _ _ h2]
  have hjl : j < es.toList.length := (List.getElem?_eq_some_iff.1 h2).1
  have hmem : ∀ z ∈ (es.modify j fun e => { e with val := .bool true }).toList, z = { e0 with val := .bool true } ∨ (z ∈ es.toList ∧ z.key ≠ e0.key) := by
    intro z hz
    rw [hmod] at hz
    obtain ⟨i, hi⟩ := List.getElem?_of_mem hz
    by_cases e : j = i
    · subst e
      rw [List.getElem?_set_self hjl] at hi
      cases hi
      exact .inl rfl
    · rw [List.getElem?_set_ne e] at hi
      refine .inr ⟨List.mem_of_getElem? hi, fun ek => e ?_⟩
      have hil : i < es.toList.length := (List.getElem?_eq_some_iff.1 hi).1
      have h1 : (es.toList.map (·.key))[i]? = some z.key := by rw [List.getElem?_map, hi]; rfl
      have h3 : (es.toList.map (·.key))[j]? = some z.key := by rw [List.getElem?_map, h2, ek]; rfl
      exact (List.getElem?_inj (by simpa using hjl) hj.kd).1 (h3.trans h1.symm)
  have hkeys : (es.modify j fun e => { e with val := .bool true }).toList.map (·.key) = es.toList.map (·.key) := by
    rw [hmod, List.map_set, set_getElem_same (by rw [List.getElem?_map, h2]; rfl)]
  have hborn : (es.modify j fun e => { e with val := .bool true }).toList.map (·.born) = es.toList.map (·.born) := by
    rw [hmod, List.map_set, set_getElem_same (by rw [List.getElem?_map, h2]; rfl)]
  have hback : ∀ z ∈ es.toList, ∃ z' ∈ (es.modify j fun e => { e with val := .bool true }).toList, z'.key = z.key ∧ z'.born = z.born := by
    intro z hz
    obtain ⟨i, hi⟩ := List.getElem?_of_mem hz
    by_cases e : j = i
    · subst e
      rw [h2] at hi
      cases hi
      exact ⟨{ e0 with val := .bool true }, by rw [hmod]; exact List.mem_of_getElem? (List.getElem?_set_self hjl), rfl, rfl⟩
    · exact ⟨z, by rw [hmod]; exact List.mem_of_getElem? (by rw [List.getElem?_set_ne e]; exact hi), rfl, rfl⟩
  refine ⟨W.putObj b (.map (es.modify j fun e => { e with val := .bool true }) clock), ?_, ⟨Chg.putObj (Z := fun q => q = b) Chg.refl rfl _, ?_⟩, _, _, putObj_at hb, ?_⟩
  · simp [Instr.entryStore, MapKept.run_getObj_map hb, asInt, asIntOf, goInt, hidx, MapKept.run_setObj_map _ hb, Result.andThen, World.putObj]
  · rintro p q st' ⟨es', c', hb', e', he', hk', hs'⟩
    rw [hb] at hb'
    cases hb'
    obtain ⟨z', hz1, hz2, hz3⟩ := hback e' he'
    exact ⟨_, _, putObj_at hb, z', hz1, hz2.trans hk', hz3.trans hs'⟩
  · obtain ⟨a0, b0, k0, i1, i2, K0, _⟩ := hj.keys e0 hm
    refine ⟨fun z hz => ?_, fun p q hpq => ?_, fun z hz => ?_, by rw [hborn]; exact hj.nd, by rw [hkeys]; exact hj.kd⟩
    · rcases hmem z hz with rfl | ⟨h1, h3⟩
      · exact ⟨a0, b0, k0, i1, i2, K0, .inr rfl⟩
      · obtain ⟨p, q, a1, a2, a3, a4, a5⟩ := hj.keys z h1
        refine ⟨p, q, a1, a2, a3, a4, .inr (a5.resolve_left ?_)⟩
        rintro ⟨rfl, rfl⟩
        exact h3 (a1.trans hk0.symm)
    · obtain ⟨e1, he1, hk1⟩ := hj.has p q hpq
      obtain ⟨z', hz1, hz2, _⟩ := hback e1 he1
      exact ⟨z', hz1, hz2.trans hk1⟩
    · rcases hmem z hz with rfl | ⟨h1, _⟩
      · exact hj.lt e0 hm
      · exact hj.lt z h1
end
end Go.Proofs.Ytoeabajigfdkaaa
/- A map at work: its joins, in both directions, as a map. Conditions stand at each theorem. -/
namespace Go.Proofs.Ytoeabajigfdkaaa
open Go.RowKit Go.Shelf

theorem bool_zero (W : World) : (zeroValue 4).run Try.prog W = .ok (.bool false) W := by kernel_rfl
theorem MapAt.lt {K U : Int → Int → Prop} {b : Nat} {W : World} (h : MapAt K U b W) : b < W.heap.size := by
  obtain ⟨es, ck, h, _⟩ := h
  exact (Array.getElem?_eq_some_iff.1 h).1
theorem MapAt.ne {K U : Int → Int → Prop} {b g t : Nat} {us : Array Value} {W : World} (h : MapAt K U b W) (hg : Blk W g t us) : g ≠ b := fun e => by
  obtain ⟨es, ck, hm, _⟩ := h
  subst e
  unfold Blk at hg
  rw [hg] at hm
  cases hm
theorem MapAt.chg {K U : Int → Int → Prop} {b : Nat} {Z : Nat → Prop} {W W' : World} (h : MapAt K U b W) (hc : Chg Z W W') (hz : ¬ Z b) : MapAt K U b W' := by
  obtain ⟨es, ck, hm, hj⟩ := h
  exact ⟨es, ck, (hc.block b (Array.getElem?_eq_some_iff.1 hm).1 hz).trans hm, hj⟩
theorem MapAt.below {K U : Int → Int → Prop} {b : Nat} {W W' : World} (h : MapAt K U b W) (hb : Below W.heap.size W W') : MapAt K U b W' := h.chg (Z := fun _ => False) (Chg.of_below hb) id
theorem MapAt.new (W : World) : MapAt (fun _ _ => False) (fun _ _ => False) W.heap.size (W.alloc (.map #[] 0)) :=
  ⟨#[], 0, World.alloc_heap_new W _, ⟨fun e h => by simp at h, fun a b h => h.elim, fun e h => by simp at h, by simp, by simp⟩⟩
/-- the joins of the first k, in both directions -/
def kTo (m : MapD) (k : Nat) (x y : Int) : Prop := ∃ (i : Nat) (j : Jn), i < k ∧ m.js[i]? = some j ∧ ((j.a = x ∧ j.b = y) ∨ (j.b = x ∧ j.a = y))
theorem kTo_zero {m : MapD} {x y : Int} : kTo m 0 x y ↔ False := ⟨fun ⟨i, _, h, _⟩ => by omega, False.elim⟩
theorem kTo_succ {m : MapD} {k : Nat} {j : Jn} (h : m.js[k]? = some j) (x y : Int) : kTo m (k + 1) x y ↔ (kTo m k x y ∨ (x = j.a ∧ y = j.b)) ∨ (x = j.b ∧ y = j.a) := by
  constructor
  · rintro ⟨i, j', h1, h2, h3⟩
    by_cases e : i = k
    · subst e
      rw [h] at h2
      cases h2
      rcases h3 with ⟨e1, e2⟩ | ⟨e1, e2⟩
      · exact .inl (.inr ⟨e1.symm, e2.symm⟩)
      · exact .inr ⟨e1.symm, e2.symm⟩
    · exact .inl (.inl ⟨i, j', by omega, h2, h3⟩)
  · rintro ((⟨i, j', h1, h2, h3⟩ | ⟨e1, e2⟩) | ⟨e1, e2⟩)
    · exact ⟨i, j', by omega, h2, h3⟩
    · exact ⟨k, j, by omega, h, .inl ⟨e1.symm, e2.symm⟩⟩
    · exact ⟨k, j, by omega, h, .inr ⟨e1.symm, e2.symm⟩⟩
theorem kTo_all {m : MapD} {x y : Int} : kTo m m.js.length x y ↔ meet m x y = true := by
  rw [meet_iff]
  constructor
  · rintro ⟨i, j, _, h2, h3⟩
    exact ⟨j, List.mem_of_getElem? h2, h3.imp id fun ⟨a, b⟩ => ⟨b, a⟩⟩
  · rintro ⟨j, hj, h3⟩
    obtain ⟨i, hi⟩ := List.getElem?_of_mem hj
    exact ⟨i, j, (List.getElem?_eq_some_iff.1 hi).1, hi, h3.imp id fun ⟨a, b⟩ => ⟨b, a⟩⟩
/-- the map of joins, before and behind the first entry (operation 14) and its value (operation 16) -/
def PhJ (K : Int → Int → Prop) (x y : Int) (b : Nat) (li : Array Bool) (W : World) : Prop :=
  if li.getD 16 false = true then MapAt (fun p q => K p q ∨ (p = x ∧ q = y)) (fun _ _ => False) b W else
  if li.getD 14 false = true then MapAt (fun p q => K p q ∨ (p = x ∧ q = y)) (fun p q => p = x ∧ q = y) b W else MapAt K (fun _ _ => False) b W
theorem PhJ.other {K : Int → Int → Prop} {x y : Int} {b i : Nat} {li : Array Bool} {W : World} (h : PhJ K x y b li W) (h1 : i ≠ 14) (h2 : i ≠ 16) : PhJ K x y b (li.setIfInBounds i true) W := by
  unfold PhJ at *
  rw [getD_set_oth h1, getD_set_oth h2]
  exact h
/-- a map at work lies in memory: its struct at g, its joins at b -/
structure WAt (m : MapD) (A : Option Addr) (c : Nat) (A2 : Option Addr) (c2 : Nat) (A3 : Option Addr) (c3 : Nat) (g b : Nat) (W : World) : Prop where
  blk : Blk W g 111 #[.slice A m.old.length c, .int .i64 m.nw, .slice A2 m.ss.length c2, .slice A3 m.js.length c3, .map (some b)]
  mp : MapAt (fun x y => meet m x y = true) (fun _ _ => False) b W
theorem WAt.keep {m : MapD} {A : Option Addr} {c : Nat} {A2 : Option Addr} {c2 : Nat} {A3 : Option Addr} {c3 : Nat} {g b : Nat} {W W' : World} (h : WAt m A c A2 c2 A3 c3 g b W) (hb : Below W.heap.size W W') : WAt m A c A2 c2 A3 c3 g b W' := ⟨h.blk.keep hb, h.mp.below hb⟩

set_option maxRecDepth 100000 in
set_option maxHeartbeats 2000000 in
theorem bwork_any (m : MapD) (A : Option Addr) (c : Nat) (A2 : Option Addr) (c2 : Nat) (A3 : Option Addr) (c3 : Nat) (w : World) (h : MIn m A c A2 c2 A3 c3 w) (ok : OkM m) :
    Calls Try.prog 81 #[.agg #[.slice A m.old.length c, .int .i64 m.nw, .slice A2 m.ss.length c2, .slice A3 m.js.length c3]] w fun e w' => ∃ g b, e = .returned (.pointer (some ⟨g, 0, none⟩)) ∧ w.heap.size ≤ g ∧ w.heap.size ≤ b ∧ WAt m A c A2 c2 A3 c3 g b w' ∧ Below w.heap.size w w' := by
  have hm3 := h.m3
  have hl3 := h.l3
  unfold maxLen at hm3
  have hs8 := ok.s8
  have hj20 := ok.j20
  have hB := below_box (w := w) #[.slice A m.old.length c, .int .i64 m.nw, .slice A2 m.ss.length c2, .slice A3 m.js.length c3] 34
  have hT := Blk.new w 34 #[.slice A m.old.length c, .int .i64 m.nw, .slice A2 m.ss.length c2, .slice A3 m.js.length c3]
  obtain ⟨t0, t1, t2, t3⟩ := hT.c4
  have k1 := (hT.alloc (.map #[] 0)).alloc (.cells #[.slice A m.old.length c, .int .i64 m.nw, .slice A2 m.ss.length c2, .slice A3 m.js.length c3, .map (some (w.heap.size + 1))] 111)
  have k2 := Blk.new ((w.alloc (.cells #[.slice A m.old.length c, .int .i64 m.nw, .slice A2 m.ss.length c2, .slice A3 m.js.length c3] 34)).alloc (.map #[] 0)) 111 #[.slice A m.old.length c, .int .i64 m.nw, .slice A2 m.ss.length c2, .slice A3 m.js.length c3, .map (some (w.heap.size + 1))]
  have k3 := (MapAt.new (w.alloc (.cells #[.slice A m.old.length c, .int .i64 m.nw, .slice A2 m.ss.length c2, .slice A3 m.js.length c3] 34))).below (below_box #[.slice A m.old.length c, .int .i64 m.nw, .slice A2 m.ss.length c2, .slice A3 m.js.length c3, .map (some (w.heap.size + 1))] 111)
  have hb := (hB.alloc hB.size (.map #[] 0)).alloc (by simp; omega) (.cells #[.slice A m.old.length c, .int .i64 m.nw, .slice A2 m.ss.length c2, .slice A3 m.js.length c3, .map (some (w.heap.size + 1))] 111)
  simp only [World.size_alloc] at k2 k3
  have HS := hid (And.intro k1 (And.intro k2 (And.intro k3 hb)))
  have HH := hid h
  have OK := hid ok
  have hmm := @run_makeMap Try.prog
  clear h ok hB hT k1 k2 k3 hb
  go_enter Try.func81, Try.ntmps81
  go_wp2
  clear t0 t1 t2 t3 hmm
  generalize hW1 : (((w.alloc (.cells #[.slice A m.old.length c, .int .i64 m.nw, .slice A2 m.ss.length c2, .slice A3 m.js.length c3] 34)).alloc (.map #[] 0)).alloc (.cells #[.slice A m.old.length c, .int .i64 m.nw, .slice A2 m.ss.length c2, .slice A3 m.js.length c3, .map (some (w.heap.size + 1))] 111)) = w1 at *
  clear hW1
  go_loopw [13] (fun i W => ∃ k : Nat, k ≤ m.js.length ∧ i = .int .i64 k ∧ MapAt (kTo m k) (fun _ _ => False) (w.heap.size + 1) W ∧ Chg (fun q => q = w.heap.size + 1) w1 W) (fun i _ => m.js.length - (intOf i).toNat)
  case atStart => exact ⟨0, Nat.zero_le _, rfl, HS.out.2.2.1.congr (fun x y => kTo_zero) (fun _ _ h => h), Chg.refl⟩
  case round =>
    obtain ⟨k, hk, rfl, hmp, hcg⟩ := hrel
    have hbr : Below w.heap.size w wr := HS.out.2.2.2.trans (hcg.below (n := w.heap.size) (fun q e => by omega) HS.out.2.2.2.size)
    have hg1 := hcg.blk HS.out.2.1 (fun e => by omega)
    have HR := hid (And.intro hmp (And.intro hcg (And.intro hbr hg1)))
    clear hmp hcg hbr hg1
    by_cases hlt : k < m.js.length
    · have hkI : (k : Int) < (m.js.length : Int) := by omega
      obtain ⟨j, hj⟩ : ∃ j, m.js[k]? = some j := ⟨_, List.getElem?_eq_getElem hlt⟩
      obtain ⟨a, rfl, g1, g2, g3⟩ := (HH.out.at_ HR.out.2.2.1).ij k j hj
      have hjb := OK.out.jn j (List.mem_of_getElem? hj)
      have HIA := hid (show Ix j.a ∧ Ix j.b by unfold Ix; omega)
      have HJ := hid hj
      have hz := Blk.new wr 90 #[.int .i64 j.a, .int .i64 j.b]
      have hzb := below_box (w := wr) #[.int .i64 j.a, .int .i64 j.b] 90
      have HZ := hid (And.intro hz (And.intro (HR.out.1.below hzb) (And.intro (HR.out.2.2.2.keep hzb) (HR.out.2.1.trans (Chg.of_below hzb)))))
      have HN := hid (And.intro ((HR.out.1.below hzb).ne hz) (show w.heap.size + 1 + 1 ≠ w.heap.size + 1 by omega))
      clear hj hjb hz hzb g1
      go_wp2
      clear g2 g3
      generalize (wr.alloc (.cells #[.int .i64 j.a, .int .i64 j.b] 90)) = w2 at *
      generalize wr.heap.size = z at *
      obtain ⟨ja, hja⟩ : ∃ x, j.a = x := ⟨_, rfl⟩
      obtain ⟨jb, hjb⟩ : ∃ x, j.b = x := ⟨_, rfl⟩
      rw [hja, hjb] at HIA HZ
      have HJE := hid (And.intro hja hjb)
      clear hja hjb
      refine (wpIn_wide (n := 0)).1 ?_
      refine wpIn_region_each 17 (fun i v W' => match i with | 0 => v = .pointer (some ⟨w.heap.size + 1 + 1, 0, none⟩) | 1 => v = .pointer (some ⟨w.heap.size + 1 + 1, 0, none⟩) | 2 => v = .pointer (some ⟨w.heap.size + 1 + 1, 4, none⟩) | 3 => v = .map (some (w.heap.size + 1)) | 4 => v = .agg #[.int .i64 ja, .int .i64 jb] | 5 => v = .pointer (some ⟨w.heap.size + 1 + 1, 0, none⟩) | 6 => v = .pointer (some ⟨w.heap.size + 1 + 1, 0, none⟩) | 7 => v = .pointer (some ⟨w.heap.size + 1 + 1, 4, none⟩) | 8 => v = .map (some (w.heap.size + 1)) | 9 => v = .pointer (some ⟨z, 1, none⟩) | 10 => v = .int .i64 jb | 11 => v = .pointer (some ⟨z, 0, none⟩) | 12 => v = .int .i64 ja | 13 => v = .agg #[.int .i64 jb, .int .i64 ja] | 14 => ∃ q : Nat × Value, v = .tuple #[q.2, .int .i64 (q.1 : Int)] ∧ EntAt (w.heap.size + 1) ja jb q.1 W' | 15 => ∃ st : Nat, v = .int .i64 (st : Int) ∧ EntAt (w.heap.size + 1) ja jb st W' | 16 => ∃ v4, v = v4 ∧ True | _ => True) (StM (w.heap.size + 1)) (PhJ (kTo m k) ja jb (w.heap.size + 1)) (by kernel_rfl) (by kernel_rfl) ?_ (fun h k => h.trans k) ⟨⟨rfl, rfl, rfl, Nat.le_refl _, fun _ _ _ => rfl⟩, fun _ _ _ h => h⟩ (by unfold PhJ; rw [getD_replicate_false, getD_replicate_false]; simp only [Bool.false_eq_true, if_false]; exact HZ.out.2.1) (by kernel_rfl) ?_ ?_
      · intro i v W1 W2 hb h
        match i, h with
        | 0, h => exact h
        | 1, h => exact h
        | 2, h => exact h
        | 3, h => exact h
        | 4, h => exact h
        | 5, h => exact h
        | 6, h => exact h
        | 7, h => exact h
        | 8, h => exact h
        | 9, h => exact h
        | 10, h => exact h
        | 11, h => exact h
        | 12, h => exact h
        | 13, h => exact h
        | 14, h =>
          obtain ⟨q, rfl, h1⟩ := h
          exact ⟨_, rfl, hb.ent _ _ _ h1⟩
        | 15, h =>
          obtain ⟨st, rfl, h1⟩ := h
          exact ⟨_, rfl, hb.ent _ _ _ h1⟩
        | 16, h =>
          obtain ⟨v4, rfl, h1⟩ := h
          exact ⟨_, rfl, trivial⟩
        | i + 17, h => trivial
      · refine ⟨?_, ?_, ?_, ?_, ?_, ?_, ?_, ?_, ?_, ?_, ?_, ?_, ?_, ?_, ?_, ?_, ?_, trivial⟩
        · -- 0
          intro li a1 W2 hA K hK
          have e3 := hA.par 3 (by kernel_rfl)
          refine opStep none 0 rfl rfl (fun c hc => by cases hc) ?_
          go_simp
          exact hK _ _ rfl StM.refl (hA.ph.other (by decide) (by decide))
        · -- 1
          intro li a1 W2 hA K hK
          have e17 : a1.tmps.getD 17 undef = .pointer (some ⟨w.heap.size + 1 + 1, 0, none⟩) := hA.val 0 17 (by kernel_rfl) (by kernel_rfl)
          refine opStep none 0 rfl rfl (fun c hc => by cases hc) ?_
          go_simp
          exact hK _ _ rfl StM.refl (hA.ph.other (by decide) (by decide))
        · -- 2
          intro li a1 W2 hA K hK
          have e18 : a1.tmps.getD 18 undef = .pointer (some ⟨w.heap.size + 1 + 1, 0, none⟩) := hA.val 1 18 (by kernel_rfl) (by kernel_rfl)
          refine opStep none 0 rfl rfl (fun c hc => by cases hc) ?_
          go_simp
          exact hK _ _ rfl StM.refl (hA.ph.other (by decide) (by decide))
        · -- 3
          intro li a1 W2 hA K hK
          have e19 : a1.tmps.getD 19 undef = .pointer (some ⟨w.heap.size + 1 + 1, 4, none⟩) := hA.val 2 19 (by kernel_rfl) (by kernel_rfl)
          obtain ⟨_, _, _, _, q1⟩ := (hA.st.chg.blk HZ.out.2.2.1 HN.out.2).c5
          refine opStep none 0 rfl rfl (fun c hc => by cases hc) ?_
          go_simp
          exact hK _ _ rfl StM.refl (hA.ph.other (by decide) (by decide))
        · -- 4
          intro li a1 W2 hA K hK
          have e5 := hA.par 5 (by kernel_rfl)
          obtain ⟨q1, q2⟩ := (hA.st.chg.blk HZ.out.1 HN.out.1).c2
          refine opStep none 0 rfl rfl (fun c hc => by cases hc) ?_
          go_simp
          exact hK _ _ rfl StM.refl (hA.ph.other (by decide) (by decide))
        · -- 5
          intro li a1 W2 hA K hK
          have e3 := hA.par 3 (by kernel_rfl)
          refine opStep none 0 rfl rfl (fun c hc => by cases hc) ?_
          go_simp
          exact hK _ _ rfl StM.refl (hA.ph.other (by decide) (by decide))
        · -- 6
          intro li a1 W2 hA K hK
          have e22 : a1.tmps.getD 22 undef = .pointer (some ⟨w.heap.size + 1 + 1, 0, none⟩) := hA.val 5 22 (by kernel_rfl) (by kernel_rfl)
          refine opStep none 0 rfl rfl (fun c hc => by cases hc) ?_
          go_simp
          exact hK _ _ rfl StM.refl (hA.ph.other (by decide) (by decide))
        · -- 7
          intro li a1 W2 hA K hK
          have e23 : a1.tmps.getD 23 undef = .pointer (some ⟨w.heap.size + 1 + 1, 0, none⟩) := hA.val 6 23 (by kernel_rfl) (by kernel_rfl)
          refine opStep none 0 rfl rfl (fun c hc => by cases hc) ?_
          go_simp
          exact hK _ _ rfl StM.refl (hA.ph.other (by decide) (by decide))
        · -- 8
          intro li a1 W2 hA K hK
          have e24 : a1.tmps.getD 24 undef = .pointer (some ⟨w.heap.size + 1 + 1, 4, none⟩) := hA.val 7 24 (by kernel_rfl) (by kernel_rfl)
          obtain ⟨_, _, _, _, q1⟩ := (hA.st.chg.blk HZ.out.2.2.1 HN.out.2).c5
          refine opStep none 0 rfl rfl (fun c hc => by cases hc) ?_
          go_simp
          exact hK _ _ rfl StM.refl (hA.ph.other (by decide) (by decide))
        · -- 9
          intro li a1 W2 hA K hK
          have e5 := hA.par 5 (by kernel_rfl)
          refine opStep none 0 rfl rfl (fun c hc => by cases hc) ?_
          go_simp
          exact hK _ _ rfl StM.refl (hA.ph.other (by decide) (by decide))
        · -- 10
          intro li a1 W2 hA K hK
          have e26 : a1.tmps.getD 26 undef = .pointer (some ⟨z, 1, none⟩) := hA.val 9 26 (by kernel_rfl) (by kernel_rfl)
          obtain ⟨q1, q2⟩ := (hA.st.chg.blk HZ.out.1 HN.out.1).c2
          refine opStep none 0 rfl rfl (fun c hc => by cases hc) ?_
          go_simp
          exact hK _ _ rfl StM.refl (hA.ph.other (by decide) (by decide))
        · -- 11
          intro li a1 W2 hA K hK
          have e5 := hA.par 5 (by kernel_rfl)
          refine opStep none 0 rfl rfl (fun c hc => by cases hc) ?_
          go_simp
          exact hK _ _ rfl StM.refl (hA.ph.other (by decide) (by decide))
        · -- 12
          intro li a1 W2 hA K hK
          have e28 : a1.tmps.getD 28 undef = .pointer (some ⟨z, 0, none⟩) := hA.val 11 28 (by kernel_rfl) (by kernel_rfl)
          obtain ⟨q1, q2⟩ := (hA.st.chg.blk HZ.out.1 HN.out.1).c2
          refine opStep none 0 rfl rfl (fun c hc => by cases hc) ?_
          go_simp
          exact hK _ _ rfl StM.refl (hA.ph.other (by decide) (by decide))
        · -- 13
          intro li a1 W2 hA K hK
          have e27 : a1.tmps.getD 27 undef = .int .i64 jb := hA.val 10 27 (by kernel_rfl) (by kernel_rfl)
          have e29 : a1.tmps.getD 29 undef = .int .i64 ja := hA.val 12 29 (by kernel_rfl) (by kernel_rfl)
          have e27' := e27
          have e29' := e29
          rw [Array.getD_eq_getD_getElem?] at e27' e29'
          refine opStep none 0 rfl rfl (fun c hc => by cases hc) ?_
          go_simp
          exact hK _ _ rfl StM.refl (hA.ph.other (by decide) (by decide))
        · -- 14
          intro li a1 W2 hA K hK
          have e20 : a1.tmps.getD 20 undef = .map (some (w.heap.size + 1)) := hA.val 3 20 (by kernel_rfl) (by kernel_rfl)
          have e21 : a1.tmps.getD 21 undef = .agg #[.int .i64 ja, .int .i64 jb] := hA.val 4 21 (by kernel_rfl) (by kernel_rfl)
          have hl16 : li.getD 16 false = false := by
            cases hl : li.getD 16 false
            · rfl
            · have := hA.past hl 14 (by kernel_rfl); rw [hA.new] at this; cases this
          have hp := hA.ph
          unfold PhJ at hp
          rw [hl16, show li.getD 14 false = false from hA.new] at hp
          simp only [Bool.false_eq_true, if_false] at hp
          obtain ⟨v, st, W', hrun, hs, he, hm'⟩ := jn_entry (t := 109) Try.underlying109 (bool_zero _) hp HIA.out.1 HIA.out.2
          unfold jnV goInt at hrun
          refine opValue none 0 rfl rfl (fun c hc => by cases hc) (v := .tuple #[v, .int .i64 (st : Int)]) (W' := W') (by simp [execOp, Act.eval, e20, e21, hrun, Result.andThen]) ?_
          refine hK _ W' ⟨(st, v), rfl, he⟩ hs ?_
          unfold PhJ
          rw [getD_set_oth (by decide), hl16, getD_set_eq (by rw [hA.lsize]; decide)]
          simp only [Bool.false_eq_true, if_false, if_true]
          exact hm'
        · -- 15
          intro li a1 W2 hA K hK
          obtain ⟨q, e31, h31⟩ := hA.val 14 31 (by kernel_rfl) (by kernel_rfl)
          refine opStep none 0 rfl rfl (fun c hc => by cases hc) ?_
          go_simp
          exact hK _ _ ⟨q.1, rfl, h31⟩ StM.refl (hA.ph.other (by decide) (by decide))
        · -- 16
          intro li a1 W2 hA K hK
          have e20 : a1.tmps.getD 20 undef = .map (some (w.heap.size + 1)) := hA.val 3 20 (by kernel_rfl) (by kernel_rfl)
          obtain ⟨st, e32, h32⟩ := hA.val 15 32 (by kernel_rfl) (by kernel_rfl)
          have hp := hA.ph
          unfold PhJ at hp
          rw [show li.getD 16 false = false from hA.new, hA.has 14 (by kernel_rfl)] at hp
          simp only [Bool.false_eq_true, if_false, if_true] at hp
          obtain ⟨W', hrun, hs, hm'⟩ := jn_store (t := 109) hp h32
          unfold goInt at hrun
          refine opStep none 0 rfl rfl (fun c hc => by cases hc) ?_
          unfold Oper.wp
          rw [show (execOp a1.eval _).run Try.prog W2 = .ok .skip W' by simp [execOp, Act.eval, e20, e32, hrun, Result.andThen]]
          refine hK undef W' ⟨undef, rfl, trivial⟩ hs ?_
          unfold PhJ
          rw [getD_set_eq (by rw [hA.lsize]; decide)]
          simp only [if_true]
          exact hm'
      · intro li a1 W2 hD
        have hp := hD.ph
        unfold PhJ at hp
        rw [hD.all 16 (by decide)] at hp
        simp only [if_true] at hp
        have e25 : a1.tmps.getD 25 undef = .map (some (w.heap.size + 1)) := hD.val 8 25 (by kernel_rfl) (by kernel_rfl)
        have e30 : a1.tmps.getD 30 undef = .agg #[.int .i64 jb, .int .i64 ja] := hD.val 13 30 (by kernel_rfl) (by kernel_rfl)
        obtain ⟨v, st, w5, hrun, hs5, he, hm5⟩ := jn_entry (t := 109) Try.underlying109 (bool_zero _) hp HIA.out.2 HIA.out.1
        unfold jnV goInt at hrun
        obtain ⟨w6, hrun2, hs6, hm6⟩ := jn_store (t := 109) hm5 he
        unfold goInt at hrun2
        have HNX := hid (show MapAt (kTo m (k + 1)) (fun _ _ => False) (w.heap.size + 1) w6 ∧ Chg (fun q => q = w.heap.size + 1) w1 w6 from ⟨hm6.congr (fun x y => by rw [kTo_succ HJ.out, HJE.out.1, HJE.out.2]) (fun _ _ h => h), HZ.out.2.2.2.trans (hD.st.chg.trans (hs5.chg.trans hs6.chg))⟩)
        have hkp2 := hD.keeps (ds := [17, 18, 19, 20, 21, 22, 23, 24, 25, 26, 27, 28, 29, 30, 31, 32, 33, 34]) (by kernel_rfl)
        have hds := hD.size
        have hsz : a1.tmps.size = 37 := hD.size
        have hdd := hD.defers
        clear hp hs5 he hm5 hs6 hm6
        refine tail_val (i := 17) (v := .tuple #[v, .int .i64 (st : Int)]) (W' := w5) none 0 rfl rfl rfl (fun c hc => by cases hc) (by simp [execOp, Act.eval, e25, e30, hrun, Result.andThen]) (by rw [hsz]; decide) ?_
        intro a3 s3 d3 f3 o3
        have hkp3 := keeps_then hkp2 o3 (by decide)
        refine tail_val (i := 18) (v := .int .i64 (st : Int)) (W' := w5) none 0 rfl rfl rfl (fun c hc => by cases hc) (by go_simp) (by rw [s3, hsz]; decide) ?_
        intro a4 s4 d4 f4 o4
        have hkp4 := keeps_then hkp3 o4 (by decide)
        have e25' := (o4 25 (by decide)).trans ((o3 25 (by decide)).trans e25)
        refine tail_store (i := 19) (W' := w6) none 0 rfl rfl rfl (fun c hc => by cases hc) (by simp [execOp, Act.eval, e25', f4, hrun2, Result.andThen]) ?_
        have e := act_mix [17, 18, 19, 20, 21, 22, 23, 24, 25, 26, 27, 28, 29, 30, 31, 32, 33, 34] (s4.trans (s3.trans hds)) (d4.trans (d3.trans hdd)) (fun i _ hc => hkp4 i hc)
        generalize (fun i => a4.tmps.getD i undef) = g' at e
        refine wpListIn_nil ?_
        rw [e]
        clear e hD hkp2 hkp3 hkp4 s3 s4 d3 d4 f3 f4 o3 o4 e25 e25' e30 hds hdd hsz hrun hrun2 HZ HN HJ HJE
        simp only [mix, List.contains_cons, List.contains_nil, Nat.reduceAdd, Nat.reduceBEq, Bool.or_false, Bool.or_true, cond_true, cond_false]
        go_wp2
        go_roundw
        case rel => exact ⟨k + 1, by omega, by go_num, HNX.out⟩
        case measure => first | (simp [intOf]; done) | (simp [intOf]; omega)
    · have hkI : decide ((k : Int) < (m.js.length : Int)) = false := by simp; omega
      obtain rfl : k = m.js.length := by omega
      have HF := hid (show WAt m A c A2 c2 A3 c3 (w.heap.size + 1 + 1) (w.heap.size + 1) wr ∧ Below w.heap.size w wr from ⟨⟨HR.out.2.2.2, HR.out.1.congr (fun x y => kTo_all.symm) (fun _ _ h => h)⟩, HR.out.2.2.1⟩)
      go_wp2
      go_ret
      exact ⟨w.heap.size + 1 + 1, w.heap.size + 1, rfl, by omega, by omega, HF.out⟩
end Go.Proofs.Ytoeabajigfdkaaa
/- The program's search of connected streets, in plain words: a list whose front is reached. No condition. -/
namespace Go.Proofs.Ytoeabajigfdkaaa

/-- two elements change places -/
def SW (ms ms' : List Int) (r k : Nat) : Prop := ms'.length = ms.length ∧ ∀ i, ms'[i]? = if i = r then ms[k]? else if i = k then ms[r]? else ms[i]?
theorem sw_of {ms : List Int} {r k : Nat} {x y : Int} (hr : ms[r]? = some x) (hk : ms[k]? = some y) : SW ms ((ms.set k x).set r y) r k := by
  have h1 := (List.getElem?_eq_some_iff.1 hr).1
  have h2 := (List.getElem?_eq_some_iff.1 hk).1
  refine ⟨by simp, fun i => ?_⟩
  by_cases e1 : i = r
  · subst e1
    rw [if_pos rfl, List.getElem?_set_self (by simpa using h1), hk]
  · rw [if_neg e1, List.getElem?_set_ne (fun e => e1 e.symm)]
    by_cases e2 : i = k
    · subst e2
      rw [if_pos rfl, List.getElem?_set_self h2, hr]
    · rw [if_neg e2, List.getElem?_set_ne (fun e => e2 e.symm)]
structure CS (m : MapD) (ms0 : List Int) (f : Int) (ms : List Int) (next reached : Nat) : Prop where
  len : ms.length = ms0.length
  sub : ∀ y, y ∈ ms → y ∈ ms0
  sup : ∀ y, y ∈ ms0 → y ∈ ms
  inj : ∀ (i j : Nat) (x : Int), ms[i]? = some x → ms[j]? = some x → i = j
  hd : ms[0]? = some f
  r1 : 1 ≤ reached
  rl : reached ≤ ms.length
  nr : next ≤ reached
  rch : ∀ (i : Nat) (x : Int), i < reached → ms[i]? = some x → Rch m ms0 f x
  cl : ∀ (i k : Nat) (x y : Int), i < next → reached ≤ k → ms[i]? = some x → ms[k]? = some y → meet m x y = false
/-- within the loop over those that are not reached -/
structure CI (m : MapD) (ms0 : List Int) (f : Int) (ms : List Int) (next reached k : Nat) : Prop extends CS m ms0 f ms next reached where
  lt : next < reached
  rk : reached ≤ k
  kl : k ≤ ms.length
  no : ∀ (j : Nat) (x y : Int), reached ≤ j → j < k → ms[next]? = some x → ms[j]? = some y → meet m x y = false
theorem CS.start {m : MapD} {f : Int} {t : List Int} (h : (f :: t).Nodup) : CS m (f :: t) f (f :: t) 0 1 :=
  ⟨rfl, fun _ h => h, fun _ h => h, fun i j x hi hj => by
    obtain ⟨h1, h2⟩ := List.getElem?_eq_some_iff.1 hi
    obtain ⟨h3, h4⟩ := List.getElem?_eq_some_iff.1 hj
    exact (List.getElem?_inj h1 h).1 (hi.trans hj.symm), rfl, Nat.le_refl _, by simp, by omega, fun i x hi hx => by
    obtain rfl : i = 0 := by omega
    simp at hx
    subst hx
    exact .base, fun i k x y hi => by omega⟩
theorem CI.start {m : MapD} {ms0 ms : List Int} {f : Int} {next reached : Nat} (h : CS m ms0 f ms next reached) (hlt : next < reached) : CI m ms0 f ms next reached reached :=
  ⟨h, hlt, Nat.le_refl _, h.rl, fun j x y h1 h2 => by omega⟩
theorem CI.miss {m : MapD} {ms0 ms : List Int} {f : Int} {next reached k : Nat} (h : CI m ms0 f ms next reached k) (hk : k < ms.length) {a b : Int} (ha : ms[next]? = some a) (hb : ms[k]? = some b) (hm : meet m a b = false) : CI m ms0 f ms next reached (k + 1) :=
  ⟨h.toCS, h.lt, by have := h.rk; omega, hk, fun j x y h1 h2 hx hy => by
    by_cases e : j = k
    · subst e
      rw [ha] at hx; rw [hb] at hy
      cases hx; cases hy
      exact hm
    · exact h.no j x y h1 (by omega) hx hy⟩
theorem CI.hit {m : MapD} {ms0 ms ms' : List Int} {f : Int} {next reached k : Nat} (h : CI m ms0 f ms next reached k) (hk : k < ms.length) {a b : Int} (ha : ms[next]? = some a) (hb : ms[k]? = some b) (hm : meet m a b = true) (hs : SW ms ms' reached k) : CI m ms0 f ms' next (reached + 1) (k + 1) := by
  obtain ⟨s1, s2⟩ := hs
  have hrk := h.rk
  have hlt := h.lt
  have hr1 := h.r1
  have lo : ∀ i, i < reached → ms'[i]? = ms[i]? := fun i hi => by rw [s2, if_neg (by omega), if_neg (by omega)]
  have at_ : ms'[reached]? = some b := by rw [s2, if_pos rfl, hb]
  have hi_ : ∀ i (x : Int), reached + 1 ≤ i → ms'[i]? = some x → ∃ j, reached ≤ j ∧ (i < k + 1 → j < k) ∧ ms[j]? = some x := fun i x hi hx => by
    rw [s2, if_neg (by omega)] at hx
    by_cases e : i = k
    · rw [if_pos e] at hx
      exact ⟨reached, Nat.le_refl _, fun _ => by omega, hx⟩
    · rw [if_neg e] at hx
      exact ⟨i, by omega, fun _ => by omega, hx⟩
  have to : ∀ y, y ∈ ms' → y ∈ ms := fun y hy => by
    obtain ⟨i, hi⟩ := List.getElem?_of_mem hy
    rw [s2] at hi
    split at hi
    · exact List.mem_of_getElem? hi
    · split at hi
      · exact List.mem_of_getElem? hi
      · exact List.mem_of_getElem? hi
  have fro : ∀ y, y ∈ ms → y ∈ ms' := fun y hy => by
    obtain ⟨i, hi⟩ := List.getElem?_of_mem hy
    by_cases e1 : i = reached
    · subst e1
      by_cases e2 : i = k
      · subst e2
        exact List.mem_of_getElem? (i := i) (by rw [s2, if_pos rfl, hi])
      · exact List.mem_of_getElem? (i := k) (by rw [s2, if_neg (fun e => e2 e.symm), if_pos rfl, hi])
    · by_cases e2 : i = k
      · subst e2
        exact List.mem_of_getElem? (i := reached) (by rw [s2, if_pos rfl, hi])
      · exact List.mem_of_getElem? (i := i) (by rw [s2, if_neg e1, if_neg e2, hi])
  refine ⟨⟨s1.trans h.len, fun y hy => h.sub y (to y hy), fun y hy => fro y (h.sup y hy), fun i j x hi hj => ?_, ?_, by omega, by rw [s1]; omega, by omega, fun i x hi hx => ?_, fun i j x y hi hj hx hy => ?_⟩, by omega, by omega, by rw [s1]; omega, fun j x y h1 h2 hx hy => ?_⟩
  · rw [s2] at hi hj
    by_cases i1 : i = reached <;> by_cases j1 : j = reached
    · omega
    · rw [if_pos i1] at hi
      rw [if_neg j1] at hj
      by_cases j2 : j = k
      · rw [if_pos j2] at hj
        have := h.inj _ _ _ hi hj
        omega
      · rw [if_neg j2] at hj
        have := h.inj _ _ _ hi hj
        omega
    · rw [if_pos j1] at hj
      rw [if_neg i1] at hi
      by_cases i2 : i = k
      · rw [if_pos i2] at hi
        have := h.inj _ _ _ hi hj
        omega
      · rw [if_neg i2] at hi
        have := h.inj _ _ _ hi hj
        omega
    · rw [if_neg i1] at hi
      rw [if_neg j1] at hj
      by_cases i2 : i = k <;> by_cases j2 : j = k
      · omega
      · rw [if_pos i2] at hi
        rw [if_neg j2] at hj
        have := h.inj _ _ _ hi hj
        omega
      · rw [if_neg i2] at hi
        rw [if_pos j2] at hj
        have := h.inj _ _ _ hi hj
        omega
      · rw [if_neg i2] at hi
        rw [if_neg j2] at hj
        exact h.inj _ _ _ hi hj
  · rw [lo 0 (by omega)]; exact h.hd
  · by_cases e : i = reached
    · subst e
      rw [at_] at hx
      cases hx
      exact .step (h.rch next a hlt ha) (h.sub b (List.mem_of_getElem? hb)) hm
    · rw [lo i (by omega)] at hx
      exact h.rch i x (by omega) hx
  · have hnr := h.nr
    rw [lo i (by omega)] at hx
    obtain ⟨q, q1, _, q2⟩ := hi_ j y hj hy
    exact h.cl i q x y hi q1 hx q2
  · rw [lo next hlt] at hx
    obtain ⟨q, q1, q3, q2⟩ := hi_ j y h1 hy
    exact h.no q x y q1 (q3 h2) hx q2
theorem CI.done {m : MapD} {ms0 ms : List Int} {f : Int} {next reached : Nat} (h : CI m ms0 f ms next reached ms.length) : CS m ms0 f ms (next + 1) reached :=
  ⟨h.len, h.sub, h.sup, h.inj, h.hd, h.r1, h.rl, h.lt, h.rch, fun i k x y hi hk hx hy => by
    by_cases e : i = next
    · subst e
      exact h.no k x y hk (List.getElem?_eq_some_iff.1 hy).1 hx hy
    · exact h.cl i k x y (by omega) hk hx hy⟩
theorem CS.ends {m : MapD} {t ms : List Int} {f : Int} {reached : Nat} (h : CS m (f :: t) f ms reached reached) : decide (reached = ms.length) = conL m (f :: t) := by
  rw [Bool.eq_iff_iff, decide_eq_true_iff, conL_iff]
  constructor
  · intro e
    refine ⟨f, t, rfl, fun y hy => ?_⟩
    obtain ⟨i, hi⟩ := List.getElem?_of_mem (h.sup y hy)
    exact h.rch i y (by have := (List.getElem?_eq_some_iff.1 hi).1; omega) hi
  · rintro ⟨f', t', e, hall⟩
    cases e
    rcases Nat.lt_or_ge reached ms.length with hlt | hge
    · exfalso
      have hx : ms[reached]? = some ms[reached] := List.getElem?_eq_getElem hlt
      have hr := hall ms[reached] (h.sub _ (List.getElem_mem hlt))
      obtain ⟨i, hi, e⟩ := rch_in (fun y => ∃ i, i < reached ∧ ms[i]? = some y) ⟨0, h.r1, h.hd⟩ (fun x y ⟨i, hi, hx⟩ hy hm => by
        obtain ⟨j, hj⟩ := List.getElem?_of_mem (h.sup y hy)
        rcases Nat.lt_or_ge j reached with hl | hl
        · exact ⟨j, hl, hj⟩
        · have := h.cl i j x y hi hl hx hj
          rw [hm] at this; cases this) hr
      have := h.inj _ _ _ e hx
      omega
    · have := h.rl; omega
theorem conL_nil {m : MapD} : conL m [] = false := rfl
/-- the borders count only as far as there are streets -/
theorem mem_congr {l l' : Nat → Int} {d : Int} {k : Nat} (h : ∀ i, i < k → l i = l' i) : mem l d k = mem l' d k := by
  unfold mem
  congr 1
  refine List.filter_congr fun i hi => ?_
  simp only [inD]
  rw [h i (List.mem_range.1 hi)]
theorem conB_congr {m : MapD} {l l' : Nat → Int} {d : Int} (h : ∀ i, i < m.ss.length → l i = l' i) : conB m l d = conB m l' d := by
  unfold conB
  rw [mem_congr h]
theorem sumO_congr {m : MapD} {d : Nat} {p q : Nat → Bool} {g : Stt → Int} {k : Nat} (h : ∀ i, i < k → p i = q i) : sumO m d p g k = sumO m d q g k := by
  unfold sumO
  exact sumN_congr fun i hi => by rw [h i hi]
theorem partLo_congr {m : MapD} {p q : Nat → Bool} {d : Nat} (h : ∀ i, i < m.ss.length → p i = q i) : partLo m p d = partLo m q d := by
  unfold partLo
  rw [sumO_congr h, sumO_congr (p := nt p) (q := nt q) fun i hi => by simp only [nt]; rw [h i hi]]
theorem partHi_congr {m : MapD} {p q : Nat → Bool} {d : Nat} (h : ∀ i, i < m.ss.length → p i = q i) : partHi m p d = partHi m q d := by
  unfold partHi
  rw [sumO_congr h, sumO_congr (p := nt p) (q := nt q) fun i hi => by simp only [nt]; rw [h i hi]]
theorem sizeLo_congr {m : MapD} {p q : Nat → Bool} {k : Nat} (h : ∀ i, i < m.ss.length → p i = q i) : sizeLo m p k = sizeLo m q k := sumN_congr fun _ _ => partLo_congr h
theorem sizeHi_congr {m : MapD} {p q : Nat → Bool} {k : Nat} (h : ∀ i, i < m.ss.length → p i = q i) : sizeHi m p k = sizeHi m q k := sumN_congr fun _ _ => partHi_congr h
theorem inD_congr {l l' : Nat → Int} {d : Int} {k : Nat} (h : ∀ i, i < k → l i = l' i) : ∀ i, i < k → inD l d i = inD l' d i := fun i hi => by simp only [inD]; rw [h i hi]
end Go.Proofs.Ytoeabajigfdkaaa
