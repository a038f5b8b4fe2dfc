/- The walks and the plain laws of this part of the program, part 11: what each computes. Conditions stand at each theorem. -/
import Derived.Deep.OwnRows
import Derived.Deep.Matrix
import Derived.Lib.SmallJoins
import Derived.Test.YtlnamjhgbdacbaaGreatG8
import Derived.Test.YtlnamjhgbdacbaaGreatG9
import Derived.Test.YtlnamjhgbdacbaaGreatG10
/- The carried counts of all streets. Conditions stand at the theorem. -/
namespace Go.Proofs.YtlnamjhgbdacbaaGreat
open Go.RowKit Go.Shelf

attribute [local go_sem] Oper.semAt_some

def intC (xs : List Int) : Array Value := (xs.map (Value.int .i64)).toArray
theorem intC_get {xs : List Int} {i : Nat} {x : Int} (h : xs[i]? = some x) : (intC xs)[i]? = some (.int .i64 x) := by
  unfold intC
  rw [List.getElem?_toArray, List.getElem?_map, h]; rfl
theorem intC_set (xs : List Int) (i : Nat) (x : Int) : (intC xs).setIfInBounds i (.int .i64 x) = intC (xs.set i x) := by
  unfold intC
  simp [List.map_set]
theorem intC_zero (n : Nat) : madeCells #[.int .i64 0] n = intC (List.replicate n 0) := by
  unfold madeCells intC
  apply Array.ext
  · simp
  · intro i h1 h2
    simp [Nat.mod_one]
theorem MChg.rows {Z Y : Nat → Prop} {A B D : World} (h : MChg Z A B) (k : MChg Y B D) (hY : ∀ q, Y q → A.heap.size ≤ q) : MChg Z A D :=
  ⟨k.os.trans h.os, k.tape.trans h.tape, k.output.trans h.output, Nat.le_trans h.size k.size, fun i hi hn => (k.block i (Nat.lt_of_lt_of_le hi h.size) (fun e => by have := hY i e; omega)).trans (h.block i hi hn)⟩
theorem keepsFrom_chg {B : Nat} {Z : Nat → Prop} {W W' : World} (h : MChg Z W W') (hz : ∀ q, Z q → ∃ o, W.heap[q]? = some o ∧ o.isCells = true) : KeepsFrom B W W' :=
  ⟨h.size, fun k o _ hk hn => (h.block k (Array.getElem?_eq_some_iff.1 hk).1 (fun e => by
    obtain ⟨o', ho, hc⟩ := hz k e
    rw [hk] at ho
    cases ho
    rw [hn] at hc
    cases hc)).trans hk⟩
theorem row_cells {W : World} {base e size n q : Nat} {v : Value} {xs : List Value} (h : W.ownsRow base e size v n xs) (hq : v.ownBlock = some q) : ∃ o, W.heap[q]? = some o ∧ o.isCells = true := by
  rcases h.2 with ⟨rfl, _⟩ | ⟨g, cap, cur, rfl, _, hb, _⟩
  · cases hq
  · injection hq with hq
    simp only at hq
    subst hq
    exact ⟨_, hb, rfl⟩
theorem row_set {W : World} {base e size n g t i : Nat} {v : Value} {xs : List Value} {us : Array Value} (h : W.ownsRow base e size v n xs) (hb : Blk W g t us) (hne : t ≠ e) (u : Value) : (W.setCell ⟨g, i, none⟩ u).ownsRow base e size v n xs :=
  h.kept ⟨rfl, rfl, rfl, by simp [World.setCell], fun k _ hk => Below.heap_setCell W ⟨g, i, none⟩ u k (fun e => hk (by rw [e]))⟩ (mown_ne h (mblk_not hb hne))
theorem one_blk {W : World} {g t : Nat} {u : Value} (h : Blk W g t #[u]) : ∀ (j : Nat) (x : Value), [u][j]? = some x → W.cell? ((⟨g, 0, none⟩ : Addr).add j) = some x := by
  intro q x hq
  match q, hq with
  | 0, hq => injection hq with hq; subst hq; exact h.c1
  | q + 1, hq => simp at hq
def IJ (m : MapD) (d B B6 B7 : Nat) (W0 : World) (j : Nat) (W : World) : Prop :=
  ∃ v6 v7, Blk W B6 22 #[v6] ∧ Blk W B7 22 #[v7] ∧ W.ownsRow B 3 1 v6 (wsTo m d j).length ((wsTo m d j).map (Value.int .i64)) ∧ W.ownsRow B 3 1 v7 (atTo m d j).length ((atTo m d j).map fun (i : Nat) => Value.int .i64 (i : Int)) ∧ (v6.ownBlock = none ∨ v6.ownBlock ≠ v7.ownBlock) ∧ MChg (fun q => q = B6 ∨ q = B7) W0 W
theorem IJ.own {m : MapD} {d B B6 B7 : Nat} {W0 : World} {D : Nat} (h : W0.heap.size ≤ D) : OwnFrom D (IJ m d B B6 B7 W0) := fun j W W' row hs hg hr => by
  obtain ⟨v6, v7, h1, h2, h3, h4, h5, h6⟩ := hs
  exact ⟨v6, v7, blk_own D B6 _ (fun (_ : Unit) => #[v6]) () W W' row h1 hg hr, blk_own D B7 _ (fun (_ : Unit) => #[v7]) () W W' row h2 hg hr, row_own D B _ 1 (fun (_ : Unit) => v6) (fun _ => (wsTo m d j).length) (fun _ => (wsTo m d j).map (Value.int .i64)) () W W' row h3 hg hr, row_own D B _ 1 (fun (_ : Unit) => v7) (fun _ => (atTo m d j).length) (fun _ => (atTo m d j).map fun (i : Nat) => Value.int .i64 (i : Int)) () W W' row h4 hg hr, h5, chg_own (β := Unit) h () W W' row h6 hg hr⟩

set_option maxRecDepth 100000 in
set_option maxHeartbeats 4000000 in
theorem carried_any (m : MapD) (A : Option Addr) (c : Nat) (A2 : Option Addr) (c2 : Nat) (A3 : Option Addr) (c3 : Nat) (w : World) (h : MIn m A c A2 c2 A3 c3 w) (ok : OkM m) :
    Calls Tryz.prog 23 #[.agg #[.slice A m.old.length c, .int .i64 m.nw, .slice A2 m.ss.length c2, .slice A3 m.js.length c3]] w (GivesInts (car m) w) := by
  have hm1 := h.m1
  have hl1 := h.l1
  unfold maxLen at hm1
  have hs8 := ok.s8
  have hB := below_box (w := w) #[.slice A m.old.length c, .int .i64 m.nw, .slice A2 m.ss.length c2, .slice A3 m.js.length c3] 36
  have hT := Blk.new w 36 #[.slice A m.old.length c, .int .i64 m.nw, .slice A2 m.ss.length c2, .slice A3 m.js.length c3]
  obtain ⟨t0, t1, t2, t3⟩ := hT.c4
  have HH := hid h
  have OK := hid ok
  have hmk := run_make_row' (P := Tryz.prog) 22 3 (.int .i64 0) 8 Tryz.underlying22 int_info rfl .i64 .i64 m.ss.length (by omega) (by omega)
  have HS := hid (show Blk ((w.alloc (.cells #[.slice A m.old.length c, .int .i64 m.nw, .slice A2 m.ss.length c2, .slice A3 m.js.length c3] 36)).alloc (.cells (madeCells #[.int .i64 0] m.ss.length) 3)) (w.heap.size + 1) 3 (intC (carTo m 0)) ∧ Below w.heap.size w ((w.alloc (.cells #[.slice A m.old.length c, .int .i64 m.nw, .slice A2 m.ss.length c2, .slice A3 m.js.length c3] 36)).alloc (.cells (madeCells #[.int .i64 0] m.ss.length) 3)) ∧ Blk ((w.alloc (.cells #[.slice A m.old.length c, .int .i64 m.nw, .slice A2 m.ss.length c2, .slice A3 m.js.length c3] 36)).alloc (.cells (madeCells #[.int .i64 0] m.ss.length) 3)) w.heap.size 36 #[.slice A m.old.length c, .int .i64 m.nw, .slice A2 m.ss.length c2, .slice A3 m.js.length c3] from
    ⟨by have := Blk.new (w.alloc (.cells #[.slice A m.old.length c, .int .i64 m.nw, .slice A2 m.ss.length c2, .slice A3 m.js.length c3] 36)) 3 (madeCells #[.int .i64 0] m.ss.length); rw [intC_zero] at this ⊢; rwa [World.size_alloc] at this, hB.alloc hB.size _, hT.alloc _⟩)
  clear h ok hB hT
  refine callsOf (ro := none) (n := 0) ?_
  refine callsIn_of_wp_marks Tryz.func23 rfl trivial ?_ rfl
  refine wpIn_wide.2 ?_
  simp only [Tryz.ntmps23, List.size_toArray, List.length_cons, List.length_nil, Nat.reduceAdd, Nat.reduceSub, Array.replicate_succ, Array.replicate_zero, List.push_toArray, List.append_toArray, List.nil_append, List.cons_append]
  go_wp2
  clear t0 t1 t2 t3 hmk
  refine wp_loop (fun a W => ∃ (k : Nat) (Ds : List Nat) (u4 u5 u6 u7 u8 u9 u10 u11 u12 u13 u22 u23 u24 u25 u26 u27 u28 u31 u32 u33 u34 u35 u36 u37 u38 u39 u40 u41 u42 u43 u44 u45 u46 u47 u48 u49 u50 u51 u52 u53 u54 u55 u56 u57 u58 u59 u60 u61 : Value), (k ≤ m.old.length ∧ Blk W (w.heap.size + 1) 3 (intC (carTo m k)) ∧ Below w.heap.size w W ∧ Blk W w.heap.size 36 #[.slice A m.old.length c, .int .i64 m.nw, .slice A2 m.ss.length c2, .slice A3 m.js.length c3] ∧ Marks w.heap.size Ds W) ∧ a = { tmps := #[.agg #[.slice A m.old.length c, .int .i64 m.nw, .slice A2 m.ss.length c2, .slice A3 m.js.length c3], .pointer (some ⟨w.heap.size, 0, none⟩), .slice none 0 0, .slice (some ⟨w.heap.size + 1, 0, none⟩) m.ss.length m.ss.length, u4, u5, u6, u7, u8, u9, u10, u11, u12, u13, .pointer (some ⟨w.heap.size, 2, none⟩), .slice A2 m.ss.length c2, .int .i64 (m.ss.length : Int), .slice (some ⟨w.heap.size + 1, 0, none⟩) m.ss.length m.ss.length, .pointer (some ⟨w.heap.size, 0, none⟩), .slice A m.old.length c, .int .i64 (m.old.length : Int), .int .i64 (k : Int), u22, u23, u24, u25, u26, u27, u28, undef, undef, u31, u32, u33, u34, u35, u36, u37, u38, u39, u40, u41, u42, u43, u44, u45, u46, u47, u48, u49, u50, u51, u52, u53, u54, u55, u56, u57, u58, u59, u60, u61, undef], defers := Ds.map mkD }) (fun a _ => m.old.length - (intOf (a.tmps.getD 21 undef)).toNat) ?_ ?_
  · refine ⟨0, [], ?_⟩
    (repeat apply Exists.intro)
    exact ⟨⟨Nat.zero_le _, HS.out.1, HS.out.2.1, HS.out.2.2, Marks.nil _ _⟩, rfl⟩
  rintro _ wr ⟨k, Ds, u4, u5, u6, u7, u8, u9, u10, u11, u12, u13, u22, u23, u24, u25, u26, u27, u28, u31, u32, u33, u34, u35, u36, u37, u38, u39, u40, u41, u42, u43, u44, u45, u46, u47, u48, u49, u50, u51, u52, u53, u54, u55, u56, u57, u58, u59, u60, u61, ⟨hk, hbo, hbr, hbm, hmk⟩, rfl⟩
  clear HS
  have HR := hid (And.intro hbo (And.intro hbr (And.intro hbm hmk)))
  obtain ⟨t0, t1, t2, t3⟩ := hbm.c4
  have bl := hbm.lt
  have bl1 : w.heap.size < wr.heap.size + 1 := by omega
  by_cases hlt : k < m.old.length
  · have hkI : (k : Int) < (m.old.length : Int) := by omega
    obtain ⟨x, hx⟩ : ∃ x, m.old[k]? = some x := ⟨_, List.getElem?_eq_getElem hlt⟩
    obtain ⟨aa, hA, g1, g2⟩ := (HH.out.at_ hbr).io k x hx
    subst hA
    have HX := hid (MapD.at_eq hx)
    clear hbo hbr hbm hmk hx
    go_wp2_with fail
    refine (of_any _ _ _ _ _ _).mono ?_
    rintro e w2 ⟨rfl, h1, h2, h3⟩
    have hba : Below wr.heap.size wr ((wr.alloc (.cells #[.slice none 0 0] 22)).alloc (.cells #[.slice none 0 0] 22)) := (((Below.refl wr.heap.size wr).alloc (Nat.le_refl _) (.cells #[.slice none 0 0] 22)).alloc (by simp) (.cells #[.slice none 0 0] 22))
    have k6 := ((Blk.new wr 22 #[.slice none 0 0]).alloc (.cells #[.slice none 0 0] 22))
    have k7 := (Blk.new (wr.alloc (.cells #[.slice none 0 0] 22)) 22 #[.slice none 0 0])
    simp only [World.size_alloc] at k7
    have hss : ((wr.alloc (.cells #[.slice none 0 0] 22)).alloc (.cells #[.slice none 0 0] 22)).heap.size = wr.heap.size + 1 + 1 := by simp only [World.size_alloc]
    rw [hss] at h2 h3
    have hbw := hba.trans (h1.mono hba.size)
    obtain ⟨Bd, eBd⟩ : ∃ B, B = wr.heap.size + 1 + 1 + 1 := ⟨_, rfl⟩
    obtain ⟨Bm, eBm⟩ : ∃ B, B = wr.heap.size + 1 + 1 := ⟨_, rfl⟩
    obtain ⟨B7, eB7⟩ : ∃ B, B = wr.heap.size + 1 := ⟨_, rfl⟩
    obtain ⟨B6, eB6⟩ : ∃ B, B = wr.heap.size := ⟨_, rfl⟩
    have H2 := hid (And.intro h2 (And.intro h3 (And.intro (k6.keep h1) (And.intro (k7.keep h1) hbw))))
    rw [← eBd, ← eBm, ← eB7] at H2
    have hlt2 := h3.lt
    rw [← eBd] at hlt2
    clear h1 h2 h3 k6 k7 hba hbw t0 t1 t2 t3 hss g2
    go_wp2
    rw [← eBd, ← eBm, ← eB7]
    have HE := hid (show wr.heap.size = B6 ∧ B6 < B7 ∧ B7 < Bm ∧ Bm < Bd ∧ Bd < w2.heap.size ∧ w.heap.size + 1 < B6 by have := HR.out.1.lt; omega)
    rw [show wr.heap.size = B6 from eB6.symm]
    have H6 := hid (show Blk w2 B6 22 #[.slice none 0 0] by rw [eB6]; exact H2.out.2.2.1)
    clear eBd eBm eB7 eB6 hlt2 bl bl1
    have HBW := hid (HR.out.2.1.trans (H2.out.2.2.2.2.mono HR.out.2.1.size))
    refine (wpIn_wide (n := 0)).1 ?_
    refine wpIn_rangeFunc_of (m := m) (d := (k : Int)) (X := fun q => q = B6 ∨ q = B7 ∨ w2.heap.size ≤ q) rfl (enters_of Tryz.func80 (by kernel_rfl) rfl)
      (of1_any H2.out.1 H2.out.2.1 (n := w.heap.size) HBW.out.size (HH.out.is.below HBW.out) HH.out.l2 HH.out.m2 (fun q e => by have := HE.out; have := HBW.out.size; rcases e with e | e | e <;> exact ⟨by omega, by omega⟩)) (Below.refl _ _)
      (IJ m k w2.heap.size B6 B7 w2) (fun _ _ => False)
      (IJ.own (Nat.le_refl _)) (fun c s W W' row hs _ _ => hs) ⟨.slice none 0 0, .slice none 0 0, H6.out, H2.out.2.2.2.1, ⟨rfl, .inl ⟨rfl, rfl⟩⟩, ⟨rfl, .inl ⟨rfl, rfl⟩⟩, .inl rfl, MChg.refl⟩
      (fun j s W hs hne hi => by unfold IJ at *; rw [(atTo_skip hs hne).1, (atTo_skip hs hne).2]; exact hi)
      (fun j s z => { tmps := #[.agg #[.slice (some aa) m.old.length c, .int .i64 m.nw, .slice A2 m.ss.length c2, .slice A3 m.js.length c3], .pointer (some ⟨w.heap.size, 0, none⟩), .slice none 0 0, .slice (some ⟨w.heap.size + 1, 0, none⟩) m.ss.length m.ss.length, .int .i64 (k : Int), .int .i64 x, .pointer (some ⟨B6, 0, none⟩), .pointer (some ⟨B7, 0, none⟩), .int .i64 (j : Int), .pointer (some ⟨z, 0, none⟩), u10, u11, u12, u13, .pointer (some ⟨w.heap.size, 2, none⟩), .slice A2 m.ss.length c2, .int .i64 (m.ss.length : Int), .slice (some ⟨w.heap.size + 1, 0, none⟩) m.ss.length m.ss.length, .pointer (some ⟨w.heap.size, 0, none⟩), .slice (some aa) m.old.length c, .int .i64 (m.old.length : Int), .int .i64 (k : Int), .bool true, .int .i64 (k : Int), .pointer (some (aa.add k)), .int .i64 x, .agg #[.slice (some aa) m.old.length c, .int .i64 m.nw, .slice A2 m.ss.length c2, .slice A3 m.js.length c3], .int .i64 (k : Int), .func (.func 80) #[] #[.pointer (some ⟨Bm, 0, none⟩), .pointer (some ⟨Bd, 0, none⟩)], .int .i64 (j : Int), .agg #[.int .i64 s.o, .int .i64 s.n, .int .i64 s.wt, .int .i64 s.lo, .int .i64 s.hi], u31, u32, u33, u34, u35, u36, u37, u38, u39, u40, u41, u42, u43, u44, u45, u46, u47, u48, u49, u50, u51, u52, u53, u54, u55, u56, u57, u58, u59, u60, u61, undef], defers := [] }) ?assign ?body ?done ?stop
    case assign =>
      intro l j s W K hK
      gi_wp2
      exact hK
    case body =>
      rintro l j s z W hl hz hlp hs hod ⟨v6, v7, hb6, hb7, hr6, hr7, hne, hch⟩ hbz
      have hjl := (List.getElem?_eq_some_iff.1 hs).1
      have hs8 := OK.out.s8
      have HTK := hid (atTo_take hs hod)
      obtain ⟨hl1, hl2⟩ := atTo_len m k j
      have hn6 : (wsTo m k j).length ≤ 8 := by omega
      have hn7 : (atTo m k j).length ≤ 8 := by omega
      obtain ⟨i0, hi0, hz0, hz1, hz2⟩ := info_parts int_info
      have HIN := hid (And.intro hi0 (And.intro hz0 (And.intro hz1 hz2)))
      have HZR := hid (fun (g t : Nat) (us : Array Value) (hb : Blk W g t us) (ht : t ≠ 3) => show ¬ (some g = v6.ownBlock ∨ some g = v7.ownBlock) by
        rintro (e | e)
        · rcases mown_ne hr6 (mblk_not hb ht) with q | q
          · rw [q] at e; cases e
          · exact q e.symm
        · rcases mown_ne hr7 (mblk_not hb ht) with q | q
          · rw [q] at e; cases e
          · exact q e.symm)
      have HNW := hid (fun (g : Nat) (hg : W.heap.size ≤ g) => show ¬ (some g = v6.ownBlock ∨ some g = v7.ownBlock) by
        rintro (e | e)
        · have := (hr6.lt _ e.symm).2; omega
        · have := (hr7.lt _ e.symm).2; omega)
      have HZG := hid (fun (g : Nat) (e : some g = v6.ownBlock ∨ some g = v7.ownBlock) => show w2.heap.size ≤ g ∧ ∃ o, W.heap[g]? = some o ∧ o.isCells = true by
        rcases e with e | e
        · exact ⟨(hr6.lt _ e.symm).1, row_cells hr6 e.symm⟩
        · exact ⟨(hr7.lt _ e.symm).1, row_cells hr7 e.symm⟩)
      have HB6 := hid hb6
      have HB7 := hid hb7
      have HBZ := hid hbz
      have HCH := hid hch
      have HG0 := hid (show PhC w2.heap.size (wsTo m k j).length (atTo m k j).length ((wsTo m k j).map (Value.int .i64)) ((atTo m k j).map fun (i : Nat) => Value.int .i64 (i : Int)) (.int .i64 s.wt) (.int .i64 (j : Int)) v6 v7 (Array.replicate 11 false) { tmps := #[], defers := [] } W from ⟨by simpa using hr6, by simpa using hr7, by simpa using hne⟩)
      have HWL := hid hl
      clear hlp hs hod hb6 hb7 hr6 hr7 hne hch hbz hjl hl hz hl1 hl2 hi0 hz0 hz1 hz2
      gi_wp2
      refine wpIn_region_each2 9 (fun i v W' => match i with | 0 => v = v6 | 1 => v = .pointer (some ⟨z, 2, none⟩) | 2 => v = .int .i64 s.wt | 3 => ∃ gl, v = .slice (some ⟨gl, 0, none⟩) 1 1 ∧ W.heap.size ≤ gl ∧ Blk W' gl 3 #[.int .i64 s.wt] | 4 => ∃ v4, v = v4 ∧ True | 5 => v = v7 | 6 => v = .int .i64 (j : Int) | 7 => ∃ gm, v = .slice (some ⟨gm, 0, none⟩) 1 1 ∧ W.heap.size ≤ gm ∧ Blk W' gm 3 #[.int .i64 (j : Int)] | 8 => ∃ v4, v = v4 ∧ True | _ => True) (MChg (fun q => some q = v6.ownBlock ∨ some q = v7.ownBlock)) (PhC w2.heap.size (wsTo m k j).length (atTo m k j).length ((wsTo m k j).map (Value.int .i64)) ((atTo m k j).map fun (i : Nat) => Value.int .i64 (i : Int)) (.int .i64 s.wt) (.int .i64 (j : Int)) v6 v7) (by kernel_rfl) (by kernel_rfl) ?_ (fun h k => h.trans k) ⟨rfl, rfl, rfl, Nat.le_refl _, fun _ _ _ => rfl⟩ ⟨by have q := HG0.out.r6.drew; simpa using q, by have q := HG0.out.r7.drew; simpa using q, by simpa using HG0.out.ne⟩ (by kernel_rfl) ?_ ?_
      · intro i v W1 W2 hb h
        match i, h with
        | 0, h => exact h
        | 1, h => exact h
        | 2, h => exact h
        | 3, h =>
          obtain ⟨gl, rfl, h1⟩ := h
          exact ⟨_, rfl, h1.1, hb.blk h1.2 (HNW.out _ h1.1)⟩
        | 4, h =>
          obtain ⟨v4, rfl, h1⟩ := h
          exact ⟨_, rfl, trivial⟩
        | 5, h => exact h
        | 6, h => exact h
        | 7, h =>
          obtain ⟨gm, rfl, h1⟩ := h
          exact ⟨_, rfl, h1.1, hb.blk h1.2 (HNW.out _ h1.1)⟩
        | 8, h =>
          obtain ⟨v4, rfl, h1⟩ := h
          exact ⟨_, rfl, trivial⟩
        | i + 9, h => trivial
      · refine ⟨?_, ?_, ?_, ?_, ?_, ?_, ?_, ?_, ?_, trivial⟩
        · -- 0
          intro li a1 W2 hA K hK
          have e6 := hA.par 6 (by kernel_rfl)
          have q1 := (hA.st.blk HB6.out (HZR.out _ _ _ HB6.out (by decide))).c1
          refine opStep (some l) 0 rfl rfl (fun c hc => by cases hc) ?_
          go_simp
          exact hK _ _ rfl MChg.refl (hA.ph.other (by decide) (by decide) (by decide) (by decide) (Below.refl _ _))
        · -- 1
          intro li a1 W2 hA K hK
          have e9 := hA.par 9 (by kernel_rfl)
          refine opStep (some l) 0 rfl rfl (fun c hc => by cases hc) ?_
          go_simp
          exact hK _ _ rfl MChg.refl (hA.ph.other (by decide) (by decide) (by decide) (by decide) (Below.refl _ _))
        · -- 2
          intro li a1 W2 hA K hK
          have e32 : a1.tmps.getD 32 undef = .pointer (some ⟨z, 2, none⟩) := hA.val 1 32 (by kernel_rfl) (by kernel_rfl)
          have hz5 := hA.st.blk HBZ.out (HZR.out _ _ _ HBZ.out (by decide))
          unfold stC at hz5
          obtain ⟨_, _, q1, _, _⟩ := hz5.c5
          refine opStep (some l) 0 rfl rfl (fun c hc => by cases hc) ?_
          go_simp
          exact hK _ _ rfl MChg.refl (hA.ph.other (by decide) (by decide) (by decide) (by decide) (Below.refl _ _))
        · -- 3
          intro li a1 W2 hA K hK
          have e33 : a1.tmps.getD 33 undef = .int .i64 s.wt := hA.val 2 33 (by kernel_rfl) (by kernel_rfl)
          have e33' := e33
          rw [Array.getD_eq_getD_getElem?] at e33'
          refine opStep (some l) 0 rfl rfl (fun c hc => by cases hc) ?_
          go_simp
          exact hK _ _ ⟨_, rfl, hA.st.size, Blk.new _ _ _⟩ (MChg.of_below (below_box _ _)) (hA.ph.other (by decide) (by decide) (by decide) (by decide) (below_box _ _))
        · -- 4
          intro li a1 W2 hA K hK
          have e31 : a1.tmps.getD 31 undef = v6 := hA.val 0 31 (by kernel_rfl) (by kernel_rfl)
          obtain ⟨gl, e34, h34⟩ := hA.val 3 34 (by kernel_rfl) (by kernel_rfl)
          have hr := hA.ph.r6
          rw [show li.getD 4 false = false from hA.new] at hr
          simp only [Bool.false_eq_true, if_false] at hr
          obtain ⟨v', w', hrun, ho', hg', _, hf'⟩ := run_append_own_at (P := Tryz.prog) W2 w2.heap.size 22 22 3 i0 (.int .i64 0) 1 8 Tryz.underlying22 HIN.out.1 HIN.out.2.1 HIN.out.2.2.1 HIN.out.2.2.2 rfl (by decide) v6 _ _ hr ⟨gl, 0, none⟩ 1 1 [.int .i64 s.wt] rfl (one_blk h34.2) (by intro u hu; simp at hu; subst hu; rfl) (by simp only [maxLen]; omega) (by omega) (by have := hA.st.size; have := HCH.out.size; omega)
          refine opValue (some l) 0 rfl rfl (fun c hc => by cases hc) (v := v') (W' := w') (by simp [execOp, resolve, invoke, builtin, Act.eval, e31, e34, hrun, Result.andThen]) ?_
          exact hK v' w' ⟨v', rfl, trivial⟩ (MChg.of_grown hg' (fun q e => .inl e.symm)) (hA.ph.step6 hA.new (by rw [hA.lsize]; decide) (by rw [hA.size]; show 35 < 63; decide) ho' hg' hf')
        · -- 5
          intro li a1 W2 hA K hK
          have e7 := hA.par 7 (by kernel_rfl)
          have q1 := (hA.st.blk HB7.out (HZR.out _ _ _ HB7.out (by decide))).c1
          refine opStep (some l) 0 rfl rfl (fun c hc => by cases hc) ?_
          go_simp
          exact hK _ _ rfl MChg.refl (hA.ph.other (by decide) (by decide) (by decide) (by decide) (Below.refl _ _))
        · -- 6
          intro li a1 W2 hA K hK
          have e8 := hA.par 8 (by kernel_rfl)
          refine opStep (some l) 0 rfl rfl (fun c hc => by cases hc) ?_
          go_simp
          exact hK _ _ rfl MChg.refl (hA.ph.other (by decide) (by decide) (by decide) (by decide) (Below.refl _ _))
        · -- 7
          intro li a1 W2 hA K hK
          have e37 : a1.tmps.getD 37 undef = .int .i64 (j : Int) := hA.val 6 37 (by kernel_rfl) (by kernel_rfl)
          have e37' := e37
          rw [Array.getD_eq_getD_getElem?] at e37'
          refine opStep (some l) 0 rfl rfl (fun c hc => by cases hc) ?_
          go_simp
          exact hK _ _ ⟨_, rfl, hA.st.size, Blk.new _ _ _⟩ (MChg.of_below (below_box _ _)) (hA.ph.other (by decide) (by decide) (by decide) (by decide) (below_box _ _))
        · -- 8
          intro li a1 W2 hA K hK
          have e36 : a1.tmps.getD 36 undef = v7 := hA.val 5 36 (by kernel_rfl) (by kernel_rfl)
          obtain ⟨gm, e38, h38⟩ := hA.val 7 38 (by kernel_rfl) (by kernel_rfl)
          have hr := hA.ph.r7
          rw [show li.getD 8 false = false from hA.new] at hr
          simp only [Bool.false_eq_true, if_false] at hr
          obtain ⟨v', w', hrun, ho', hg', _, hf'⟩ := run_append_own_at (P := Tryz.prog) W2 w2.heap.size 22 22 3 i0 (.int .i64 0) 1 8 Tryz.underlying22 HIN.out.1 HIN.out.2.1 HIN.out.2.2.1 HIN.out.2.2.2 rfl (by decide) v7 _ _ hr ⟨gm, 0, none⟩ 1 1 [.int .i64 (j : Int)] rfl (one_blk h38.2) (by intro u hu; simp at hu; subst hu; rfl) (by simp only [maxLen]; omega) (by omega) (by have := hA.st.size; have := HCH.out.size; omega)
          refine opValue (some l) 0 rfl rfl (fun c hc => by cases hc) (v := v') (W' := w') (by simp [execOp, resolve, invoke, builtin, Act.eval, e36, e38, hrun, Result.andThen]) ?_
          exact hK v' w' ⟨v', rfl, trivial⟩ (MChg.of_grown hg' (fun q e => .inr e.symm)) (hA.ph.step7 hA.new (by rw [hA.lsize]; decide) (by rw [hA.size]; show 39 < 63; decide) ho' hg' hf')
      · intro li a1 W2 hD
        have r6 := hD.ph.r6
        have r7 := hD.ph.r7
        have rne := hD.ph.ne
        rw [hD.all 4 (by decide)] at r6 rne
        rw [hD.all 8 (by decide)] at r7 rne
        simp only [if_true] at r6 r7 rne
        obtain ⟨y6, hy6⟩ : ∃ u, a1.tmps.getD 35 undef = u := ⟨_, rfl⟩
        obtain ⟨y7, hy7⟩ : ∃ u, a1.tmps.getD 39 undef = u := ⟨_, rfl⟩
        rw [hy6] at r6 rne
        rw [hy7] at r7 rne
        obtain ⟨g6, cap6, rfl⟩ := Go.ownsRow_succ r6
        obtain ⟨g7, cap7, rfl⟩ := Go.ownsRow_succ r7
        have e6 := hD.par 6 (by kernel_rfl)
        have e7 := hD.par 7 (by kernel_rfl)
        have hst := hD.st
        have h6 := hst.blk HB6.out (HZR.out _ _ _ HB6.out (by decide))
        have h7 := hst.blk HB7.out (HZR.out _ _ _ HB7.out (by decide))
        have HN67 := hid (show B6 ≠ B7 by have := HE.out; omega)
        have c6 := h6.c1
        have c7 := h7.c1
        have f6 := h6.frozen 0
        have f7 := h7.frozen 0
        have l6 := h6.lt
        have l7 := h7.lt
        have hkp := hD.keeps (ds := [31, 32, 33, 34, 35, 36, 37, 38, 39]) (by kernel_rfl)
        have hds := hD.size
        have hdd := hD.defers
        have HROW := hid (And.intro r6 (And.intro r7 (And.intro rne (And.intro h6 (And.intro h7 hst)))))
        clear r6 r7 rne h6 h7 hst
        refine tail_store (i := 9) (W' := W2.setCell ⟨B6, 0, none⟩ (.slice (some ⟨g6, 0, none⟩) ((wsTo m k j).length + 1) cap6)) (some l) 0 rfl rfl rfl (fun c hc => by cases hc) (by go_simp) ?_
        have c7' : (W2.setCell ⟨B6, 0, none⟩ (.slice (some ⟨g6, 0, none⟩) ((wsTo m k j).length + 1) cap6)).cell? ⟨B7, 0, none⟩ = some v7 := (HROW.out.2.2.2.2.1.far (p := ⟨B6, 0, none⟩) (fun e => HN67.out e.symm) _).c1
        clear c6 c7
        refine tail_store (i := 10) (W' := (W2.setCell ⟨B6, 0, none⟩ (.slice (some ⟨g6, 0, none⟩) ((wsTo m k j).length + 1) cap6)).setCell ⟨B7, 0, none⟩ (.slice (some ⟨g7, 0, none⟩) ((atTo m k j).length + 1) cap7)) (some l) 0 rfl rfl rfl (fun c hc => by cases hc) (by go_simp) ?_
        have e := act_mix [31, 32, 33, 34, 35, 36, 37, 38, 39] hds hdd (fun i _ hc => hkp i hc)
        generalize (fun i => a1.tmps.getD i undef) = g' at e
        refine wpListIn_nil ?_
        rw [e]
        clear e hD hkp e6 e7 hds hdd c7' f6 f7 l6 l7 hy6 hy7
        simp only [mix, List.contains_cons, List.contains_nil, Nat.reduceAdd, Nat.reduceBEq, Bool.or_false, Bool.or_true, cond_true, cond_false]
        obtain ⟨r6, r7, rne, h6, h7, hst⟩ := HROW.out
        have hc0 := HCH.out.rows hst (fun q e => (HZG.out q e).1)
        have k6 := h6.set_ 0 (.slice (some ⟨g6, 0, none⟩) ((wsTo m k j).length + 1) cap6)
        have k7 := h7.far (p := ⟨B6, 0, none⟩) (fun e => HN67.out e.symm) (.slice (some ⟨g6, 0, none⟩) ((wsTo m k j).length + 1) cap6)
        have s6 := row_set (i := 0) (row_set (i := 0) r6 h6 (by decide) (.slice (some ⟨g6, 0, none⟩) ((wsTo m k j).length + 1) cap6)) k7 (by decide) (.slice (some ⟨g7, 0, none⟩) ((atTo m k j).length + 1) cap7)
        have s7 := row_set (i := 0) (row_set (i := 0) r7 h6 (by decide) (.slice (some ⟨g6, 0, none⟩) ((wsTo m k j).length + 1) cap6)) k7 (by decide) (.slice (some ⟨g7, 0, none⟩) ((atTo m k j).length + 1) cap7)
        have HNX := hid (show IJ m k w2.heap.size B6 B7 w2 (j + 1) ((W2.setCell ⟨B6, 0, none⟩ (.slice (some ⟨g6, 0, none⟩) ((wsTo m k j).length + 1) cap6)).setCell ⟨B7, 0, none⟩ (.slice (some ⟨g7, 0, none⟩) ((atTo m k j).length + 1) cap7)) by
          refine ⟨_, _, k6.far (p := ⟨B7, 0, none⟩) HN67.out _, k7.set_ 0 _, ?_, ?_, rne, (hc0.set (.inl rfl) _).set (.inr rfl) _⟩
          · rw [HTK.out.2, List.length_append, List.map_append]; exact s6
          · rw [HTK.out.1, List.length_append, List.map_append]; exact s7)
        have HKF := hid (show KeepsFrom w2.heap.size W ((W2.setCell ⟨B6, 0, none⟩ (.slice (some ⟨g6, 0, none⟩) ((wsTo m k j).length + 1) cap6)).setCell ⟨B7, 0, none⟩ (.slice (some ⟨g7, 0, none⟩) ((atTo m k j).length + 1) cap7)) ∧ Keep (fun q => q = B6 ∨ q = B7 ∨ w2.heap.size ≤ q) W ((W2.setCell ⟨B6, 0, none⟩ (.slice (some ⟨g6, 0, none⟩) ((wsTo m k j).length + 1) cap6)).setCell ⟨B7, 0, none⟩ (.slice (some ⟨g7, 0, none⟩) ((atTo m k j).length + 1) cap7)) from
          ⟨(keepsFrom_chg hst (fun q e => (HZG.out q e).2)).trans ((KeepsFrom.of_set _ _).trans (KeepsFrom.of_set _ _)), (((hst.sub (fun q e => .inr (.inr (HZG.out q e).1))).set (.inl rfl) _).set (.inr (.inl rfl)) _).keep⟩)
        clear r6 r7 rne h6 h7 hst hc0 k6 k7 s6 s7 HROW
        gi_wp2
        exact ⟨HKF.out.1, HKF.out.2, HNX.out⟩
    case done =>
      rintro D W hDl ⟨v6, v7, hb6, hb7, hr6, hr7, hne, hch⟩ hdf
      have hbw : Below w.heap.size w W := HBW.out.trans (hch.below (fun q e => by have := HE.out; rcases e with e | e <;> omega) HBW.out.size)
      have hm2 := HR.out.2.2.2.below H2.out.2.2.2.2
      have hm3 := hm2.chg hch (fun D' hD' e => by
        rcases e with e | e
        · exact hm2.ne H6.out D' hD' e
        · exact hm2.ne H2.out.2.2.2.1 D' hD' e)
      have HM := hid (Marks.cons hm2 hm3 (by have := HBW.out.size; omega) hDl hdf)
      have HBM := hid (hch.blk (HR.out.2.2.1.keep H2.out.2.2.2.2) (fun e => by have := HE.out; rcases e with e | e <;> omega))
      have HBO := hid (hch.blk (HR.out.1.keep H2.out.2.2.2.2) (fun e => by have := HE.out; rcases e with e | e <;> omega))
      obtain ⟨A6, c6, hv6, p1, p2, p3, _, _⟩ := own_ints rfl hr6
      have hmm : ((atTo m k m.ss.length).map fun (i : Nat) => Value.int .i64 (i : Int)) = (((atTo m k m.ss.length).map fun (i : Nat) => (i : Int)).map (Value.int .i64)) := by rw [List.map_map]; rfl
      rw [hmm] at hr7
      obtain ⟨A7, c7, hv7, r1, r2, r3, r4, _⟩ := own_ints (by simp) hr7
      rw [List.length_map] at hv7 r1
      subst hv6 hv7
      have hde := OK.out.divE hlt
      rw [HX.out] at hde
      have KD := divide_any A6 c6 (wsTo m k m.ss.length) x W p3 p1 p2
      simp only [hde, ne_eq, not_true_eq_false, if_false] at KD
      unfold GivesDiv at KD
      have KD := hid KD
      have hln := (atTo_len m k m.ss.length).1
      have hln2 := (atTo_len m k m.ss.length).2
      have HLN := hid hln
      have y6 := hb6.c1
      have HW := hid hbw
      have HB7 := hid hb7
      have HA7 := hid (And.intro r3 (fun a e => (r4 a e).1))
      have HWS := hid (show w2.heap.size ≤ W.heap.size from hch.size)
      unfold maxLen at r2
      clear hbw hm2 hm3 hdf hb6 hb7 hr6 hr7 hne hch hmm p1 p2 p3 r3 r4 hde hln
      go_wp2_with fail
      refine KD.out.mono ?_
      rintro e w4 ⟨A5, c5, rfl, q1, q2, q3, q4, q5, hb5⟩
      have H4 := hid (And.intro (HW.out.trans (hb5.mono HW.out.size)) (And.intro (HM.out.below hb5) (And.intro (HBM.out.keep hb5) (And.intro (HBO.out.keep hb5) (HB7.out.keep hb5)))))
      have HI5 := hid (And.intro q1 q5)
      have HI7 := hid (And.intro (HA7.out.1.at_ hb5) HA7.out.2)
      have HS4 := hid hb5.size
      unfold maxLen at q3
      rw [show (wsTo m k m.ss.length).length = (atTo m k m.ss.length).length from HLN.out.symm] at q2 ⊢
      clear KD q1 q4 q5 hb5 y6
      go_wp2
      go_loopw [48] (fun i V => ∃ j : Nat, j ≤ (atTo m k m.ss.length).length ∧ i = .int .i64 j ∧ Blk V (w.heap.size + 1) 3 (intC (putTo (carTo m k) (atTo m k m.ss.length) (parts m k) j)) ∧ MChg (fun q => q = w.heap.size + 1) w4 V) (fun i _ => (atTo m k m.ss.length).length - (intOf i).toNat)
      case atStart => exact ⟨0, Nat.zero_le _, rfl, H4.out.2.2.2.1, MChg.refl⟩
      case round =>
        obtain ⟨j, hj, rfl, hbo, hcg⟩ := hrel
        have HBJ := hid (And.intro hbo hcg)
        by_cases hjl : j < (atTo m k m.ss.length).length
        · have hjI : (j : Int) < ((atTo m k m.ss.length).length : Int) := by omega
          obtain ⟨i, hi⟩ : ∃ i, (atTo m k m.ss.length)[j]? = some i := ⟨_, List.getElem?_eq_getElem hjl⟩
          obtain ⟨p, hp⟩ : ∃ p, (parts m k)[j]? = some p := ⟨_, List.getElem?_eq_getElem (by rw [parts_len]; exact hjl)⟩
          have hil := (atTo_mem.1 (List.mem_of_getElem? hi)).1
          have hiI : (i : Int) < (m.ss.length : Int) := by omega
          have hdp : (divOf (wsTo m k m.ss.length) x)[j]? = some p := by rw [← HX.out]; exact hp
          obtain ⟨a5, e5, g3, g4⟩ := HI5.out.1 j p hdp
          obtain ⟨a7, e7, g5, g6⟩ := HI7.out.1 j (i : Int) (by rw [List.getElem?_map, hi]; rfl)
          have n5 := HI5.out.2 a5 e5
          have n7 := HI7.out.2 a7 e7
          replace g4 := hcg.keep.cell g4 (by rw [block_of_add]; have := HE.out; have := HWS.out; omega)
          replace g6 := hcg.keep.cell g6 (by rw [block_of_add]; have := HE.out; omega)
          have y7 := (hcg.blk H4.out.2.2.2.2 (fun e => by have := HE.out; omega)).c1
          subst e5 e7
          obtain ⟨yv, hyv⟩ : ∃ yv, (putTo (carTo m k) (atTo m k m.ss.length) (parts m k) j)[i]? = some yv := ⟨_, List.getElem?_eq_getElem (by rw [putTo_len, carTo_len]; exact hil)⟩
          have yo := hbo.cell i
          rw [intC_get hyv] at yo
          have fo := hbo.frozen i
          have lo := hbo.lt
          have HNX := hid (show Blk (wr.setCell ⟨w.heap.size + 1, i, none⟩ (.int .i64 p)) (w.heap.size + 1) 3 (intC (putTo (carTo m k) (atTo m k m.ss.length) (parts m k) (j + 1))) ∧ MChg (fun q => q = w.heap.size + 1) w4 (wr.setCell ⟨w.heap.size + 1, i, none⟩ (.int .i64 p)) by
            refine ⟨?_, hcg.set rfl _⟩
            have := hbo.set_ i (.int .i64 p)
            rw [intC_set] at this
            rw [putTo, List.getD, hi, List.getD, hp]
            exact this)
          clear hbo hcg hi hp hdp n5 n7 g3 g5 hyv
          go_wp2
          go_roundw
          case rel => exact ⟨j + 1, by omega, by go_num, HNX.out⟩
          case measure => first | (simp [intOf]; done) | (simp [intOf]; omega)
        · have hjI : decide ((j : Int) < ((atTo m k m.ss.length).length : Int)) = false := by simp; omega
          obtain rfl : j = (atTo m k m.ss.length).length := by omega
          clear hbo hcg
          go_wp2
          refine ⟨⟨k + 1, D :: Ds, ?_⟩, ?measure⟩
          · (repeat apply Exists.intro)
            have hcg := HBJ.out.2
            exact ⟨⟨by omega, HBJ.out.1, H4.out.1.trans (hcg.below (n := w.heap.size) (fun q e => by omega) H4.out.1.size), hcg.blk H4.out.2.2.1 (fun e => by omega), H4.out.2.1.chg hcg (fun D' hD' e => H4.out.2.1.ne H4.out.2.2.2.1 D' hD' e)⟩, by go_num⟩
          case measure => first | (simp [intOf]; done) | (simp [intOf]; omega)
    case stop =>
      rintro D c W _ h _
      exact h.elim
  · have hkI : decide ((k : Int) < (m.old.length : Int)) = false := by simp; omega
    obtain rfl : k = m.old.length := by omega
    have HFB := hid (show Blk wr (w.heap.size + 1) 3 (intC (car m)) from hbo)
    clear hbo hbr hbm hmk
    go_wp2
    refine leaves_marks (B := w.heap.size) Ds _ HR.out.2.2.2 (fun W' hk hb => ?_)
    have hcl : (car m).length = m.ss.length := carTo_len m _
    have hbf := hk.blk HFB.out id
    refine ⟨.slice (some ⟨w.heap.size + 1, 0, none⟩) m.ss.length m.ss.length, results_tmp Tryz.results23 _ _ _, some ⟨w.heap.size + 1, 0, none⟩, m.ss.length, by rw [hcl], by rw [hcl]; exact Nat.le_refl _, by unfold maxLen; omega, fun i y hy => ⟨_, rfl, hbf.lt, ?_⟩, fun a e => ?_, (fun e => by cases e), HR.out.2.1.trans hb⟩
    · rw [add_blk, hbf.cell]; exact intC_get hy
    · injection e with e
      subst e
      exact ⟨Nat.le_succ _, _, hbf⟩
end Go.Proofs.YtlnamjhgbdacbaaGreat
/- Opening an argument that is a map. -/
namespace Go.Proofs.YtlnamjhgbdacbaaGreat
open Go.ChangeShapes Go.WideShapes Go.ChangeAt Go.RowKit Go.Deep Go.Joins

instance : Inhabited Stt := ⟨⟨0, 0, 0, 0, 0⟩⟩
instance : Inhabited Jn := ⟨⟨0, 0⟩⟩
section
variable {H : Type} {enc : TypeId × Value → H} {W : World} {n : Nat} {v : Value} {y : DataW H × List MemPlace}
set_option maxRecDepth 100000 in
theorem trod_ints (h : DataW.trod enc Tryz.prog W 0 (fun _ => true) true n 22 [v] = some y) :
    ∃ A c xs, v = .slice A (xs : List Int).length c ∧ IsInts W W.heap.size A xs ∧ xs.length ≤ c ∧ c ≤ maxLen ∧ (A = none → c = 0) := by
  rcases open_ints Tryz.underlying22 Tryz.underlying3 (by kernel_rfl) h with ⟨e, _⟩ | ⟨a, len, cap, zs, e, _, hl, hm, hz, _, hcell, _⟩
  · injection e with e
    subst e
    exact ⟨none, 0, [], rfl, (fun r xs hr => by simp at hr), Nat.le_refl 0, Nat.zero_le maxLen, fun _ => rfl⟩
  · injection e with e
    subst e
    simp only [if_true] at hz
    have hlt : (zs.take len).length = len := by rw [List.length_take]; omega
    refine ⟨some a, cap, zs.take len, by rw [hlt], fun i x hx => ?_, by omega, hm, fun e => by cases e⟩
    rw [List.getElem?_take] at hx
    split at hx
    · have hi := (List.getElem?_eq_some_iff.1 hx).1
      have hcl := hcell i hi
      rw [show zs.getD i 0 = x by simp [List.getD, hx]] at hcl
      exact ⟨a, rfl, by have := block_lt_of_cell hcl; rwa [block_of_add] at this, hcl⟩
    · cases hx
set_option maxRecDepth 100000 in
theorem trod_rng {cs : List Value} {x : DataW H × List MemPlace} (h : DataW.trod enc Tryz.prog W 0 (fun _ => true) true n 43 cs = some x) (hl : cs.length = 2) :
    ∃ lo hi : Int, cs = [.int .i64 lo, .int .i64 hi] := by
  obtain ⟨y0, y1, m, _, _, h0, h1⟩ := trod_struct2 Tryz.underlying43 h
  match cs, hl with
  | [c0, c1], _ =>
    have k : Tryz.prog.cellsOf 3 = 1 := by kernel_rfl
    simp only [k, List.drop_zero, List.drop_succ_cons, List.take_succ_cons, List.take_zero] at h0 h1
    obtain ⟨n0, e0, _, _⟩ := DataW.trod_int Tryz.underlying3 h0
    obtain ⟨n1, e1, _, _⟩ := DataW.trod_int Tryz.underlying3 h1
    injection e0 with e0
    injection e1 with e1
    subst e0 e1
    exact ⟨n0, n1, rfl⟩
set_option maxRecDepth 100000 in
theorem trod_stt {a : Addr} {cs : List Value} {x : DataW H × List MemPlace} (hc : W.cells? 0 a 5 = some cs) (h : DataW.trod enc Tryz.prog W 0 (fun _ => true) true n 45 cs = some x) :
    ∃ s : Stt, W.cell? a = some (.int .i64 s.o) ∧ W.cell? ⟨a.block, a.off + 1, none⟩ = some (.int .i64 s.n) ∧ W.cell? ⟨a.block, a.off + 2, none⟩ = some (.int .i64 s.wt) ∧ W.cell? ⟨a.block, a.off + 3, none⟩ = some (.int .i64 s.lo) ∧ W.cell? ⟨a.block, a.off + 4, none⟩ = some (.int .i64 s.hi) := by
  obtain ⟨y0, y1, y2, y3, m, _, hl, h0, h1, h2, h3⟩ := trod_struct4 Tryz.underlying45 h
  obtain ⟨_, hlen, hcell⟩ := World.cells?_some hc
  match cs, hlen with
  | [c0, c1, c2, c3, c4], _ =>
    have k : Tryz.prog.cellsOf 3 = 1 := by kernel_rfl
    have k2 : Tryz.prog.cellsOf 43 = 2 := by kernel_rfl
    simp only [k, k2, List.drop_zero, List.drop_succ_cons, List.take_succ_cons, List.take_zero] at h0 h1 h2 h3
    obtain ⟨n0, e0, _, _⟩ := DataW.trod_int Tryz.underlying3 h0
    obtain ⟨n1, e1, _, _⟩ := DataW.trod_int Tryz.underlying3 h1
    obtain ⟨n2, e2, _, _⟩ := DataW.trod_int Tryz.underlying3 h2
    obtain ⟨lo, hi, e3⟩ := trod_rng h3 rfl
    injection e0 with e0
    injection e1 with e1
    injection e2 with e2
    injection e3 with e3 e4
    injection e4 with e4
    subst e0 e1 e2 e3 e4
    refine ⟨⟨n0, n1, n2, lo, hi⟩, ?_, ?_, ?_, ?_, ?_⟩
    · have := hcell 0 (by omega); simpa [Addr.add] using this
    · have := hcell 1 (by omega); simpa [Addr.add] using this
    · have := hcell 2 (by omega); simpa [Addr.add] using this
    · have := hcell 3 (by omega); simpa [Addr.add] using this
    · have := hcell 4 (by omega); simpa [Addr.add] using this
set_option maxRecDepth 100000 in
theorem trod_jn {a : Addr} {cs : List Value} {x : DataW H × List MemPlace} (hc : W.cells? 0 a 2 = some cs) (h : DataW.trod enc Tryz.prog W 0 (fun _ => true) true n 84 cs = some x) :
    ∃ j : Jn, W.cell? a = some (.int .i64 j.a) ∧ W.cell? ⟨a.block, a.off + 1, none⟩ = some (.int .i64 j.b) := by
  obtain ⟨y0, y1, m, _, hl, h0, h1⟩ := trod_struct2 Tryz.underlying84 h
  obtain ⟨_, hlen, hcell⟩ := World.cells?_some hc
  match cs, hlen with
  | [c0, c1], _ =>
    have k : Tryz.prog.cellsOf 3 = 1 := by kernel_rfl
    simp only [k, List.drop_zero, List.drop_succ_cons, List.take_succ_cons, List.take_zero] at h0 h1
    obtain ⟨n0, e0, _, _⟩ := DataW.trod_int Tryz.underlying3 h0
    obtain ⟨n1, e1, _, _⟩ := DataW.trod_int Tryz.underlying3 h1
    injection e0 with e0
    injection e1 with e1
    subst e0 e1
    refine ⟨⟨n0, n1⟩, ?_, ?_⟩
    · have := hcell 0 (by omega); simpa [Addr.add] using this
    · have := hcell 1 (by omega); simpa [Addr.add] using this
set_option maxRecDepth 100000 in
theorem trod_stts (h : DataW.trod enc Tryz.prog W 0 (fun _ => true) true n 23 [v] = some y) :
    ∃ A c ss, v = .slice A (ss : List Stt).length c ∧ IsStts W W.heap.size A ss ∧ ss.length ≤ c ∧ c ≤ maxLen ∧ (A = none → c = 0) := by
  rcases open_slice Tryz.underlying23 h with ⟨e, _⟩ | ⟨a, len, cap, m, n', D, Pl, e, _, hl, hm, hmm, _, hr⟩
  · injection e with e
    subst e
    exact ⟨none, 0, [], rfl, (fun r xs hr => by simp at hr), Nat.le_refl 0, Nat.zero_le maxLen, fun _ => rfl⟩
  · injection e with e
    subst e
    simp only [if_true] at hmm
    have k : Tryz.prog.cellsOf 45 = 5 := by kernel_rfl
    obtain ⟨F, hF⟩ := choose_lt (α := Stt) (n := m) (p := fun i f => W.cell? (a.add (i * 5)) = some (.int .i64 f.o) ∧ W.cell? ⟨(a.add (i * 5)).block, (a.add (i * 5)).off + 1, none⟩ = some (.int .i64 f.n) ∧ W.cell? ⟨(a.add (i * 5)).block, (a.add (i * 5)).off + 2, none⟩ = some (.int .i64 f.wt) ∧ W.cell? ⟨(a.add (i * 5)).block, (a.add (i * 5)).off + 3, none⟩ = some (.int .i64 f.lo) ∧ W.cell? ⟨(a.add (i * 5)).block, (a.add (i * 5)).off + 4, none⟩ = some (.int .i64 f.hi)) (fun i hi => by
      obtain ⟨cs', h1, h2⟩ := hr i hi
      rw [k] at h1
      exact trod_stt h1 h2)
    refine ⟨some a, cap, (List.range len).map F, by simp, fun r f hx => ?_, by simpa using hl, hm, fun e => by cases e⟩
    rw [List.getElem?_map] at hx
    cases hrr : (List.range len)[r]? with
    | none => rw [hrr] at hx; cases hx
    | some r' =>
      obtain ⟨hrl, e⟩ := List.getElem?_eq_some_iff.1 hrr
      simp at hrl
      have : r' = r := by rw [← e]; simp
      subst this
      rw [hrr] at hx
      simp only [Option.map_some] at hx
      injection hx with hx
      subst hx
      obtain ⟨h0, h1, h2, h3, h4⟩ := hF r' (by omega)
      exact ⟨a, rfl, by have := block_lt_of_cell h0; rwa [block_of_add] at this, h0, h1, h2, h3, h4⟩
set_option maxRecDepth 100000 in
theorem trod_jns (h : DataW.trod enc Tryz.prog W 0 (fun _ => true) true n 24 [v] = some y) :
    ∃ A c js, v = .slice A (js : List Jn).length c ∧ IsJns W W.heap.size A js ∧ js.length ≤ c ∧ c ≤ maxLen ∧ (A = none → c = 0) := by
  rcases open_slice Tryz.underlying24 h with ⟨e, _⟩ | ⟨a, len, cap, m, n', D, Pl, e, _, hl, hm, hmm, _, hr⟩
  · injection e with e
    subst e
    exact ⟨none, 0, [], rfl, (fun r xs hr => by simp at hr), Nat.le_refl 0, Nat.zero_le maxLen, fun _ => rfl⟩
  · injection e with e
    subst e
    simp only [if_true] at hmm
    have k : Tryz.prog.cellsOf 84 = 2 := by kernel_rfl
    obtain ⟨F, hF⟩ := choose_lt (α := Jn) (n := m) (p := fun i f => W.cell? (a.add (i * 2)) = some (.int .i64 f.a) ∧ W.cell? ⟨(a.add (i * 2)).block, (a.add (i * 2)).off + 1, none⟩ = some (.int .i64 f.b)) (fun i hi => by
      obtain ⟨cs', h1, h2⟩ := hr i hi
      rw [k] at h1
      exact trod_jn h1 h2)
    refine ⟨some a, cap, (List.range len).map F, by simp, fun r f hx => ?_, by simpa using hl, hm, fun e => by cases e⟩
    rw [List.getElem?_map] at hx
    cases hrr : (List.range len)[r]? with
    | none => rw [hrr] at hx; cases hx
    | some r' =>
      obtain ⟨hrl, e⟩ := List.getElem?_eq_some_iff.1 hrr
      simp at hrl
      have : r' = r := by rw [← e]; simp
      subst this
      rw [hrr] at hx
      simp only [Option.map_some] at hx
      injection hx with hx
      subst hx
      obtain ⟨h0, h1⟩ := hF r' (by omega)
      exact ⟨a, rfl, by have := block_lt_of_cell h0; rwa [block_of_add] at this, h0, h1⟩
/-- a map's argument: its lists, and that a nil slice has no room -/
structure MArg (m : MapD) (A : Option Addr) (c : Nat) (A2 : Option Addr) (c2 : Nat) (A3 : Option Addr) (c3 : Nat) (w : World) : Prop extends MIn m A c A2 c2 A3 c3 w where
  z1 : A = none → c = 0
  z2 : A2 = none → c2 = 0
  z3 : A3 = none → c3 = 0
theorem MArg.at_ {m : MapD} {A : Option Addr} {c : Nat} {A2 : Option Addr} {c2 : Nat} {A3 : Option Addr} {c3 : Nat} {w w' : World} (h : MArg m A c A2 c2 A3 c3 w) (hb : Below w.heap.size w w') : MArg m A c A2 c2 A3 c3 w' := ⟨h.toMIn.at_ hb, h.z1, h.z2, h.z3⟩
set_option maxRecDepth 100000 in
/-- a map, as an argument -/
theorem open_map {r : Reach} {b0 : Nat} {d : DataW H} {ps : List MemPlace} (hval : Value.okWide Tryz.prog W r b0 26 v) (hd : DataW.Trod enc Tryz.prog W 0 (fun _ => true) true 26 v d ps) :
    ∃ (m : MapD) (A : Option Addr) (c : Nat) (A2 : Option Addr) (c2 : Nat) (A3 : Option Addr) (c3 : Nat), v = .agg #[.slice A m.old.length c, .int .i64 m.nw, .slice A2 m.ss.length c2, .slice A3 m.js.length c3] ∧ MArg m A c A2 c2 A3 c3 W := by
  obtain ⟨v0, v1, v2, v3, y0, y1, y2, y3, m, rfl, _, _, h0, h1, h2, h3⟩ := open_agg4 Tryz.underlying26 (by kernel_rfl) (by kernel_rfl) hval hd
  obtain ⟨A, c, xs, rfl, r1, r2, r3, r4⟩ := trod_ints h0
  obtain ⟨b, e0, _, _⟩ := DataW.trod_int Tryz.underlying3 h1
  injection e0 with e0
  subst e0
  obtain ⟨A2, c2, ss, rfl, s1, s2, s3, s4⟩ := trod_stts h2
  obtain ⟨A3, c3, js, rfl, f1, f2, f3, f4⟩ := trod_jns h3
  exact ⟨⟨xs, b, ss, js⟩, A, c, A2, c2, A3, c3, rfl, ⟨⟨r1, s1, f1, r2, r3, s2, s3, f2, f3⟩, r4, s4, f4⟩⟩
end
end Go.Proofs.YtlnamjhgbdacbaaGreat
/- A table without fixes has a rounding. -/
namespace Go.Proofs.YtlnamjhgbdacbaaGreat

def sm : Nat → (Nat → Int) → Int
  | 0, _ => 0
  | n + 1, f => sm n f + f n
theorem sm_congr {f g : Nat → Int} : ∀ {n : Nat}, (∀ i, i < n → f i = g i) → sm n f = sm n g
  | 0, _ => rfl
  | n + 1, h => by rw [sm, sm, sm_congr fun i hi => h i (by omega), h n (by omega)]
theorem sm_add (f g : Nat → Int) : ∀ n, sm n (fun i => f i + g i) = sm n f + sm n g
  | 0 => rfl
  | n + 1 => by simp only [sm, sm_add f g n]; omega
theorem sm_sub (f g : Nat → Int) : ∀ n, sm n (fun i => f i - g i) = sm n f - sm n g
  | 0 => rfl
  | n + 1 => by simp only [sm, sm_sub f g n]; omega
theorem sm_neg (f : Nat → Int) : ∀ n, sm n (fun i => - f i) = - sm n f
  | 0 => rfl
  | n + 1 => by simp only [sm, sm_neg f n]; omega
theorem sm_zero : ∀ n, sm n (fun _ => 0) = 0
  | 0 => rfl
  | n + 1 => by simp only [sm, sm_zero n]; rfl
theorem sm_nonneg {f : Nat → Int} : ∀ {n : Nat}, (∀ i, i < n → 0 ≤ f i) → 0 ≤ sm n f
  | 0, _ => Int.le_refl _
  | n + 1, h => by
    have := sm_nonneg (n := n) fun i hi => h i (by omega)
    have := h n (by omega)
    simp only [sm]; omega
theorem sm_le {f g : Nat → Int} : ∀ {n : Nat}, (∀ i, i < n → f i ≤ g i) → sm n f ≤ sm n g
  | 0, _ => Int.le_refl _
  | n + 1, h => by
    have := sm_le (n := n) fun i hi => h i (by omega)
    have := h n (by omega)
    simp only [sm]; omega
theorem sm_pos {f : Nat → Int} {n i : Nat} (h : ∀ i, i < n → 0 ≤ f i) (hi : i < n) (hp : 0 < f i) : 0 < sm n f := by
  induction n with
  | zero => omega
  | succ n ih =>
    simp only [sm]
    by_cases e : i = n
    · subst e
      have := sm_nonneg (n := i) fun k hk => h k (by omega)
      omega
    · have := ih (fun k hk => h k (by omega)) (by omega)
      have := h n (by omega)
      omega
theorem sm_comm (f : Nat → Nat → Int) (n : Nat) : ∀ m, sm n (fun i => sm m (f i)) = sm m fun j => sm n fun i => f i j
  | 0 => by simp only [sm]; exact sm_zero n
  | m + 1 => by
    simp only [sm]
    rw [sm_add, sm_comm f n m]
theorem sm_delta {c : Nat} : ∀ {n : Nat} (v : Int), sm n (fun j => if c = j then v else 0) = if c < n then v else 0
  | 0, v => by simp [sm]
  | n + 1, v => by
    simp only [sm, sm_delta (n := n) v]
    by_cases h : c = n
    · subst h; simp
    · rw [if_neg h]
      by_cases h2 : c < n
      · rw [if_pos h2, if_pos (by omega)]; omega
      · rw [if_neg h2, if_neg (by omega)]; rfl
theorem sm_tele (f : Nat → Int) : ∀ n, sm n (fun t => f t - f (t + 1)) = f 0 - f n
  | 0 => by simp [sm]
  | n + 1 => by simp only [sm, sm_tele f n]; omega
theorem sm_mod {b : Int} {f : Nat → Int} {j : Nat} : ∀ {n : Nat}, (∀ i, i < n → i ≠ j → f i % b = 0) → (sm n f - if j < n then f j else 0) % b = 0
  | 0, _ => by simp [sm]
  | n + 1, h => by
    have ih := sm_mod (n := n) (fun i hi hj => h i (by omega) hj)
    simp only [sm]
    by_cases e : j = n
    · subst e
      rw [if_neg (by omega)] at ih
      rw [if_pos (by omega)]
      rwa [show sm j f + f j - f j = sm j f - 0 by omega]
    · have hn := h n (by omega) (fun e' => e e'.symm)
      have h2 : (if j < n + 1 then f j else 0) = if j < n then f j else 0 := by
        by_cases h1 : j < n
        · rw [if_pos h1, if_pos (by omega)]
        · rw [if_neg h1, if_neg (by omega)]
      rw [h2, show sm n f + f n - (if j < n then f j else 0) = (sm n f - if j < n then f j else 0) + f n by omega]
      exact mult_add ih hn
/-- at most one of them is 1 -/
theorem sm_one {p : Nat → Bool} : ∀ {n : Nat}, (∀ s t, s < n → t < n → p s = true → p t = true → s = t) → 0 ≤ sm n (fun t => if p t then 1 else 0) ∧ sm n (fun t => if p t then 1 else 0) ≤ 1 ∧ (sm n (fun t => if p t then 1 else 0) ≠ 0 → ∃ t, t < n ∧ p t = true) ∧ (∀ t, t < n → p t = true → sm n (fun t => if p t then 1 else 0) = 1)
  | 0, _ => by simp [sm]
  | n + 1, h => by
    obtain ⟨h1, h2, h3, h4⟩ := sm_one (n := n) fun s t hs ht => h s t (by omega) (by omega)
    simp only [sm]
    cases hp : p n
    · simp only [Bool.false_eq_true, if_false, Int.add_zero]
      refine ⟨h1, h2, fun hne => ?_, fun t ht hpt => ?_⟩
      · obtain ⟨t, ht, hpt⟩ := h3 hne; exact ⟨t, by omega, hpt⟩
      · have : t ≠ n := fun e => by subst e; rw [hp] at hpt; cases hpt
        exact h4 t (by omega) hpt
    · have hz : sm n (fun t => if p t then 1 else 0) = 0 := by
        by_cases hne : sm n (fun t => if p t then 1 else 0) = 0
        · exact hne
        · obtain ⟨t, ht, hpt⟩ := h3 hne
          have := h t n (by omega) (by omega) hpt hp
          omega
      rw [hz]
      simp only [if_true]
      exact ⟨by omega, by omega, fun _ => ⟨n, by omega, hp⟩, fun _ _ _ => rfl⟩
theorem php : ∀ (K : Nat) (f : Nat → Nat), (∀ t, t ≤ K → f t < K) → ∃ q p, q < p ∧ p ≤ K ∧ f q = f p
  | 0, f, h => absurd (h 0 (Nat.le_refl _)) (by omega)
  | K + 1, f, h => by
    by_cases hx : ∃ q, q ≤ K ∧ f q = f (K + 1)
    · obtain ⟨q, hq, e⟩ := hx
      exact ⟨q, K + 1, by omega, Nat.le_refl _, e⟩
    · have hne : ∀ q, q ≤ K → f q ≠ f (K + 1) := fun q hq e => hx ⟨q, hq, e⟩
      have hK := h (K + 1) (Nat.le_refl _)
      obtain ⟨q, p, h1, h2, h3⟩ := php K (fun t => if f t = K then f (K + 1) else f t) (fun t ht => by
        have := h t (by omega)
        have := hne t ht
        show (if f t = K then f (K + 1) else f t) < K
        split
        · omega
        · omega)
      refine ⟨q, p, h1, by omega, ?_⟩
      have e1 := hne q (by omega)
      have e2 := hne p (by omega)
      have h3 : (if f q = K then f (K + 1) else f q) = (if f p = K then f (K + 1) else f p) := h3
      split at h3 <;> split at h3 <;> omega
/-- the first value that comes again -/
theorem first_again (K : Nat) (f : Nat → Nat) (h : ∀ t, f t < K) : ∃ q L, 0 < L ∧ f q = f (q + L) ∧ ∀ s t, s < L → t < L → f (q + s) = f (q + t) → s = t := by
  obtain ⟨q, p, h1, h2, h3⟩ := php K f fun t _ => h t
  -- a shortest stretch with equal ends
  have key : ∀ (L q : Nat), 0 < L → f q = f (q + L) → ∃ q L, 0 < L ∧ f q = f (q + L) ∧ ∀ s t, s < L → t < L → f (q + s) = f (q + t) → s = t := by
    intro L
    induction L using Nat.strongRecOn with
    | _ L ih =>
      intro q hL e
      by_cases hg : ∀ s t, s < L → t < L → f (q + s) = f (q + t) → s = t
      · exact ⟨q, L, hL, e, hg⟩
      · simp only [Classical.not_forall] at hg
        obtain ⟨s, t, hs, ht, he, hne⟩ := hg
        rcases Nat.lt_or_gt_of_ne hne with hlt | hlt
        · exact ih (t - s) (by omega) (q + s) (by omega) (by rw [show q + s + (t - s) = q + t by omega]; exact he)
        · exact ih (s - t) (by omega) (q + t) (by omega) (by rw [show q + t + (s - t) = q + s by omega]; exact he.symm)
  exact key (p - q) q (by omega) (by rw [show q + (p - q) = p by omega]; exact h3)

/-- a way round the loose cells: a change with no sums -/
theorem around {N K : Nat} {loose : Nat → Nat → Prop} (hb : ∀ i j, loose i j → i < N ∧ j < K) (HR : ∀ i j, loose i j → ∃ j', j' ≠ j ∧ loose i j') (HC : ∀ i j, loose i j → ∃ i', i' ≠ i ∧ loose i' j) {i0 j0 : Nat} (h0 : loose i0 j0) :
    ∃ D : Nat → Nat → Int, (∀ i j, -1 ≤ D i j ∧ D i j ≤ 1) ∧ (∀ i j, D i j ≠ 0 → loose i j) ∧ (∀ i, sm K (D i) = 0) ∧ (∀ j, sm N (fun i => D i j) = 0) ∧ ∃ i j, i < N ∧ j < K ∧ D i j ≠ 0 := by
  let step : {p : Nat × Nat // loose p.1 p.2} → {p : Nat × Nat // loose p.1 p.2} := fun p =>
    ⟨(Classical.choose (HC p.1.1 _ (Classical.choose_spec (HR p.1.1 p.1.2 p.2)).2), Classical.choose (HR p.1.1 p.1.2 p.2)), (Classical.choose_spec (HC p.1.1 _ (Classical.choose_spec (HR p.1.1 p.1.2 p.2)).2)).2⟩
  let seq : Nat → {p : Nat × Nat // loose p.1 p.2} := fun t => Nat.rec ⟨(i0, j0), h0⟩ (fun _ p => step p) t
  have hs : ∀ t, (seq (t + 1)).1.2 ≠ (seq t).1.2 ∧ loose (seq t).1.1 (seq (t + 1)).1.2 ∧ (seq (t + 1)).1.1 ≠ (seq t).1.1 := fun t =>
    ⟨(Classical.choose_spec (HR (seq t).1.1 (seq t).1.2 (seq t).2)).1, (Classical.choose_spec (HR (seq t).1.1 (seq t).1.2 (seq t).2)).2, (Classical.choose_spec (HC (seq t).1.1 _ (Classical.choose_spec (HR (seq t).1.1 (seq t).1.2 (seq t).2)).2)).1⟩
  have hl : ∀ t, loose (seq t).1.1 (seq t).1.2 := fun t => (seq t).2
  generalize hr : (fun t => (seq t).1.1) = r
  generalize hc : (fun t => (seq t).1.2) = c
  have er : ∀ t, (seq t).1.1 = r t := fun t => by rw [← hr]
  have ec : ∀ t, (seq t).1.2 = c t := fun t => by rw [← hc]
  simp only [er, ec] at hs hl
  obtain ⟨q, L, hL, hend, hinj⟩ := first_again K c fun t => (hb _ _ (hl t)).2
  have hL2 : 2 ≤ L := by
    rcases Nat.lt_or_ge L 2 with h | h
    · have : L = 1 := by omega
      subst this
      exact absurd hend.symm (hs q).1
    · exact h
  have hinj2 : ∀ s t, s < L → t < L → c (q + s + 1) = c (q + t + 1) → s = t := by
    intro s t hs' ht e
    by_cases h1 : s + 1 = L
    · by_cases h2 : t + 1 = L
      · omega
      · have e1 : c (q + s + 1) = c (q + 0) := by rw [show q + s + 1 = q + L by omega, ← hend]; rfl
        rw [e1] at e
        have := hinj 0 (t + 1) (by omega) (by omega) (by rw [e]; rfl)
        omega
    · by_cases h2 : t + 1 = L
      · have e1 : c (q + t + 1) = c (q + 0) := by rw [show q + t + 1 = q + L by omega, ← hend]; rfl
        rw [e1] at e
        have := hinj (s + 1) 0 (by omega) (by omega) (by rw [← e]; rfl)
        omega
      · have := hinj (s + 1) (t + 1) (by omega) (by omega) e
        omega
  let P : Nat → Nat → Int := fun i j => sm L fun t => if (decide (r (q + t) = i ∧ c (q + t) = j)) then 1 else 0
  let M : Nat → Nat → Int := fun i j => sm L fun t => if (decide (r (q + t) = i ∧ c (q + t + 1) = j)) then 1 else 0
  have hP : ∀ i j, _ := fun i j => sm_one (p := fun t => decide (r (q + t) = i ∧ c (q + t) = j)) (n := L) fun s t hs' ht h1 h2 => by
    have h1 := of_decide_eq_true h1
    have h2 := of_decide_eq_true h2
    exact hinj s t hs' ht (by rw [h1.2, h2.2])
  have hM : ∀ i j, _ := fun i j => sm_one (p := fun t => decide (r (q + t) = i ∧ c (q + t + 1) = j)) (n := L) fun s t hs' ht h1 h2 => by
    have h1 := of_decide_eq_true h1
    have h2 := of_decide_eq_true h2
    exact hinj2 s t hs' ht (by rw [h1.2, h2.2])
  refine ⟨fun i j => P i j - M i j, fun i j => ?_, fun i j hne => ?_, fun i => ?_, fun j => ?_, r (q + 1), c (q + 1), (hb _ _ (hl _)).1, (hb _ _ (hl _)).2, ?_⟩
  · have h1 := hP i j
    have h2 := hM i j
    show -1 ≤ P i j - M i j ∧ P i j - M i j ≤ 1
    have : 0 ≤ P i j ∧ P i j ≤ 1 := ⟨h1.1, h1.2.1⟩
    have : 0 ≤ M i j ∧ M i j ≤ 1 := ⟨h2.1, h2.2.1⟩
    omega
  · by_cases hp : P i j = 0
    · have hm : M i j ≠ 0 := fun e => hne (by show P i j - M i j = 0; omega)
      obtain ⟨t, ht, e⟩ := (hM i j).2.2.1 hm
      have e := of_decide_eq_true e
      rw [← e.1, ← e.2]
      exact (hs (q + t)).2.1
    · obtain ⟨t, ht, e⟩ := (hP i j).2.2.1 hp
      have e := of_decide_eq_true e
      rw [← e.1, ← e.2]
      exact hl (q + t)
  · show sm K (fun j => P i j - M i j) = 0
    rw [sm_sub]
    have e1 : sm K (fun j => P i j) = sm L fun t => if r (q + t) = i then 1 else 0 := by
      show sm K (fun j => sm L fun t => if (decide (r (q + t) = i ∧ c (q + t) = j)) then 1 else 0) = _
      rw [sm_comm]
      refine sm_congr fun t _ => ?_
      have hk := (hb _ _ (hl (q + t))).2
      by_cases e : r (q + t) = i
      · rw [if_pos e]
        have := sm_delta (c := c (q + t)) (n := K) 1
        rw [if_pos hk] at this
        exact Eq.trans (sm_congr fun j _ => by simp [e]) this
      · rw [if_neg e]
        exact Eq.trans (sm_congr fun j _ => by simp [e]) (sm_zero K)
    have e2 : sm K (fun j => M i j) = sm L fun t => if r (q + t) = i then 1 else 0 := by
      show sm K (fun j => sm L fun t => if (decide (r (q + t) = i ∧ c (q + t + 1) = j)) then 1 else 0) = _
      rw [sm_comm]
      refine sm_congr fun t _ => ?_
      have hk := (hb _ _ (hl (q + t + 1))).2
      by_cases e : r (q + t) = i
      · rw [if_pos e]
        have := sm_delta (c := c (q + t + 1)) (n := K) 1
        rw [if_pos hk] at this
        exact Eq.trans (sm_congr fun j _ => by simp [e]) this
      · rw [if_neg e]
        exact Eq.trans (sm_congr fun j _ => by simp [e]) (sm_zero K)
    rw [e1, e2]; omega
  · show sm N (fun i => P i j - M i j) = 0
    rw [sm_sub]
    have e1 : sm N (fun i => P i j) = sm L fun t => if c (q + t) = j then 1 else 0 := by
      show sm N (fun i => sm L fun t => if (decide (r (q + t) = i ∧ c (q + t) = j)) then 1 else 0) = _
      rw [sm_comm]
      refine sm_congr fun t _ => ?_
      have hk := (hb _ _ (hl (q + t))).1
      by_cases e : c (q + t) = j
      · rw [if_pos e]
        have := sm_delta (c := r (q + t)) (n := N) 1
        rw [if_pos hk] at this
        exact Eq.trans (sm_congr fun i _ => by simp [e]) this
      · rw [if_neg e]
        exact Eq.trans (sm_congr fun i _ => by simp [e]) (sm_zero N)
    have e2 : sm N (fun i => M i j) = sm L fun t => if c (q + t + 1) = j then 1 else 0 := by
      show sm N (fun i => sm L fun t => if (decide (r (q + t) = i ∧ c (q + t + 1) = j)) then 1 else 0) = _
      rw [sm_comm]
      refine sm_congr fun t _ => ?_
      have hk := (hb _ _ (hl (q + t))).1
      by_cases e : c (q + t + 1) = j
      · rw [if_pos e]
        have := sm_delta (c := r (q + t)) (n := N) 1
        rw [if_pos hk] at this
        exact Eq.trans (sm_congr fun i _ => by simp [e]) this
      · rw [if_neg e]
        exact Eq.trans (sm_congr fun i _ => by simp [e]) (sm_zero N)
    rw [e1, e2, ← sm_sub]
    have := sm_tele (fun t => if c (q + t) = j then (1 : Int) else 0) L
    refine Eq.trans (sm_congr fun t _ => ?_) (this.trans ?_)
    · rw [show q + (t + 1) = q + t + 1 by omega]
    · show (if c (q + 0) = j then (1 : Int) else 0) - (if c (q + L) = j then 1 else 0) = 0
      rw [← hend]; simp
  · show P (r (q + 1)) (c (q + 1)) - M (r (q + 1)) (c (q + 1)) ≠ 0
    have h1 : P (r (q + 1)) (c (q + 1)) = 1 := (hP _ _).2.2.2 1 (by omega) (by simp)
    have h2 : M (r (q + 1)) (c (q + 1)) = 0 := by
      by_cases hm : M (r (q + 1)) (c (q + 1)) = 0
      · exact hm
      · obtain ⟨t, ht, e⟩ := (hM _ _).2.2.1 hm
        have e := of_decide_eq_true e
        have : t = 0 := hinj2 t 0 ht (by omega) e.2
        subst this
        exact absurd e.1.symm (hs q).2.2
    rw [h1, h2]; decide
end Go.Proofs.YtlnamjhgbdacbaaGreat
/- A table without fixes has a rounding: the cells are pushed to their neighbours. -/
namespace Go.Proofs.YtlnamjhgbdacbaaGreat

def sq (N K : Nat) (T : Nat → Nat → Int) : Int := sm N fun i => sm K fun j => T i j * T i j
theorem sm_const (v : Int) : ∀ n, sm n (fun _ => v) = n * v
  | 0 => by simp [sm]
  | n + 1 => by simp only [sm, sm_const v n]; rw [Int.natCast_add, Int.add_mul]; simp
theorem sq_two (N K : Nat) (T D : Nat → Nat → Int) : sq N K (fun i j => T i j + D i j) + sq N K (fun i j => T i j - D i j) = (sq N K T + sq N K T) + (sq N K D + sq N K D) := by
  unfold sq
  rw [← sm_add, ← sm_add, ← sm_add, ← sm_add]
  refine sm_congr fun i _ => ?_
  rw [← sm_add, ← sm_add, ← sm_add, ← sm_add]
  refine sm_congr fun j _ => ?_
  have := Int.mul_comm (D i j) (T i j)
  simp only [Int.add_mul, Int.mul_add, Int.sub_mul, Int.mul_sub]
  omega
theorem sq_le {N K : Nat} {T : Nat → Nat → Int} {C : Int} (h : ∀ i j, i < N → j < K → -C ≤ T i j ∧ T i j ≤ C) : sq N K T ≤ N * (K * (C * C)) := by
  unfold sq
  rw [← sm_const (K * (C * C)) N, ← sm_const (C * C) K]
  refine sm_le fun i hi => sm_le fun j hj => ?_
  have h1 := h i j hi hj
  have := Int.mul_nonneg (show 0 ≤ C - T i j by omega) (show 0 ≤ C + T i j by omega)
  have e := Int.mul_comm C (T i j)
  simp only [Int.sub_mul, Int.mul_add] at this
  omega
theorem sq_pos {N K : Nat} {D : Nat → Nat → Int} {i j : Nat} (hi : i < N) (hj : j < K) (hd : ∀ i j, -1 ≤ D i j ∧ D i j ≤ 1) (h : D i j ≠ 0) : 0 < sq N K D := by
  have hn : ∀ i j, 0 ≤ D i j * D i j := fun i j => by
    have := hd i j
    have : D i j = -1 ∨ D i j = 0 ∨ D i j = 1 := by omega
    rcases this with e | e | e <;> rw [e] <;> decide
  refine sm_pos (fun i _ => sm_nonneg fun j _ => hn i j) hi (sm_pos (fun j _ => hn i j) hj ?_)
  have := hd i j
  have : D i j = -1 ∨ D i j = 1 := by omega
  rcases this with e | e <;> rw [e] <;> decide
/-- what is asked of bounds -/
structure Bds (N K : Nat) (b C : Int) (lo hi : Nat → Nat → Int) : Prop where
  b0 : 0 < b
  l : ∀ i j, lo i j % b = 0
  h : ∀ i j, hi i j % b = 0
  le : ∀ i j, hi i j ≤ lo i j + b
  c1 : ∀ i j, i < N → j < K → -C ≤ lo i j
  c2 : ∀ i j, i < N → j < K → hi i j ≤ C
theorem lone {b : Int} {n j : Nat} {f : Nat → Int} (hj : j < n) (hs : sm n f = 0) (ho : ∀ i, i < n → i ≠ j → f i % b = 0) : f j % b = 0 := by
  have := sm_mod ho
  rw [hs, if_pos hj] at this
  have e : f j = 0 - (0 - f j) := by omega
  rw [e, Int.sub_emod, this]
  simp
theorem push {N K : Nat} {b C : Int} {lo hi : Nat → Nat → Int} (B : Bds N K b C lo hi) : ∀ (fuel : Nat) (T : Nat → Nat → Int), (N * (K * (C * C)) - sq N K T).toNat ≤ fuel → (∀ i j, i < N → j < K → lo i j ≤ T i j ∧ T i j ≤ hi i j) → (∀ i, i < N → sm K (T i) = 0) → (∀ j, j < K → sm N (fun i => T i j) = 0) →
    ∃ X : Nat → Nat → Int, (∀ i j, i < N → j < K → X i j = lo i j ∨ X i j = hi i j) ∧ (∀ i, i < N → sm K (X i) = 0) ∧ (∀ j, j < K → sm N (fun i => X i j) = 0) := by
  intro fuel
  induction fuel with
  | zero =>
    intro T hf hT hr hc
    -- nothing is left to gain: no cell is loose
    exact push_step B T hT hr hc fun T' hT' _ _ hlt => by
      have := sq_le (C := C) (T := T') fun i j hi1 hj1 => by
        have := hT' i j hi1 hj1
        have := B.c1 i j hi1 hj1
        have := B.c2 i j hi1 hj1
        omega
      omega
  | succ fuel ih =>
    intro T hf hT hr hc
    exact push_step B T hT hr hc fun T' hT' hr' hc' hlt => ih T' (by omega) hT' hr' hc'
where
  push_step {N K : Nat} {b C : Int} {lo hi : Nat → Nat → Int} (B : Bds N K b C lo hi) (T : Nat → Nat → Int) (hT : ∀ i j, i < N → j < K → lo i j ≤ T i j ∧ T i j ≤ hi i j) (hr : ∀ i, i < N → sm K (T i) = 0) (hc : ∀ j, j < K → sm N (fun i => T i j) = 0)
      (next : ∀ T' : Nat → Nat → Int, (∀ i j, i < N → j < K → lo i j ≤ T' i j ∧ T' i j ≤ hi i j) → (∀ i, i < N → sm K (T' i) = 0) → (∀ j, j < K → sm N (fun i => T' i j) = 0) → sq N K T < sq N K T' →
        ∃ X : Nat → Nat → Int, (∀ i j, i < N → j < K → X i j = lo i j ∨ X i j = hi i j) ∧ (∀ i, i < N → sm K (X i) = 0) ∧ (∀ j, j < K → sm N (fun i => X i j) = 0)) :
      ∃ X : Nat → Nat → Int, (∀ i j, i < N → j < K → X i j = lo i j ∨ X i j = hi i j) ∧ (∀ i, i < N → sm K (X i) = 0) ∧ (∀ j, j < K → sm N (fun i => X i j) = 0) := by
    let loose : Nat → Nat → Prop := fun i j => i < N ∧ j < K ∧ lo i j < T i j ∧ T i j < hi i j
    have hmul : ∀ i j, i < N → j < K → ¬ loose i j → T i j % b = 0 := fun i j h1 h2 h3 => by
      have h4 := hT i j h1 h2
      have : T i j = lo i j ∨ T i j = hi i j := by
        by_cases e : T i j = lo i j
        · exact .inl e
        · right
          by_cases e2 : T i j = hi i j
          · exact e2
          · exact absurd ⟨h1, h2, by omega, by omega⟩ h3
      rcases this with e | e <;> rw [e]
      · exact B.l i j
      · exact B.h i j
    have hno : ∀ i j, loose i j → T i j % b ≠ 0 := fun i j h e => by
      obtain ⟨h1, h2, h3, h4⟩ := h
      have h5 := B.le i j
      have : (T i j - lo i j) % b = 0 := by rw [Int.sub_emod, e, B.l i j]; simp
      rw [Int.emod_eq_of_lt (by omega) (by omega)] at this
      omega
    by_cases hl : ∃ i j, loose i j
    · obtain ⟨i0, j0, h0⟩ := hl
      obtain ⟨D, d1, d2, d3, d4, i, j, hi1, hj1, hne⟩ := around (N := N) (K := K) (loose := loose) (fun i j h => ⟨h.1, h.2.1⟩) (fun i j h => by
        refine Classical.byContradiction fun hn => hno i j h (lone h.2.1 (hr i h.1) fun j' hj' hne => hmul i j' h.1 hj' fun hl => hn ⟨j', hne, hl⟩)) (fun i j h => by
        refine Classical.byContradiction fun hn => hno i j h (lone (f := fun i => T i j) h.1 (hc j h.2.1) fun i' hi' hne => hmul i' j hi' h.2.1 fun hl => hn ⟨i', hne, hl⟩)) h0
      have hp := sq_pos hi1 hj1 d1 hne
      have ht := sq_two N K T D
      have hok : ∀ i j, i < N → j < K → lo i j ≤ T i j + D i j ∧ T i j + D i j ≤ hi i j ∧ lo i j ≤ T i j - D i j ∧ T i j - D i j ≤ hi i j := fun i j h1 h2 => by
        have h3 := hT i j h1 h2
        have h4 := d1 i j
        by_cases e : D i j = 0
        · rw [e]; omega
        · have := (d2 i j e).2.2; omega
      by_cases hgt : sq N K T < sq N K (fun i j => T i j + D i j)
      · refine next _ (fun i j h1 h2 => ⟨(hok i j h1 h2).1, (hok i j h1 h2).2.1⟩) (fun i h1 => ?_) (fun j h1 => ?_) hgt
        · rw [sm_add, hr i h1]; have := d3 i; simp only [Int.zero_add]; exact this
        · rw [sm_add (fun i => T i j) (fun i => D i j), hc j h1, d4 j]; rfl
      · refine next (fun i j => T i j - D i j) (fun i j h1 h2 => ⟨(hok i j h1 h2).2.2.1, (hok i j h1 h2).2.2.2⟩) (fun i h1 => ?_) (fun j h1 => ?_) (by omega)
        · rw [sm_sub, hr i h1]; have := d3 i; simp only [Int.zero_sub]; rw [show sm K (fun i_1 => D i i_1) = 0 from this]; rfl
        · rw [sm_sub (fun i => T i j) (fun i => D i j), hc j h1, d4 j]; rfl
    · refine ⟨T, fun i j h1 h2 => ?_, hr, hc⟩
      have h3 := hT i j h1 h2
      by_cases e : T i j = lo i j
      · exact .inl e
      · right
        by_cases e2 : T i j = hi i j
        · exact e2
        · exact absurd ⟨i, j, h1, h2, by omega, by omega⟩ hl
end Go.Proofs.YtlnamjhgbdacbaaGreat
/- A table without fixes has a rounding: the table itself. -/
namespace Go.Proofs.YtlnamjhgbdacbaaGreat

theorem range_sm (f : Nat → Int) : ∀ n, ((List.range n).map f).sum = sm n f
  | 0 => rfl
  | n + 1 => by rw [List.range_succ, List.map_append, List.sum_append, range_sm f n]; simp [sm]
theorem sum_sm (xs : List Int) : ∀ k, k ≤ xs.length → (xs.take k).sum = sm k fun j => xs.getD j 0
  | 0, _ => rfl
  | k + 1, h => by
    rw [List.take_succ_eq_append_getElem (by omega), List.sum_append, sum_sm xs k (by omega)]
    simp [sm, List.getD, List.getElem?_eq_getElem (show k < xs.length by omega)]
theorem low_le {b x : Int} (hb : 2 ≤ b) : lowOf b x ≤ x ∧ x ≤ highOf b x ∧ highOf b x ≤ lowOf b x + b := by
  have h1 := Int.emod_nonneg x (show b ≠ 0 by omega)
  have h2 := Int.emod_nonneg (x + b - 1) (show b ≠ 0 by omega)
  have h3 := Int.emod_lt_of_pos (x + b - 1) (show 0 < b by omega)
  have h4 := Int.emod_lt_of_pos x (show 0 < b by omega)
  have e1 : lowOf b x = x - x % b := rfl
  have e2 : highOf b x = x + b - 1 - (x + b - 1) % b := rfl
  have m1 := (low_near (x := x) hb).1
  have m2 := (high_near (x := x) hb).1
  have : (highOf b x - lowOf b x) % b = 0 := by rw [Int.sub_emod, m1, m2]; simp
  obtain ⟨q, hq⟩ := Int.dvd_of_emod_eq_zero this
  have hq2 : q < 2 := by
    refine Int.lt_of_mul_lt_mul_left (a := b) ?_ (by omega)
    omega
  have := Int.mul_le_mul_of_nonneg_left (show q ≤ 1 by omega) (show 0 ≤ b by omega)
  omega
theorem near_of {b x y : Int} (h : y = lowOf b x ∨ y = highOf b x) : nearB b y x = true := by
  unfold nearB
  rcases h with rfl | rfl <;> simp
theorem near_neg {b s X : Int} (hb : 2 ≤ b) (h : X = lowOf b (-s) ∨ X = highOf b (-s)) : nearB b (-X) s = true := by
  rw [near_nbr hb]
  unfold nbrM
  have : X % b = 0 ∧ 1 - b ≤ X - -s ∧ X - -s ≤ b - 1 := by
    rcases h with rfl | rfl
    · exact low_near hb
    · exact high_near hb
  obtain ⟨h1, h2, h3⟩ := this
  simp only [Bool.and_eq_true, beq_iff_eq, decide_eq_true_eq]
  exact ⟨Int.emod_eq_zero_of_dvd ((Int.dvd_neg).2 (Int.dvd_of_emod_eq_zero h1)), by omega, by omega⟩
def cellA (cs : List (List Int)) (i j : Nat) : Int := (cs.getD i []).getD j 0
def extE (cs : List (List Int)) (n m i j : Nat) : Int :=
  if i < n then (if j < m then cellA cs i j else - sm m (cellA cs i)) else if j < m then - sm n (fun i => cellA cs i j) else sm n fun i => sm m (cellA cs i)
theorem plain_rounding {b : Int} {cs : List (List Int)} (ok : TOk b cs []) : ∃ x, IsR b cs [] x := by
  have hb := ok.okc.b1
  have hb2 := ok.okc.b2
  have hn5 := ok.okc.n2
  have hm4 := ok.okc.c2
  obtain ⟨n, hn⟩ : ∃ n, n = cs.length := ⟨_, rfl⟩
  obtain ⟨m, hm⟩ : ∃ m, m = colsOf cs := ⟨_, rfl⟩
  have hA : ∀ i j, 0 ≤ cellA cs i j ∧ cellA cs i j ≤ 10000 := fun i j => by
    have := (bounds_at (l := cs) (fun r hr x hx => by have := ok.okc.cell r hr x hx; omega) (fun r hr => by rw [ok.okc.row r hr]; exact hm4) i).1 j
    refine ⟨this.1, ?_⟩
    unfold cellA
    rw [List.getD, List.getD]
    cases h1 : cs[i]? with
    | none => simp
    | some r =>
      simp only [Option.getD_some]
      cases h2 : r[j]? with
      | none => simp
      | some v => simp only [Option.getD_some]; exact (ok.okc.cell r (List.mem_of_getElem? h1) v (List.mem_of_getElem? h2)).2
  have hrow : ∀ i, 0 ≤ sm m (cellA cs i) ∧ sm m (cellA cs i) ≤ 40000 := fun i => by
    refine ⟨sm_nonneg fun j _ => (hA i j).1, ?_⟩
    have := sm_le (n := m) (f := cellA cs i) (g := fun _ => 10000) fun j _ => (hA i j).2
    rw [sm_const] at this
    omega
  have hcol : ∀ j, 0 ≤ sm n (fun i => cellA cs i j) ∧ sm n (fun i => cellA cs i j) ≤ 50000 := fun j => by
    refine ⟨sm_nonneg fun i _ => (hA i j).1, ?_⟩
    have := sm_le (n := n) (f := fun i => cellA cs i j) (g := fun _ => 10000) fun i _ => (hA i j).2
    rw [sm_const] at this
    omega
  have htot : 0 ≤ sm n (fun i => sm m (cellA cs i)) ∧ sm n (fun i => sm m (cellA cs i)) ≤ 200000 := by
    refine ⟨sm_nonneg fun i _ => (hrow i).1, ?_⟩
    have := sm_le (n := n) (f := fun i => sm m (cellA cs i)) (g := fun _ => 40000) fun i _ => (hrow i).2
    rw [sm_const] at this
    omega
  have hE : ∀ i j, -200000 ≤ extE cs n m i j ∧ extE cs n m i j ≤ 200000 := fun i j => by
    have := hA i j; have := hrow i; have := hcol j
    unfold extE
    split <;> split <;> omega
  have B : Bds (n + 1) (m + 1) b 1000000 (fun i j => lowOf b (extE cs n m i j)) (fun i j => highOf b (extE cs n m i j)) :=
    ⟨by omega, fun i j => (low_near hb).1, fun i j => (high_near hb).1, fun i j => (low_le hb).2.2, fun i j _ _ => by
      have := (low_near (x := extE cs n m i j) hb).2; have := hE i j; omega, fun i j _ _ => by
      have := (high_near (x := extE cs n m i j) hb).2; have := hE i j; omega⟩
  obtain ⟨X, x1, x2, x3⟩ := push B _ (extE cs n m) (Nat.le_refl _) (fun i j _ _ => ⟨(low_le hb).1, (low_le hb).2.1⟩) (fun i hi => by
    simp only [sm]
    by_cases h : i < n
    · rw [sm_congr (g := cellA cs i) fun j hj => by unfold extE; rw [if_pos h, if_pos hj]]
      unfold extE
      rw [if_pos h, if_neg (by omega)]; omega
    · rw [sm_congr (g := fun j => - sm n fun i => cellA cs i j) fun j hj => by unfold extE; rw [if_neg h, if_pos hj], sm_neg, ← sm_comm (cellA cs) n m]
      unfold extE
      rw [if_neg h, if_neg (by omega)]; omega) (fun j hj => by
    simp only [sm]
    by_cases h : j < m
    · rw [sm_congr (g := fun i => cellA cs i j) fun i hi => by unfold extE; rw [if_pos hi, if_pos h]]
      unfold extE
      rw [if_neg (by omega), if_pos h]; omega
    · rw [sm_congr (g := fun i => - sm m (cellA cs i)) fun i hi => by unfold extE; rw [if_pos hi, if_neg h], sm_neg]
      unfold extE
      rw [if_neg (by omega), if_neg h]; omega)
  -- the table
  have hx : ∀ i, i < n → ((List.range n).map fun i => (List.range m).map (X i)).getD i [] = (List.range m).map (X i) := fun i hi => by
    rw [List.getD, List.getElem?_map, List.getElem?_range hi]; rfl
  have hrs : ∀ i, i < n → sm m (X i) = - X i m := fun i hi => by
    have := x2 i (by omega)
    simp only [sm] at this
    omega
  have hcs : ∀ j, j ≤ m → sm n (fun i => X i j) = - X n j := fun j hj => by
    have := x3 j (by omega)
    simp only [sm] at this
    omega
  have hA2 : ∀ i cells, cs[i]? = some cells → cells.length = m ∧ (∀ j, cells.getD j 0 = cellA cs i j) ∧ cells.sum = sm m (cellA cs i) := fun i cells hc => by
    have hl := ok.okc.row cells (List.mem_of_getElem? hc)
    have he : ∀ j, cells.getD j 0 = cellA cs i j := fun j => by unfold cellA; rw [show cs.getD i [] = cells by rw [List.getD, hc]; rfl]
    refine ⟨by omega, he, ?_⟩
    have := sum_sm cells cells.length (Nat.le_refl _)
    rw [List.take_length] at this
    rw [this, hl, ← hm]
    exact sm_congr fun j _ => he j
  refine ⟨(List.range n).map fun i => (List.range m).map (X i), ⟨by simp [hn], fun i cells l hc hl => ?_, ?_⟩⟩
  · have hi : i < n := by rw [hn]; exact (List.getElem?_eq_some_iff.1 hc).1
    rw [List.getElem?_map, List.getElem?_range hi] at hl
    injection hl with hl
    subst hl
    obtain ⟨g1, g2, g3⟩ := hA2 i cells hc
    refine ⟨cands_mem.2 ⟨by simp [g1], fun j x y hx hy => ?_⟩, ?_⟩
    · have hj : j < m := by have := (List.getElem?_eq_some_iff.1 hx).1; omega
      rw [List.getElem?_map, List.getElem?_range hj] at hy
      injection hy with hy
      subst hy
      have e : extE cs n m i j = x := by
        unfold extE
        rw [if_pos hi, if_pos hj, ← g2 j, List.getD, hx]; rfl
      have := x1 i j (by omega) (by omega)
      rw [e] at this
      exact near_of this
    · unfold testB
      rw [Bool.and_eq_true]
      refine ⟨?_, by simp [holdsB]⟩
      rw [range_sm, g3, hrs i hi]
      refine near_neg hb ?_
      have := x1 i m (by omega) (by omega)
      have e : extE cs n m i m = - sm m (cellA cs i) := by unfold extE; rw [if_pos hi, if_neg (by omega)]
      rwa [e] at this
  · rw [closes_all ok.okc.row (fun r hr => by
      obtain ⟨i, _, rfl⟩ := List.mem_map.1 hr
      simp [hm]) hm4, Bool.and_eq_true, List.all_eq_true]
    have hxl : ((List.range n).map fun i => (List.range m).map (X i)).length = n := by simp
    have hcsum : ∀ i, (cs.getD i []).sum = sm m (cellA cs i) ∨ ¬ i < n := fun i => by
      by_cases hi : i < n
      · left
        have hc := List.getElem?_eq_getElem (l := cs) (i := i) (by omega)
        rw [List.getD, hc]
        exact (hA2 i _ hc).2.2
      · right; exact hi
    refine ⟨fun j hj => ?_, ?_⟩
    · have hj := List.mem_range.1 hj
      rw [← hm] at hj
      have e1 : colTo ((List.range n).map fun i => (List.range m).map (X i)) ((List.range n).map fun i => (List.range m).map (X i)).length j = - X n j := by
        unfold colTo
        rw [hxl, range_sm, ← hcs j (by omega)]
        refine sm_congr fun i hi => ?_
        rw [hx i hi, List.getD, List.getElem?_map, List.getElem?_range hj]; rfl
      have e2 : colTo cs cs.length j = sm n fun i => cellA cs i j := by
        unfold colTo
        rw [range_sm, ← hn]; rfl
      rw [e1, e2]
      refine near_neg hb ?_
      have := x1 n j (by omega) (by omega)
      have e : extE cs n m n j = - sm n (fun i => cellA cs i j) := by unfold extE; rw [if_neg (by omega), if_pos hj]
      rwa [e] at this
    · have e1 : totTo ((List.range n).map fun i => (List.range m).map (X i)) ((List.range n).map fun i => (List.range m).map (X i)).length = X n m := by
        unfold totTo
        rw [hxl, range_sm]
        have := hcs m (Nat.le_refl _)
        rw [sm_congr (g := fun i => - X i m) fun i hi => by rw [hx i hi, range_sm, hrs i hi], sm_neg, this]
        omega
      have e2 : totTo cs cs.length = sm n fun i => sm m (cellA cs i) := by
        unfold totTo
        rw [range_sm, ← hn]
        exact sm_congr fun i hi => (hcsum i).resolve_right (fun h => h hi)
      rw [e1, e2]
      refine near_of ?_
      have := x1 n m (by omega) (by omega)
      have e : extE cs n m n m = sm n fun i => sm m (cellA cs i) := by unfold extE; rw [if_neg (by omega), if_neg (by omega)]
      rwa [e] at this
end Go.Proofs.YtlnamjhgbdacbaaGreat
/- Bounds of the carried counts; sums by the districts of borders. Conditions stand at each theorem. -/
namespace Go.Proofs.YtlnamjhgbdacbaaGreat

theorem parts_bounds {m : MapD} (ok : OkM m) {d : Nat} (hd : d < m.old.length) : ∀ x ∈ parts m d, 0 ≤ x ∧ x ≤ 10000 := by
  obtain ⟨dok, hne, _, _⟩ := div_ok (ok.divE hd)
  have hn : ∀ y ∈ parts m d, 0 ≤ y := by
    intro y hy
    obtain ⟨i, hi⟩ := List.mem_iff_getElem?.1 hy
    have hl : i < (wsTo m d m.ss.length).length := by
      have := (List.getElem?_eq_some_iff.1 hi).1
      unfold parts at this
      rwa [div_len] at this
    obtain ⟨x, hx⟩ : ∃ x, (wsTo m d m.ss.length)[i]? = some x := ⟨_, List.getElem?_eq_getElem hl⟩
    obtain ⟨h1, h2⟩ := div_near dok hne hx hi
    have h3 := dok.s0
    have h4 := (wsTo_mem (fun i hi => by have := ok.sAt hi; omega) (Nat.le_refl _) x (List.mem_of_getElem? hx)).1
    have h5 := (ok.atB hd).1
    have h6 : 0 ≤ m.at_ d * x := Int.mul_nonneg h5 h4
    rcases Int.lt_or_le y 0 with hy0 | hy0
    · exfalso
      have h7 : y * (wsTo m d m.ss.length).sum ≤ (-1) * (wsTo m d m.ss.length).sum := Int.mul_le_mul_of_nonneg_right (by omega) (by omega)
      omega
    · exact hy0
  intro x hx
  refine ⟨hn x hx, ?_⟩
  have h1 := sum_ge (parts m d) hn x hx
  have h2 : (parts m d).sum = m.at_ d := div_sum dok hne
  have h3 := (ok.atB hd).2
  omega
theorem putTo_mem {out : List Int} {at_ : List Nat} {ps : List Int} {P : Int → Prop} (ho : ∀ x ∈ out, P x) (hp : ∀ x ∈ ps, P x) : ∀ j, j ≤ ps.length → ∀ x ∈ putTo out at_ ps j, P x
  | 0, _, x, hx => ho x hx
  | j + 1, hj, x, hx => by
    rw [putTo] at hx
    rcases List.mem_or_eq_of_mem_set hx with h | h
    · exact putTo_mem ho hp j (by omega) x h
    · subst h
      rw [List.getD, List.getElem?_eq_getElem (by omega)]
      exact hp _ (List.getElem_mem _)
theorem carTo_bounds {m : MapD} (ok : OkM m) : ∀ d, d ≤ m.old.length → ∀ x ∈ carTo m d, 0 ≤ x ∧ x ≤ 10000
  | 0, _, x, hx => by
    rw [carTo] at hx
    obtain ⟨_, rfl⟩ := List.mem_replicate.1 hx
    omega
  | d + 1, hd, x, hx => by
    rw [carTo] at hx
    exact putTo_mem (carTo_bounds ok d (by omega)) (parts_bounds ok (by omega)) _ (by rw [parts_len]; exact Nat.le_refl _) x hx
theorem car_bounds {m : MapD} (ok : OkM m) : ∀ x ∈ car m, 0 ≤ x ∧ x ≤ 10000 := carTo_bounds ok _ (Nat.le_refl _)
theorem car_len (m : MapD) : (car m).length = m.ss.length := carTo_len m _
/-- the sums of the first k numbers by districts -/
def smTo (nw : Nat) (l : Nat → Int) (xs : List Int) : Nat → List Int
  | 0 => List.replicate nw 0
  | k + 1 => (smTo nw l xs k).set (l k).toNat ((smTo nw l xs k).getD (l k).toNat 0 + xs.getD k 0)
theorem smTo_len (nw : Nat) (l : Nat → Int) (xs : List Int) : ∀ k, (smTo nw l xs k).length = nw
  | 0 => by simp [smTo]
  | k + 1 => by rw [smTo, List.length_set, smTo_len nw l xs k]
theorem smTo_bounds {nw : Nat} {l : Nat → Int} {xs : List Int} {M : Int} (hM : 0 ≤ M) (hx : ∀ x ∈ xs, 0 ≤ x ∧ x ≤ M) : ∀ k, ∀ x ∈ smTo nw l xs k, 0 ≤ x ∧ x ≤ k * M
  | 0, x, h => by
    rw [smTo] at h
    obtain ⟨_, rfl⟩ := List.mem_replicate.1 h
    simp
  | k + 1, x, h => by
    have ih := smTo_bounds hM hx (nw := nw) (l := l) k
    have e : ((k + 1 : Nat) : Int) * M = k * M + M := by rw [Int.natCast_add, Int.add_mul]; simp
    have hg : 0 ≤ xs.getD k 0 ∧ xs.getD k 0 ≤ M := by
      by_cases hk : k < xs.length
      · rw [List.getD, List.getElem?_eq_getElem hk]
        exact hx _ (List.getElem_mem hk)
      · rw [List.getD, List.getElem?_eq_none (by omega)]
        exact ⟨Int.le_refl _, hM⟩
    have hkm : 0 ≤ (k : Int) * M := Int.mul_nonneg (by omega) hM
    rw [smTo] at h
    rcases List.mem_or_eq_of_mem_set h with h | h
    · have := ih x h
      omega
    · have hq : 0 ≤ (smTo nw l xs k).getD (l k).toNat 0 ∧ (smTo nw l xs k).getD (l k).toNat 0 ≤ k * M := by
        by_cases hq : (l k).toNat < (smTo nw l xs k).length
        · rw [List.getD, List.getElem?_eq_getElem hq]
          exact ih _ (List.getElem_mem hq)
        · rw [List.getD, List.getElem?_eq_none (by omega)]
          exact ⟨Int.le_refl _, hkm⟩
      omega
/-- sums of numbers of streets by the districts of borders -/
def smD (m : MapD) (l : Nat → Int) (xs : List Int) : List Int := smTo m.nw.toNat l xs xs.length
end Go.Proofs.YtlnamjhgbdacbaaGreat
