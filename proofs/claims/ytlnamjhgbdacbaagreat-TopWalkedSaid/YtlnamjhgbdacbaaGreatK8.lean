/- The walks and the plain laws of this part of the program, part 8: what each computes. Conditions stand at each theorem. -/
import Derived.Deep.Cut
import Derived.Handy
import Derived.DeepKeys3
import Derived.Test.YtlnamjhgbdacbaaGreatK3
import Derived.Test.YtlnamjhgbdacbaaGreatK4
import Derived.Test.YtlnamjhgbdacbaaGreatK7
/- The atlas of a map without fault: the quickest ways to each goal. Conditions stand at each theorem. -/
namespace Go.Proofs.YtlnamjhgbdacbaaGreat
open Go.RowKit Go.Shelf

attribute [local go_sem] Oper.semAt_some
theorem act_is {a : Act} {n : Nat} (hs : a.tmps.size = n) : a = { tmps := ((List.range n).map fun i => a.tmps.getD i undef).toArray, defers := a.defers } := by
  obtain ⟨t, d⟩ := a
  simp only at hs
  congr 1
  apply Array.ext
  · simp [hs]
  · intro i h1 h2
    simp [Array.getD, h1]
theorem zero_cells : Tryz.zeroCells127 = #[.slice none 0 0, .slice none 0 0] ++ Array.replicate 128 (.int .i64 0) ++ #[.map none] := by kernel_rfl
theorem zero_at (u v x : Value) {i : Nat} (h1 : 2 ≤ i) (h2 : i < 130) : (((Tryz.zeroCells127.setIfInBounds 0 u).setIfInBounds 1 v).setIfInBounds 130 x)[i]? = some (.int .i64 0) := by
  rw [Array.getElem?_setIfInBounds_ne (by omega), Array.getElem?_setIfInBounds_ne (by omega), Array.getElem?_setIfInBounds_ne (by omega), zero_cells]
  rw [Array.getElem?_append_left (by simp; omega), Array.getElem?_append_right (by simp; omega)]
  rw [Array.getElem?_replicate, if_pos (by simp; omega)]

/-- where the goal's own cells are written -/
structure PhG (w : World) (m : WMD) (A : Option Addr) (c : Nat) (A2 : Option Addr) (c2 : Nat) (T F : Nat → Nat → Int) (y G : Nat) (Ds : List Nat) (li : Array Bool) (W : World) : Prop where
  at_ : AS w w.heap.size m A c A2 c2 (if li.getD 11 false = true then upd2 T G G 0 else T) F W
  gs : GS y G (fun _ => false) W
  mk_ : Marks (w.heap.size + 4) Ds W
section
variable {w : World} {m : WMD} {A : Option Addr} {c : Nat} {A2 : Option Addr} {c2 : Nat} {T F : Nat → Nat → Int} {y G i : Nat} {Ds : List Nat} {li : Array Bool} {W : World}
theorem PhG.other (h : PhG w m A c A2 c2 T F y G Ds li W) (hi : i ≠ 11) : PhG w m A c A2 c2 T F y G Ds (li.setIfInBounds i true) W := ⟨by rw [getD_set_oth hi]; exact h.at_, h.gs, h.mk_⟩
theorem PhG.sto (h : PhG w m A c A2 c2 T F y G Ds li W) (hl : 11 < li.size) (hn : li.getD 11 false = false) (hG : G < 8) (hy : w.heap.size + 2 ≠ y ∧ w.heap.size + 2 ≠ y + 1) : PhG w m A c A2 c2 T F y G Ds (li.setIfInBounds 11 true) (W.setCell ⟨w.heap.size + 2, 2 + G * 8 + G, none⟩ (.int .i64 0)) := by
  have h1 := h.at_
  rw [hn, if_neg (by decide)] at h1
  exact ⟨by rw [getD_set_eq hl, if_pos rfl]; exact h1.setT hG hG 0, h.gs.far (p := ⟨w.heap.size + 2, 2 + G * 8 + G, none⟩) hy.1 hy.2 _, h.mk_.keep (KeepsFrom.of_set _ _)⟩
theorem PhG.done (h : PhG w m A c A2 c2 T F y G Ds li W) (hl : li.getD 11 false = true) : AS w w.heap.size m A c A2 c2 (upd2 T G G 0) F W ∧ GS y G (fun _ => false) W ∧ Marks (w.heap.size + 4) Ds W := by
  have h1 := h.at_
  rw [if_pos hl] at h1
  exact ⟨h1, h.gs, h.mk_⟩
end
/-- within a round of the loop over the neighbours -/
structure PhB (w : World) (m : WMD) (A : Option Addr) (c : Nat) (A2 : Option Addr) (c2 : Nat) (T F : Nat → Nat → Int) (y G z p : Nat) (Wr W : World) : Prop where
  at_ : AS w w.heap.size m A c A2 c2 T F W
  bg : Blk W y 3 #[.int .i64 (G : Int)]
  bz : Blk W z 3 #[.int .i64 (p : Int)]
  cr : MChg (fun q => q = w.heap.size + 2) Wr W
structure WPhC (w : World) (m : WMD) (A : Option Addr) (c : Nat) (A2 : Option Addr) (c2 : Nat) (T F : Nat → Nat → Int) (y G z p o : Nat) (v : Int) (Wr : World) (li : Array Bool) (W : World) : Prop where
  at_ : AS w w.heap.size m A c A2 c2 (if li.getD 12 false = true then upd2 T o G v else T) F W
  bg : Blk W y 3 #[.int .i64 (G : Int)]
  bz : Blk W z 3 #[.int .i64 (p : Int)]
  cr : MChg (fun q => q = w.heap.size + 2) Wr W
section
variable {w : World} {m : WMD} {A : Option Addr} {c : Nat} {A2 : Option Addr} {c2 : Nat} {T F : Nat → Nat → Int} {y G z p o i : Nat} {v : Int} {Wr W : World} {li : Array Bool}
theorem MChg.from_ {Z : Nat → Prop} {B : Nat} {W W' : World} (h : MChg Z W W') (hz : ∀ q, Z q → q < B) : KeepsFrom B W W' := ⟨h.size, fun k _ hk hc _ => (h.block k (Array.getElem?_eq_some_iff.1 hc).1 (fun e => by have := hz k e; omega)).trans hc⟩
theorem drew_chg {Z : Nat → Prop} (W : World) : MChg Z W W.drew := MChg.of_below ⟨rfl, rfl, rfl, Nat.le_refl _, fun _ _ => rfl⟩
theorem PhB.drew (h : PhB w m A c A2 c2 T F y G z p Wr W) : PhB w m A c A2 c2 T F y G z p Wr W.drew := ⟨h.at_.drew, h.bg.drew, h.bz.drew, h.cr.trans (drew_chg W)⟩
theorem WPhC.start (h : PhB w m A c A2 c2 T F y G z p Wr W) : WPhC w m A c A2 c2 T F y G z p o v Wr (Array.replicate 18 false) W := ⟨by rw [getD_replicate_false, if_neg (by decide)]; exact h.at_, h.bg, h.bz, h.cr⟩
theorem WPhC.other (h : WPhC w m A c A2 c2 T F y G z p o v Wr li W) (hi : i ≠ 12) : WPhC w m A c A2 c2 T F y G z p o v Wr (li.setIfInBounds i true) W := ⟨by rw [getD_set_oth hi]; exact h.at_, h.bg, h.bz, h.cr⟩
theorem WPhC.sto (h : WPhC w m A c A2 c2 T F y G z p o v Wr li W) (hl : 12 < li.size) (hn : li.getD 12 false = false) (ho : o < 8) (hG : G < 8) (hy : y ≠ w.heap.size + 2 ∧ z ≠ w.heap.size + 2) : WPhC w m A c A2 c2 T F y G z p o v Wr (li.setIfInBounds 12 true) (W.setCell ⟨w.heap.size + 2, 2 + o * 8 + G, none⟩ (.int .i64 v)) := by
  have h1 := h.at_
  rw [hn, if_neg (by decide)] at h1
  exact ⟨by rw [getD_set_eq hl, if_pos rfl]; exact h1.setT ho hG v, h.bg.far (p := ⟨w.heap.size + 2, 2 + o * 8 + G, none⟩) hy.1 _, h.bz.far (p := ⟨w.heap.size + 2, 2 + o * 8 + G, none⟩) hy.2 _, h.cr.set rfl _⟩
theorem WPhC.done (h : WPhC w m A c A2 c2 T F y G z p o v Wr li W) (hl : li.getD 12 false = true) : AS w w.heap.size m A c A2 c2 (upd2 T o G v) F W ∧ MChg (fun q => q = w.heap.size + 2) Wr W := by
  have h1 := h.at_
  rw [if_pos hl] at h1
  exact ⟨h1, h.cr⟩
end
set_option maxRecDepth 100000 in
set_option maxHeartbeats 8000000 in
theorem watlas_any (m : WMD) (A : Option Addr) (c : Nat) (A2 : Option Addr) (c2 : Nat) (w : World) (h : WIn m A c A2 c2 w) (ok : OkW m) : Calls Tryz.prog 43 #[.agg #[.slice A m.work.length c, .slice A2 m.roads.length c2]] w fun e w' => e = .returned (.pointer (some ⟨w.heap.size + 2, 0, none⟩)) ∧ ∃ T F, AS w w.heap.size m A c A2 c2 T F w' ∧ PreD m m.work.length T F := by
  have hB := below_box (w := w) #[.slice A m.work.length c, .slice A2 m.roads.length c2] 65
  have hT := Blk.new w 65 #[.slice A m.work.length c, .slice A2 m.roads.length c2]
  obtain ⟨t0, t1⟩ := hT.c2
  have hw8 := ok.w8
  have hw1 := ok.w1
  have HB := hid hB
  have HT := hid hT
  have HH := hid h
  have OK := hid ok
  clear hB hT h ok
  refine callsOf (ro := none) (n := 0) ?_
  refine callsIn_of_wp_marks Tryz.func43 rfl trivial ?_ rfl
  refine wpIn_wide.2 ?_
  simp only [Tryz.ntmps43, List.size_toArray, List.length_cons, List.length_nil, Nat.reduceAdd, Nat.reduceSub, Array.replicate_succ, Array.replicate_zero, List.push_toArray, List.append_toArray, List.nil_append, List.cons_append]
  have hmm := @run_makeMap Tryz.prog
  go_upto_region 2 with (fail)
  clear t0 t1 hmm
  refine gen (p := Code.wp _ _ _ _) (fun W => AS w w.heap.size m A c A2 c2 (fun _ _ => 0) (fun _ _ => 0) W) ⟨((HB.out.alloc HB.out.size _).alloc (by simp; omega) _).alloc (by simp; omega) _, ((HT.out.alloc _).alloc _).alloc _, ?_, ⟨_, (by rw [show w.heap.size + 2 = (((w.alloc (.cells #[.slice A m.work.length c, .slice A2 m.roads.length c2] 65)).alloc (.map #[] 0))).heap.size by simp]; exact (Blk.new _ _ _).alloc _), rfl, rfl, rfl, rfl, fun a b ha hb => ⟨zero_at _ _ _ (by omega) (by omega), zero_at _ _ _ (by omega) (by omega)⟩⟩, ?_⟩ ?_
  · exact (Below.heap_alloc _ _ _ (by simp)).trans ((Below.heap_alloc _ _ _ (by simp)).trans (by have := World.alloc_heap_new (w.alloc (.cells #[.slice A m.work.length c, .slice A2 m.roads.length c2] 65)) (.map #[] 0); rwa [World.size_alloc] at this))
  · exact blk_three _ _
  rintro W1 h1
  have H1 := hid h1
  obtain ⟨t0, t1⟩ := h1.bm.c2
  clear h1 HB HT
  go_wp2
  clear t0 t1
  refine wp_loop (fun a W => ∃ (G : Nat) (Ds : List Nat), (G ≤ m.work.length ∧ (∃ T F, AS w w.heap.size m A c A2 c2 T F W ∧ PreD m G T F) ∧ Marks (w.heap.size + 4) Ds W) ∧ a.tmps.size = 137 ∧ a.defers = Ds.map mkD ∧ a.tmps.getD 0 undef = .agg #[.slice A m.work.length c, .slice A2 m.roads.length c2] ∧ a.tmps.getD 1 undef = .pointer (some ⟨w.heap.size, 0, none⟩) ∧ a.tmps.getD 3 undef = .pointer (some ⟨w.heap.size + 3, 0, none⟩) ∧ a.tmps.getD 18 undef = .int .i64 (m.work.length : Int) ∧ a.tmps.getD 19 undef = .int .i64 (G : Int)) (fun a _ => m.work.length - (intOf (a.tmps.getD 19 undef)).toNat) ?_ ?_
  · exact ⟨0, [], ⟨Nat.zero_le _, ⟨_, _, H1.out, fun g hg => absurd hg (Nat.not_lt_zero _)⟩, Marks.nil _ _⟩, rfl, rfl, rfl, rfl, rfl, rfl, rfl⟩
  clear H1
  rintro a wr ⟨G, Ds, ⟨hG, ⟨T, F, hAS, hPre⟩, hmk⟩, hs, hd, f0, f1, f3, f18, f19⟩
  have ea := act_is hs
  rw [hd] at ea
  have g0 : (fun i => a.tmps.getD i undef) 0 = _ := f0
  have g1 : (fun i => a.tmps.getD i undef) 1 = _ := f1
  have g3 : (fun i => a.tmps.getD i undef) 3 = _ := f3
  have g18 : (fun i => a.tmps.getD i undef) 18 = _ := f18
  have g19 : (fun i => a.tmps.getD i undef) 19 = _ := f19
  generalize (fun i => a.tmps.getD i undef) = u at ea g0 g1 g3 g18 g19
  rw [ea]
  clear ea hs hd f0 f1 f3 f18 f19
  simp only [List.range, List.range.loop, List.map_cons, List.map_nil, g0, g1, g3, g18, g19]
  clear g0 g1 g3 g18 g19
  have HR := hid (And.intro hAS (And.intro hPre hmk))
  obtain ⟨t0, t1⟩ := hAS.bm.c2
  have hsz := hAS.size
  clear hAS hPre hmk
  by_cases hlt : G < m.work.length
  · have hGI : (G : Int) < (m.work.length : Int) := by omega
    have hG8 : G < 8 := by omega
    have hG8I : (G : Int) < 8 := by omega
    obtain ⟨y, hy⟩ : ∃ y, wr.heap.size = y := ⟨_, rfl⟩
    go_upto_region 6 with (fail)
    refine gen (p := Code.wp _ _ _ _) (fun W => AS w w.heap.size m A c A2 c2 T F W ∧ GS y G (fun _ => false) W ∧ Marks (w.heap.size + 4) Ds W) ⟨HR.out.1.keep (((Below.refl _ _).alloc (Nat.le_refl _) _).alloc (by simp) _), ⟨by rw [← hy]; exact (Blk.new _ _ _).alloc _, by have h := Blk.new (wr.alloc (.cells #[.int .i64 (G : Int)] 3)) 162 (flagC fun _ => false); rw [World.size_alloc, hy] at h; exact h⟩, HR.out.2.2.below (((Below.refl _ _).alloc (Nat.le_refl _) _).alloc (by simp) _)⟩ ?_
    rw [hy] at hsz
    have HPre := hid HR.out.2.1
    clear t0 t1 HR
    rintro W2 ⟨h1, h2, h3⟩
    clear hy
    have H2 := hid (And.intro h1 (And.intro h2 h3))
    obtain ⟨t0, t1⟩ := h1.bm.c2
    clear h1 h2 h3
    go_wp2
    clear t0 t1
    go_loopw [25] (fun i W => ∃ k : Nat, k ≤ m.work.length ∧ i = .int .i64 k ∧ ∃ T F, AS w w.heap.size m A c A2 c2 T F W ∧ PreD m G T F ∧ GS y G (fun _ => false) W ∧ Marks (w.heap.size + 4) Ds W ∧ ∀ a, a < k → T a G = farI) (fun i _ => m.work.length - (intOf i).toNat)
    case atStart => exact ⟨0, Nat.zero_le _, rfl, T, F, H2.out.1, HPre.out, H2.out.2.1, H2.out.2.2, fun a ha => absurd ha (Nat.not_lt_zero _)⟩
    case round =>
      clear H2 HPre
      obtain ⟨k, hk, rfl, T, F, hAS, hPre, hGS, hMk, hfar⟩ := hrel
      have HR := hid (And.intro hAS (And.intro hPre (And.intro hGS (And.intro hMk hfar))))
      have x0 := hAS.pa.c1
      have g0 := hGS.bg.c1
      have al := hAS.at_.lt
      obtain ⟨t0, t1⟩ := hAS.bm.c2
      by_cases hlk : k < m.work.length
      · have hkI : (k : Int) < (m.work.length : Int) := by omega
        have hk8 : k < 8 := by omega
        have hk8I : (k : Int) < 8 := by omega
        have af := hAS.at_.froz (2 + k * 8 + G)
        have a0 := hAS.at_.time hk8 hG8
        have HNX := hid (show ∃ T F, AS w w.heap.size m A c A2 c2 T F (wr.setCell ⟨w.heap.size + 2, 2 + k * 8 + G, none⟩ (.int .i64 1048576)).drew ∧ PreD m G T F ∧ GS y G (fun _ => false) (wr.setCell ⟨w.heap.size + 2, 2 + k * 8 + G, none⟩ (.int .i64 1048576)).drew ∧ Marks (w.heap.size + 4) Ds (wr.setCell ⟨w.heap.size + 2, 2 + k * 8 + G, none⟩ (.int .i64 1048576)).drew ∧ ∀ a, a < k + 1 → T a G = farI from
          ⟨upd2 T k G 1048576, F, (HR.out.1.setT hk8 hG8 _).drew, HR.out.2.1.updT k _, (HR.out.2.2.1.far (p := ⟨w.heap.size + 2, 2 + k * 8 + G, none⟩) (by show w.heap.size + 2 ≠ y; omega) (by show w.heap.size + 2 ≠ y + 1; omega) _).drew, (HR.out.2.2.2.1.keep (KeepsFrom.of_set _ _)).below ⟨rfl, rfl, rfl, Nat.le_refl _, fun _ _ => rfl⟩, fun a ha => by
            unfold upd2
            by_cases e : a = k
            · rw [if_pos ⟨e, rfl⟩]; rfl
            · rw [if_neg (fun h => e h.1)]; exact HR.out.2.2.2.2 a (by omega)⟩)
        clear hAS hPre hGS hMk hfar
        go_upto_region 9 with (fail)
        go_region
        clear HR x0 g0 al t0 t1 af a0
        go_wp2
        go_roundw
        case rel => exact ⟨k + 1, by omega, by go_num, HNX.out⟩
        case measure => first | (simp [intOf]; done) | (simp [intOf]; omega)
      · have hkI : decide ((k : Int) < (m.work.length : Int)) = false := decide_eq_false (by omega)
        obtain rfl : k = m.work.length := by omega
        clear hAS hPre hGS hMk hfar
        go_upto_region 11 with (fail)
        clear x0 g0 al t0 t1
        have HY := hid (show w.heap.size + 2 ≠ y ∧ w.heap.size + 2 ≠ y + 1 by omega)
        have HG0 := hid (show PhG w m A c A2 c2 T F y G Ds (Array.replicate 17 false) wr.drew from ⟨by rw [getD_replicate_false, if_neg (by decide)]; exact HR.out.1.drew, HR.out.2.2.1.drew, HR.out.2.2.2.1.below ⟨rfl, rfl, rfl, Nat.le_refl _, fun _ _ => rfl⟩⟩)
        refine (wpIn_wide (n := 0)).1 ?_
        refine wpIn_region_each2 16 (fun i v W' => match i with | 0 => v = .pointer (some ⟨w.heap.size + 2, 0, none⟩) | 1 => v = .int .i64 (G : Int) | 2 => v = .int .i64 (G : Int) | 3 => v = .pointer (some ⟨w.heap.size + 2, 0, none⟩) | 4 => v = .int .i64 (G : Int) | 5 => v = .int .i64 (G : Int) | 6 => v = .int .i64 (G : Int) | 7 => v = .pointer (some ⟨w.heap.size + 2, 0, none⟩) | 8 => v = .pointer (some ⟨w.heap.size + 2, 2, none⟩) | 9 => v = .pointer (some ⟨w.heap.size + 2, 2 + G * 8, none⟩) | 10 => v = .pointer (some ⟨w.heap.size + 2, 2 + G * 8 + G, none⟩) | 12 => v = .pointer (some ⟨w.heap.size + 2, 0, none⟩) | 13 => v = .pointer (some ⟨w.heap.size + 2, 66, none⟩) | 14 => v = .pointer (some ⟨w.heap.size + 2, 66 + G * 8, none⟩) | 15 => v = .pointer (some ⟨w.heap.size + 2, 66 + G * 8 + G, none⟩) | _ => True) (fun _ _ => True) (fun li _ W => PhG w m A c A2 c2 T F y G Ds li W) (by kernel_rfl) (by kernel_rfl) ?_ (fun _ _ => trivial) trivial HG0.out (by kernel_rfl) ?_ ?_
        · intro i v W1 W2 hb h; exact h
        · refine ⟨?_, ?_, ?_, ?_, ?_, ?_, ?_, ?_, ?_, ?_, ?_, ?_, ?_, ?_, ?_, ?_, trivial⟩
          · -- 0
            intro li a1 W2 hA K hK
            have e3 := hA.par 3 (by kernel_rfl)
            have x0 := hA.ph.at_.pa.c1
            have g0 := hA.ph.gs.bg.c1
            have af := hA.ph.at_.at_.froz (2 + G * 8 + G)
            have al := hA.ph.at_.at_.lt
            have a0 := hA.ph.at_.at_.time hG8 hG8
            refine opStep none 0 rfl rfl (fun c hc => by cases hc) ?_
            go_simp
            exact hK _ _ rfl trivial (hA.ph.other (by decide))
          · -- 1
            intro li a1 W2 hA K hK
            have e4 := hA.par 4 (by kernel_rfl)
            have x0 := hA.ph.at_.pa.c1
            have g0 := hA.ph.gs.bg.c1
            have af := hA.ph.at_.at_.froz (2 + G * 8 + G)
            have al := hA.ph.at_.at_.lt
            have a0 := hA.ph.at_.at_.time hG8 hG8
            refine opStep none 0 rfl rfl (fun c hc => by cases hc) ?_
            go_simp
            exact hK _ _ rfl trivial (hA.ph.other (by decide))
          · -- 2
            intro li a1 W2 hA K hK
            have e4 := hA.par 4 (by kernel_rfl)
            have x0 := hA.ph.at_.pa.c1
            have g0 := hA.ph.gs.bg.c1
            have af := hA.ph.at_.at_.froz (2 + G * 8 + G)
            have al := hA.ph.at_.at_.lt
            have a0 := hA.ph.at_.at_.time hG8 hG8
            refine opStep none 0 rfl rfl (fun c hc => by cases hc) ?_
            go_simp
            exact hK _ _ rfl trivial (hA.ph.other (by decide))
          · -- 3
            intro li a1 W2 hA K hK
            have e3 := hA.par 3 (by kernel_rfl)
            have x0 := hA.ph.at_.pa.c1
            have g0 := hA.ph.gs.bg.c1
            have af := hA.ph.at_.at_.froz (2 + G * 8 + G)
            have al := hA.ph.at_.at_.lt
            have a0 := hA.ph.at_.at_.time hG8 hG8
            refine opStep none 0 rfl rfl (fun c hc => by cases hc) ?_
            go_simp
            exact hK _ _ rfl trivial (hA.ph.other (by decide))
          · -- 4
            intro li a1 W2 hA K hK
            have e4 := hA.par 4 (by kernel_rfl)
            have x0 := hA.ph.at_.pa.c1
            have g0 := hA.ph.gs.bg.c1
            have af := hA.ph.at_.at_.froz (2 + G * 8 + G)
            have al := hA.ph.at_.at_.lt
            have a0 := hA.ph.at_.at_.time hG8 hG8
            refine opStep none 0 rfl rfl (fun c hc => by cases hc) ?_
            go_simp
            exact hK _ _ rfl trivial (hA.ph.other (by decide))
          · -- 5
            intro li a1 W2 hA K hK
            have e4 := hA.par 4 (by kernel_rfl)
            have x0 := hA.ph.at_.pa.c1
            have g0 := hA.ph.gs.bg.c1
            have af := hA.ph.at_.at_.froz (2 + G * 8 + G)
            have al := hA.ph.at_.at_.lt
            have a0 := hA.ph.at_.at_.time hG8 hG8
            refine opStep none 0 rfl rfl (fun c hc => by cases hc) ?_
            go_simp
            exact hK _ _ rfl trivial (hA.ph.other (by decide))
          · -- 6
            intro li a1 W2 hA K hK
            have e4 := hA.par 4 (by kernel_rfl)
            have x0 := hA.ph.at_.pa.c1
            have g0 := hA.ph.gs.bg.c1
            have af := hA.ph.at_.at_.froz (2 + G * 8 + G)
            have al := hA.ph.at_.at_.lt
            have a0 := hA.ph.at_.at_.time hG8 hG8
            refine opStep none 0 rfl rfl (fun c hc => by cases hc) ?_
            go_simp
            exact hK _ _ rfl trivial (hA.ph.other (by decide))
          · -- 7
            intro li a1 W2 hA K hK
            have e36 : a1.tmps.getD 36 undef = .pointer (some ⟨w.heap.size + 2, 0, none⟩) := hA.val 0 36 (by kernel_rfl) (by kernel_rfl)
            refine opStep none 0 rfl rfl (fun c hc => by cases hc) ?_
            go_simp
            exact hK _ _ rfl trivial (hA.ph.other (by decide))
          · -- 8
            intro li a1 W2 hA K hK
            have e43 : a1.tmps.getD 43 undef = .pointer (some ⟨w.heap.size + 2, 0, none⟩) := hA.val 7 43 (by kernel_rfl) (by kernel_rfl)
            refine opStep none 0 rfl rfl (fun c hc => by cases hc) ?_
            go_simp
            exact hK _ _ rfl trivial (hA.ph.other (by decide))
          · -- 9
            intro li a1 W2 hA K hK
            have e44 : a1.tmps.getD 44 undef = .pointer (some ⟨w.heap.size + 2, 2, none⟩) := hA.val 8 44 (by kernel_rfl) (by kernel_rfl)
            have e37 : a1.tmps.getD 37 undef = .int .i64 (G : Int) := hA.val 1 37 (by kernel_rfl) (by kernel_rfl)
            refine opStep none 0 rfl rfl (fun c hc => by cases hc) ?_
            go_simp
            exact hK _ _ rfl trivial (hA.ph.other (by decide))
          · -- 10
            intro li a1 W2 hA K hK
            have e45 : a1.tmps.getD 45 undef = .pointer (some ⟨w.heap.size + 2, 2 + G * 8, none⟩) := hA.val 9 45 (by kernel_rfl) (by kernel_rfl)
            have e38 : a1.tmps.getD 38 undef = .int .i64 (G : Int) := hA.val 2 38 (by kernel_rfl) (by kernel_rfl)
            refine opStep none 0 rfl rfl (fun c hc => by cases hc) ?_
            go_simp
            exact hK _ _ rfl trivial (hA.ph.other (by decide))
          · -- 11
            intro li a1 W2 hA K hK
            have e46 : a1.tmps.getD 46 undef = .pointer (some ⟨w.heap.size + 2, 2 + G * 8 + G, none⟩) := hA.val 10 46 (by kernel_rfl) (by kernel_rfl)
            have x0 := hA.ph.at_.pa.c1
            have g0 := hA.ph.gs.bg.c1
            have af := hA.ph.at_.at_.froz (2 + G * 8 + G)
            have al := hA.ph.at_.at_.lt
            have a0 := hA.ph.at_.at_.time hG8 hG8
            refine opStep none 0 rfl rfl (fun c hc => by cases hc) ?_
            go_simp
            exact hK undef _ trivial trivial (hA.ph.sto (by rw [hA.lsize]; decide) hA.new hG8 HY.out)
          · -- 12
            intro li a1 W2 hA K hK
            have e39 : a1.tmps.getD 39 undef = .pointer (some ⟨w.heap.size + 2, 0, none⟩) := hA.val 3 39 (by kernel_rfl) (by kernel_rfl)
            refine opStep none 0 rfl rfl (fun c hc => by cases hc) ?_
            go_simp
            exact hK _ _ rfl trivial (hA.ph.other (by decide))
          · -- 13
            intro li a1 W2 hA K hK
            have e47 : a1.tmps.getD 47 undef = .pointer (some ⟨w.heap.size + 2, 0, none⟩) := hA.val 12 47 (by kernel_rfl) (by kernel_rfl)
            refine opStep none 0 rfl rfl (fun c hc => by cases hc) ?_
            go_simp
            exact hK _ _ rfl trivial (hA.ph.other (by decide))
          · -- 14
            intro li a1 W2 hA K hK
            have e48 : a1.tmps.getD 48 undef = .pointer (some ⟨w.heap.size + 2, 66, none⟩) := hA.val 13 48 (by kernel_rfl) (by kernel_rfl)
            have e40 : a1.tmps.getD 40 undef = .int .i64 (G : Int) := hA.val 4 40 (by kernel_rfl) (by kernel_rfl)
            refine opStep none 0 rfl rfl (fun c hc => by cases hc) ?_
            go_simp
            exact hK _ _ rfl trivial (hA.ph.other (by decide))
          · -- 15
            intro li a1 W2 hA K hK
            have e49 : a1.tmps.getD 49 undef = .pointer (some ⟨w.heap.size + 2, 66 + G * 8, none⟩) := hA.val 14 49 (by kernel_rfl) (by kernel_rfl)
            have e41 : a1.tmps.getD 41 undef = .int .i64 (G : Int) := hA.val 5 41 (by kernel_rfl) (by kernel_rfl)
            refine opStep none 0 rfl rfl (fun c hc => by cases hc) ?_
            go_simp
            exact hK _ _ rfl trivial (hA.ph.other (by decide))
        intro li a1 W2 hD
        have e50 : a1.tmps.getD 50 undef = .pointer (some ⟨w.heap.size + 2, 66 + G * 8 + G, none⟩) := hD.val 15 50 (by kernel_rfl) (by kernel_rfl)
        have e42 : a1.tmps.getD 42 undef = .int .i64 (G : Int) := hD.val 6 42 (by kernel_rfl) (by kernel_rfl)
        have hph := hD.ph.done (hD.all 11 (by decide))
        have af := hph.1.at_.froz (66 + G * 8 + G)
        have a0 := hph.1.at_.first hG8 hG8
        have al := hph.1.at_.lt
        have hkp2 := hD.keeps (ds := [36, 37, 38, 39, 40, 41, 42, 43, 44, 45, 46, 47, 48, 49, 50]) (by kernel_rfl)
        refine tail_store (i := 16) (W' := W2.setCell ⟨w.heap.size + 2, 66 + G * 8 + G, none⟩ (.int .i64 (G : Int))) none 0 rfl rfl rfl (fun c hc => by cases hc) (by go_simp) ?_
        have e := act_mix [36, 37, 38, 39, 40, 41, 42, 43, 44, 45, 46, 47, 48, 49, 50] hD.size hD.defers (fun i _ hc => hkp2 i hc)
        generalize (fun i => a1.tmps.getD i undef) = g' at e
        refine wpListIn_nil ?_
        rw [e]
        have H4 := hid (show AS w w.heap.size m A c A2 c2 (upd2 T G G 0) (upd2 F G G (G : Int)) (W2.setCell ⟨w.heap.size + 2, 66 + G * 8 + G, none⟩ (.int .i64 (G : Int))) ∧ GS y G (fun _ => false) (W2.setCell ⟨w.heap.size + 2, 66 + G * 8 + G, none⟩ (.int .i64 (G : Int))) ∧ Marks (w.heap.size + 4) Ds (W2.setCell ⟨w.heap.size + 2, 66 + G * 8 + G, none⟩ (.int .i64 (G : Int))) from ⟨hph.1.setF hG8 hG8 _, hph.2.1.far (p := ⟨w.heap.size + 2, 66 + G * 8 + G, none⟩) HY.out.1 HY.out.2 _, hph.2.2.keep (KeepsFrom.of_set _ _)⟩)
        clear e hD hkp2 e50 e42 hph af a0 al
        simp only [mix, List.contains_cons, List.contains_nil, Nat.reduceAdd, Nat.reduceBEq, Bool.or_false, Bool.or_true, cond_true, cond_false]
        generalize W2.setCell ⟨w.heap.size + 2, 66 + G * 8 + G, none⟩ (.int .i64 (G : Int)) = W4 at *
        have HST := hid (show StlI m G 0 (col (upd2 T G G 0) G) (col (upd2 F G G (G : Int)) G) (fun _ => false) from StlI.start hlt (by rw [col_same, upd_same]) (fun n hn hne => by rw [col_same, upd_oth _ _ hne]; exact HR.out.2.2.2.2 n hn))
        have HPD := hid ((HR.out.2.1.updT G 0).updF G (G : Int))
        clear HR
        obtain ⟨t0, t1⟩ := H4.out.1.bm.c2
        go_wp2
        clear t0 t1
        refine wp_loop (fun a W => ∃ (i : Nat) (Ds : List Nat), (i ≤ m.work.length ∧ (∃ T F s, AS w w.heap.size m A c A2 c2 T F W ∧ PreD m G T F ∧ GS y G s W ∧ StlI m G i (col T G) (col F G) s) ∧ Marks (w.heap.size + 4) Ds W) ∧ a.tmps.size = 137 ∧ a.defers = Ds.map mkD ∧ a.tmps.getD 0 undef = .agg #[.slice A m.work.length c, .slice A2 m.roads.length c2] ∧ a.tmps.getD 1 undef = .pointer (some ⟨w.heap.size, 0, none⟩) ∧ a.tmps.getD 3 undef = .pointer (some ⟨w.heap.size + 3, 0, none⟩) ∧ a.tmps.getD 4 undef = .pointer (some ⟨y, 0, none⟩) ∧ a.tmps.getD 5 undef = .pointer (some ⟨y + 1, 0, none⟩) ∧ a.tmps.getD 18 undef = .int .i64 (m.work.length : Int) ∧ a.tmps.getD 19 undef = .int .i64 (G : Int) ∧ a.tmps.getD 53 undef = .int .i64 (m.work.length : Int) ∧ a.tmps.getD 54 undef = .int .i64 (i : Int)) (fun a _ => m.work.length - (intOf (a.tmps.getD 54 undef)).toNat) ?_ ?_
        · exact ⟨0, Ds, ⟨Nat.zero_le _, ⟨_, _, _, H4.out.1, HPD.out, H4.out.2.1, HST.out⟩, H4.out.2.2⟩, rfl, rfl, rfl, rfl, rfl, rfl, rfl, rfl, rfl, rfl, rfl⟩
        clear H4 HPD HST
        rintro a wr ⟨i, Ds, ⟨hi, ⟨T, F, s, hAS, hPre, hGS, hSt⟩, hmk⟩, hs, hd, f0, f1, f3, f4, f5, f18, f19, f53, f54⟩
        have ea := act_is hs
        rw [hd] at ea
        have g0 : (fun i => a.tmps.getD i undef) 0 = _ := f0
        have g1 : (fun i => a.tmps.getD i undef) 1 = _ := f1
        have g3 : (fun i => a.tmps.getD i undef) 3 = _ := f3
        have g4 : (fun i => a.tmps.getD i undef) 4 = _ := f4
        have g5 : (fun i => a.tmps.getD i undef) 5 = _ := f5
        have g18 : (fun i => a.tmps.getD i undef) 18 = _ := f18
        have g19 : (fun i => a.tmps.getD i undef) 19 = _ := f19
        have g53 : (fun i => a.tmps.getD i undef) 53 = _ := f53
        have g54 : (fun i => a.tmps.getD i undef) 54 = _ := f54
        generalize (fun i => a.tmps.getD i undef) = u at ea g0 g1 g3 g4 g5 g18 g19 g53 g54
        rw [ea]
        clear ea hs hd f0 f1 f3 f4 f5 f18 f19 f53 f54
        simp only [List.range, List.range.loop, List.map_cons, List.map_nil, g0, g1, g3, g4, g5, g18, g19, g53, g54]
        clear g0 g1 g3 g4 g5 g18 g19 g53 g54
        have HR := hid (And.intro hAS (And.intro hPre (And.intro hGS (And.intro hSt hmk))))
        obtain ⟨t0, t1⟩ := hAS.bm.c2
        have hsz2 := hAS.size
        have hyz := hGS.bs.lt
        clear hAS hPre hGS hSt hmk
        by_cases hli : i < m.work.length
        · have hiI : (i : Int) < (m.work.length : Int) := by omega
          obtain ⟨z, hz⟩ : ∃ z, wr.heap.size = z := ⟨_, rfl⟩
          go_upto_region 15 with (fail)
          refine gen (p := Code.wp _ _ _ _) (fun W => AS w w.heap.size m A c A2 c2 T F W ∧ GS y G s W ∧ Blk W z 3 #[.int .i64 (-1)] ∧ Marks (w.heap.size + 4) Ds W) ⟨HR.out.1.keep (below_box _ _), HR.out.2.2.1.keep (below_box _ _), by rw [← hz]; exact Blk.new _ _ _, HR.out.2.2.2.2.below (below_box _ _)⟩ ?_
          rw [hz] at hsz2 hyz
          have HPS := hid (And.intro HR.out.2.1 HR.out.2.2.2.1)
          clear t0 t1 HR
          rintro W2 ⟨h1, h2, h3, h4⟩
          clear hz
          have H2 := hid (And.intro h1 (And.intro h2 (And.intro h3 h4)))
          obtain ⟨t0, t1⟩ := h1.bm.c2
          clear h1 h2 h3 h4
          go_wp2
          clear t0 t1
          go_loopw [59] (fun iv W => ∃ (k : Nat) (near : Int), k ≤ m.work.length ∧ iv = .int .i64 k ∧ AS w w.heap.size m A c A2 c2 T F W ∧ GS y G s W ∧ Blk W z 3 #[.int .i64 near] ∧ Marks (w.heap.size + 4) Ds W ∧ SelI (col T G) s k near) (fun iv _ => m.work.length - (intOf iv).toNat)
          case atStart => exact ⟨0, -1, Nat.zero_le _, rfl, H2.out.1, H2.out.2.1, H2.out.2.2.1, H2.out.2.2.2, SelI.zero⟩
          case round =>
            clear H2
            obtain ⟨k, near, hk, rfl, hAS, hGS, hbz, hmk, hsel⟩ := hrel
            have HR := hid (And.intro hAS (And.intro hGS (And.intro hbz (And.intro hmk hsel))))
            by_cases hlk : k < m.work.length
            · have hkI : (k : Int) < (m.work.length : Int) := by omega
              have hk8 : k < 8 := by omega
              have hk8I : (k : Int) < 8 := by omega
              have q1 := xt_c1 hAS.pa
              have q2 := xt_c1 hGS.bg
              have q3 := xt_c1 hbz
              have q4 := xt_cell ((hGS.bs.cell k).trans (flagC_get s hk8))
              have q5 := xt_cell (hAS.at_.time hk8 hG8)
              cases hsk : s k
              · rw [hsk] at q4
                rcases hsel with ⟨rfl, hs1⟩ | ⟨p, hp1, rfl, hp2, hp3⟩
                · have HSN := hid (SelI.first (.inl ⟨rfl, hs1⟩ : SelI (col T G) s k (-1)) hsk)
                  clear hAS hGS hbz hmk hs1 hsk
                  go_wp2
                  refine wp_region_quiet_xt (by kernel_rfl) (by kernel_rfl) ?_
                  repeat go_big_quiet_step (fail)
                  refine wpQuiet_nil ?_
                  intro W7 hw7
                  have hb7 := of_xt hw7
                  have H7 := hid (And.intro (HR.out.1.keep hb7) (And.intro (HR.out.2.1.keep hb7) (And.intro (HR.out.2.2.1.keep hb7) (HR.out.2.2.2.1.below hb7))))
                  clear hw7 hb7 q1 q2 q3 q4 q5 HR
                  have zf := H7.out.2.2.1.frozen 0
                  have zl := H7.out.2.2.1.lt
                  have z0 := H7.out.2.2.1.c1
                  have HNX := hid (show AS w w.heap.size m A c A2 c2 T F (W7.setCell ⟨z, 0, none⟩ (.int .i64 (k : Int))) ∧ GS y G s (W7.setCell ⟨z, 0, none⟩ (.int .i64 (k : Int))) ∧ Blk (W7.setCell ⟨z, 0, none⟩ (.int .i64 (k : Int))) z 3 #[.int .i64 (k : Int)] ∧ Marks (w.heap.size + 4) Ds (W7.setCell ⟨z, 0, none⟩ (.int .i64 (k : Int))) from ⟨H7.out.1.far (p := ⟨z, 0, none⟩) hsz2 _, H7.out.2.1.far (p := ⟨z, 0, none⟩) (by show z ≠ y; omega) (by show z ≠ y + 1; omega) _, H7.out.2.2.1.set_ 0 _, H7.out.2.2.2.keep (KeepsFrom.of_set _ _)⟩)
                  go_wp2
                  clear zf zl z0
                  go_roundw
                  case rel => exact ⟨k + 1, k, by omega, by go_num, HNX.out.1, HNX.out.2.1, HNX.out.2.2.1, HNX.out.2.2.2, HSN.out⟩
                  case measure => first | (simp [intOf]; done) | (simp [intOf]; omega)
                · have hp8 : p < 8 := by omega
                  have hp8I : (p : Int) < 8 := by omega
                  have hpn : decide ((p : Int) < 0) = false := by simp
                  have q6 := xt_cell (hAS.at_.time hp8 hG8)
                  have hso : SelI (col T G) s k (p : Int) := .inr ⟨p, hp1, rfl, hp2, hp3⟩
                  by_cases hlt2 : T k G < T p G
                  · have HSN := hid (hso.less hsk hlt2)
                    clear hAS hGS hbz hmk hsk hp2 hp3 hso
                    go_wp2
                    refine wp_region_quiet_xt (by kernel_rfl) (by kernel_rfl) ?_
                    repeat go_big_quiet_step (fail)
                    refine wpQuiet_nil ?_
                    intro W7 hw7
                    have hb7 := of_xt hw7
                    have H7 := hid (And.intro (HR.out.1.keep hb7) (And.intro (HR.out.2.1.keep hb7) (And.intro (HR.out.2.2.1.keep hb7) (HR.out.2.2.2.1.below hb7))))
                    clear hw7 hb7 q1 q2 q3 q4 q5 q6 HR
                    have zf := H7.out.2.2.1.frozen 0
                    have zl := H7.out.2.2.1.lt
                    have z0 := H7.out.2.2.1.c1
                    have HNX := hid (show AS w w.heap.size m A c A2 c2 T F (W7.setCell ⟨z, 0, none⟩ (.int .i64 (k : Int))) ∧ GS y G s (W7.setCell ⟨z, 0, none⟩ (.int .i64 (k : Int))) ∧ Blk (W7.setCell ⟨z, 0, none⟩ (.int .i64 (k : Int))) z 3 #[.int .i64 (k : Int)] ∧ Marks (w.heap.size + 4) Ds (W7.setCell ⟨z, 0, none⟩ (.int .i64 (k : Int))) from ⟨H7.out.1.far (p := ⟨z, 0, none⟩) hsz2 _, H7.out.2.1.far (p := ⟨z, 0, none⟩) (by show z ≠ y; omega) (by show z ≠ y + 1; omega) _, H7.out.2.2.1.set_ 0 _, H7.out.2.2.2.keep (KeepsFrom.of_set _ _)⟩)
                    go_wp2
                    clear zf zl z0
                    go_roundw
                    case rel => exact ⟨k + 1, k, by omega, by go_num, HNX.out.1, HNX.out.2.1, HNX.out.2.2.1, HNX.out.2.2.2, HSN.out⟩
                    case measure => first | (simp [intOf]; done) | (simp [intOf]; omega)
                  · have hlt3 : decide (T k G < T p G) = false := by simpa using hlt2
                    have HSN := hid (hso.not hlt2)
                    clear hAS hGS hbz hmk hsk hp2 hp3 hso hlt2
                    go_wp2
                    refine wp_region_quiet_xt (by kernel_rfl) (by kernel_rfl) ?_
                    repeat go_big_quiet_step (fail)
                    refine wpQuiet_nil ?_
                    intro W7 hw7
                    have hb7 := of_xt hw7
                    have H7 := hid (And.intro (HR.out.1.keep hb7) (And.intro (HR.out.2.1.keep hb7) (And.intro (HR.out.2.2.1.keep hb7) (HR.out.2.2.2.1.below hb7))))
                    clear hw7 hb7 q1 q2 q3 q4 q5 q6 HR
                    go_wp2
                    go_roundw
                    case rel => exact ⟨k + 1, _, by omega, by go_num, H7.out.1, H7.out.2.1, H7.out.2.2.1, H7.out.2.2.2, HSN.out⟩
                    case measure => first | (simp [intOf]; done) | (simp [intOf]; omega)
              · rw [hsk] at q4
                have HSN := hid (hsel.old hsk)
                clear hAS hGS hbz hmk hsel hsk
                go_wp2
                refine wp_region_quiet_xt (by kernel_rfl) (by kernel_rfl) ?_
                repeat go_big_quiet_step (fail)
                refine wpQuiet_nil ?_
                intro W7 hw7
                have hb7 := of_xt hw7
                have H7 := hid (And.intro (HR.out.1.keep hb7) (And.intro (HR.out.2.1.keep hb7) (And.intro (HR.out.2.2.1.keep hb7) (HR.out.2.2.2.1.below hb7))))
                clear hw7 hb7 q1 q2 q3 q4 q5 HR
                go_wp2
                go_roundw
                case rel => exact ⟨k + 1, _, by omega, by go_num, H7.out.1, H7.out.2.1, H7.out.2.2.1, H7.out.2.2.2, HSN.out⟩
                case measure => first | (simp [intOf]; done) | (simp [intOf]; omega)
            · have hkI : decide ((k : Int) < (m.work.length : Int)) = false := decide_eq_false (by omega)
              obtain rfl : k = m.work.length := by omega
              obtain ⟨p, hpN, rfl, hsp, hmin⟩ := hsel.near (unsettled HPS.out.2 (show i < m.N from hli))
              have hp8 : p < 8 := by have : p < m.work.length := hpN; omega
              have hp8I : (p : Int) < 8 := by omega
              have HSEL := hid (And.intro hpN (And.intro hsp hmin))
              obtain ⟨t0, t1⟩ := hAS.bm.c2
              have z0 := hbz.c1
              have s0 := (hGS.bs.cell p).trans (flagC_get s hp8)
              have sf := hGS.bs.frozen p
              have sl := hGS.bs.lt
              clear hAS hGS hbz hmk hsel hpN hsp hmin
              go_upto_region 22 with (fail)
              refine gen (p := Code.wp _ _ _ _) (fun W => AS w w.heap.size m A c A2 c2 T F W ∧ GS y G (upd s p true) W ∧ Blk W z 3 #[.int .i64 (p : Int)] ∧ Marks (w.heap.size + 4) Ds W) ⟨HR.out.1.far (p := ⟨y + 1, p, none⟩) (by show w.heap.size + 4 ≤ y + 1; omega) _, HR.out.2.1.flag hp8, HR.out.2.2.1.far (p := ⟨y + 1, p, none⟩) (by show z ≠ y + 1; omega) _, HR.out.2.2.2.1.keep (KeepsFrom.of_set _ _)⟩ ?_
              clear t0 t1 z0 s0 sf sl HR
              rintro W5 ⟨h1, h2, h3, h4⟩
              have H5 := hid (And.intro h1 (And.intro h2 (And.intro h3 h4)))
              have HS5 := hid (And.intro h1.size h3.lt)
              obtain ⟨t0, t1⟩ := h1.bm.c2
              have z0 := h3.c1
              clear h1 h2 h3 h4
              go_wp2_with fail
              refine (wnext_any _ _ _ _).mono ?_
              rintro e W6 ⟨rfl, h1, h2, h3⟩
              have H6 := hid (And.intro (H5.out.1.keep h1) (And.intro (H5.out.2.1.keep h1) (And.intro (H5.out.2.2.1.keep h1) (And.intro (H5.out.2.2.2.below h1) (And.intro h2 h3)))))
              clear h1 h2 h3 t0 t1 z0 H5
              go_wp2
              refine (wpIn_wide (n := 0)).1 ?_
              apply wpIn_rangeFunc_nx rfl (enters_of Tryz.func109 (by kernel_rfl) rfl) (m := m) (d := (p : Int)) (X := fun q => q = w.heap.size + 2) (w0 := W6)
                (wnext1_any OK.out H6.out.2.2.2.2.1 H6.out.2.2.2.2.2 (n := w.heap.size) H6.out.1.below.size (HH.out.ir.below H6.out.1.below) HH.out.l2 HH.out.m2 (fun q e => ⟨by omega, by have := HS5.out.1; omega⟩)) (Below.refl _ _)
                (fun j W => MChg (fun q => q = w.heap.size + 2) W6 W ∧ ∃ T' F', AS w w.heap.size m A c A2 c2 T' F' W ∧ PreD m G T' F' ∧ WRdI m G p (T p G) (50 * (i : Int)) j (col T G) (col T' G) (col F' G)) (fun _ _ => False)
              case hassign =>
                intro l j r W K hK
                gi_wp2
                exact hK
              case hI =>
                intro j W W' row hs hg hr
                refine ⟨chg_own (β := Nat) (Z := fun q => q = w.heap.size + 2) (A := W6) (Nat.le_refl _) j W W' row hs.1 hg hr, ?_⟩
                obtain ⟨T', F', h1, h2⟩ := hs.2
                exact ⟨T', F', h1.grown hg H6.out.1.size (fun r e => (hr r e).1), h2⟩
              case hIx =>
                intro c9 s9 W W' row hs _ _
                exact hs
              case h0 => exact ⟨MChg.refl, T, F, H6.out.1, HPS.out.1, WRdI.start HPS.out.2.col HSEL.out.1 rfl⟩
              case hsk =>
                rintro j r W hr hna hnb ⟨h1, T', F', h2, h3, h4⟩
                exact ⟨h1, T', F', h2, h3, h4.skip hr hna hnb⟩
              case hstop =>
                intro D c9 W _ hs _
                exact hs.elim
              case hdone =>
                rintro D W hD ⟨hch, T', F', hAS', hPre', hRd⟩ hdf
                have hmW := H6.out.2.2.2.1.chg hch (fun D' hD' e => by have := (H6.out.2.2.2.1.at_ D' hD').1; omega)
                have HN := hid (show AS w w.heap.size m A c A2 c2 T' F' W ∧ PreD m G T' F' ∧ GS y G (upd s p true) W ∧ StlI m G (i + 1) (col T' G) (col F' G) (upd s p true) ∧ Marks (w.heap.size + 4) (D :: Ds) W from
                  ⟨hAS', hPre', ⟨hch.blk H6.out.2.1.bg (fun e => by omega), hch.blk H6.out.2.1.bs (fun e => by omega)⟩, hRd.done HPS.out.2 HSEL.out.1 HSEL.out.2.1 HSEL.out.2.2 rfl, Marks.cons H6.out.2.2.2.1 hmW (by have := H6.out.1.size; omega) hD hdf⟩)
                clear hch hAS' hPre' hRd hdf hmW
                go_wp2
                refine ⟨⟨i + 1, D :: Ds, ⟨by omega, ⟨T', F', _, HN.out.1, HN.out.2.1, HN.out.2.2.1, HN.out.2.2.2.1⟩, HN.out.2.2.2.2⟩, rfl, rfl, rfl, rfl, rfl, rfl, rfl, rfl, rfl, rfl, (show Value.int .i64 ((i : Int) + 1) = .int .i64 ((i + 1 : Nat) : Int) by go_num)⟩, ?_⟩
                first | (simp [intOf]; done) | (simp [intOf]; omega)
              case hbody =>
                rintro l j r Wr hl hlp hr hmeet ⟨hch, T', F', hAS', hPre', hRd⟩
                have hrr := OK.out.rd r (List.mem_of_getElem? hr)
                obtain ⟨o, ho⟩ : ∃ o : Nat, othB r (p : Int) = (o : Int) := ⟨(othB r (p : Int)).toNat, by unfold othB; split <;> omega⟩
                have hoN : o < m.work.length := by unfold othB at ho; split at ho <;> omega
                have hjo : joinsB r (o : Int) (p : Int) = true := by
                  rw [joinsB_iff]
                  unfold othB at ho
                  rcases hmeet with h | h
                  · rw [if_pos h.symm] at ho; exact .inr ⟨h, ho⟩
                  · by_cases e : (p : Int) = r.a
                    · exact absurd (e.symm.trans h.symm) hrr.2.2.2.2.1
                    · rw [if_neg e] at ho; exact .inl ⟨ho, h⟩
                have ho8 : o < 8 := by omega
                have ho8I : (o : Int) < 8 := by omega
                obtain ⟨P, hP⟩ : ∃ P, T p G = P := ⟨_, rfl⟩
                have hPb := HPS.out.2.col.lo p HSEL.out.1
                rw [show col T G p = P from hP] at hPb
                unfold farI at hPb
                have hhi : 1 ≤ r.hi ∧ r.hi ≤ 50 := by omega
                have hwP : IntKind.i64.wrap (P + r.hi) = P + r.hi := IntWalk.i64_in _ (by omega)
                have HJ := hid (And.intro hch (And.intro hPre' (And.intro hRd (And.intro hr (And.intro hjo (And.intro hrr.2.2.2.2.1 hoN))))))
                have HTP := hid (show T' p G = P from hRd.tp.trans hP)
                have HPP := hid hP
                have HY2 := hid (show y ≠ w.heap.size + 2 ∧ z ≠ w.heap.size + 2 by omega)
                have HG0 := hid (show PhB w m A c A2 c2 T' F' y G z p Wr Wr.drew from ⟨hAS'.drew, (hch.blk H6.out.2.1.bg HY2.out.1).drew, (hch.blk H6.out.2.2.1 HY2.out.2).drew, MChg.of_below ⟨rfl, rfl, rfl, Nat.le_refl _, fun _ _ => rfl⟩⟩)
                rw [ho]
                clear hrr ho hmeet hjo hch hAS' hPre' hRd hr hP
                try gi_wp2
                refine wpIn_region_each2 10 (fun i v W' => match i with | 0 => v = .pointer (some ⟨w.heap.size + 2, 0, none⟩) | 1 => v = .int .i64 (p : Int) | 2 => v = .int .i64 (G : Int) | 3 => v = .pointer (some ⟨w.heap.size + 2, 0, none⟩) | 4 => v = .pointer (some ⟨w.heap.size + 2, 2, none⟩) | 5 => v = .pointer (some ⟨w.heap.size + 2, 2 + p * 8, none⟩) | 6 => v = .pointer (some ⟨w.heap.size + 2, 2 + p * 8 + G, none⟩) | 7 => v = .int .i64 P | 8 => v = .int .i64 r.hi | 9 => v = .int .i64 (P + r.hi) | _ => True) (fun _ _ => True) (fun _ _ W => PhB w m A c A2 c2 T' F' y G z p Wr W) (by kernel_rfl) (by kernel_rfl) ?_ (fun _ _ => trivial) trivial HG0.out (by kernel_rfl) ?_ ?_
                · intro i v W1 W2 hb h; exact h
                · refine ⟨?_, ?_, ?_, ?_, ?_, ?_, ?_, ?_, ?_, ?_, trivial⟩
                  · -- 0
                    intro li a1 W2 hA K hK
                    have e3 := hA.par 3 (by kernel_rfl)
                    have x0 := hA.ph.at_.pa.c1
                    have g0 := hA.ph.bg.c1
                    have z0 := hA.ph.bz.c1
                    have a0 := hA.ph.at_.at_.time hp8 hG8
                    rw [HTP.out] at a0
                    refine opStep (some l) 0 rfl rfl (fun c hc => by cases hc) ?_
                    go_simp
                    exact hK _ _ rfl trivial (hA.ph)
                  · -- 1
                    intro li a1 W2 hA K hK
                    have e7 := hA.par 7 (by kernel_rfl)
                    have x0 := hA.ph.at_.pa.c1
                    have g0 := hA.ph.bg.c1
                    have z0 := hA.ph.bz.c1
                    have a0 := hA.ph.at_.at_.time hp8 hG8
                    rw [HTP.out] at a0
                    refine opStep (some l) 0 rfl rfl (fun c hc => by cases hc) ?_
                    go_simp
                    exact hK _ _ rfl trivial (hA.ph)
                  · -- 2
                    intro li a1 W2 hA K hK
                    have e4 := hA.par 4 (by kernel_rfl)
                    have x0 := hA.ph.at_.pa.c1
                    have g0 := hA.ph.bg.c1
                    have z0 := hA.ph.bz.c1
                    have a0 := hA.ph.at_.at_.time hp8 hG8
                    rw [HTP.out] at a0
                    refine opStep (some l) 0 rfl rfl (fun c hc => by cases hc) ?_
                    go_simp
                    exact hK _ _ rfl trivial (hA.ph)
                  · -- 3
                    intro li a1 W2 hA K hK
                    have e98 : a1.tmps.getD 98 undef = .pointer (some ⟨w.heap.size + 2, 0, none⟩) := hA.val 0 98 (by kernel_rfl) (by kernel_rfl)
                    refine opStep (some l) 0 rfl rfl (fun c hc => by cases hc) ?_
                    go_simp
                    exact hK _ _ rfl trivial (hA.ph)
                  · -- 4
                    intro li a1 W2 hA K hK
                    have e101 : a1.tmps.getD 101 undef = .pointer (some ⟨w.heap.size + 2, 0, none⟩) := hA.val 3 101 (by kernel_rfl) (by kernel_rfl)
                    refine opStep (some l) 0 rfl rfl (fun c hc => by cases hc) ?_
                    go_simp
                    exact hK _ _ rfl trivial (hA.ph)
                  · -- 5
                    intro li a1 W2 hA K hK
                    have e102 : a1.tmps.getD 102 undef = .pointer (some ⟨w.heap.size + 2, 2, none⟩) := hA.val 4 102 (by kernel_rfl) (by kernel_rfl)
                    have e99 : a1.tmps.getD 99 undef = .int .i64 (p : Int) := hA.val 1 99 (by kernel_rfl) (by kernel_rfl)
                    refine opStep (some l) 0 rfl rfl (fun c hc => by cases hc) ?_
                    go_simp
                    exact hK _ _ rfl trivial (hA.ph)
                  · -- 6
                    intro li a1 W2 hA K hK
                    have e103 : a1.tmps.getD 103 undef = .pointer (some ⟨w.heap.size + 2, 2 + p * 8, none⟩) := hA.val 5 103 (by kernel_rfl) (by kernel_rfl)
                    have e100 : a1.tmps.getD 100 undef = .int .i64 (G : Int) := hA.val 2 100 (by kernel_rfl) (by kernel_rfl)
                    refine opStep (some l) 0 rfl rfl (fun c hc => by cases hc) ?_
                    go_simp
                    exact hK _ _ rfl trivial (hA.ph)
                  · -- 7
                    intro li a1 W2 hA K hK
                    have e104 : a1.tmps.getD 104 undef = .pointer (some ⟨w.heap.size + 2, 2 + p * 8 + G, none⟩) := hA.val 6 104 (by kernel_rfl) (by kernel_rfl)
                    have x0 := hA.ph.at_.pa.c1
                    have g0 := hA.ph.bg.c1
                    have z0 := hA.ph.bz.c1
                    have a0 := hA.ph.at_.at_.time hp8 hG8
                    rw [HTP.out] at a0
                    refine opStep (some l) 0 rfl rfl (fun c hc => by cases hc) ?_
                    go_simp
                    exact hK _ _ rfl trivial (hA.ph)
                  · -- 8
                    intro li a1 W2 hA K hK
                    have e10 := hA.par 10 (by kernel_rfl)
                    refine opStep (some l) 0 rfl rfl (fun c hc => by cases hc) ?_
                    go_simp
                    exact hK _ _ rfl trivial (hA.ph)
                  · -- 9
                    intro li a1 W2 hA K hK
                    have e105 : a1.tmps.getD 105 undef = .int .i64 P := hA.val 7 105 (by kernel_rfl) (by kernel_rfl)
                    have e106 : a1.tmps.getD 106 undef = .int .i64 r.hi := hA.val 8 106 (by kernel_rfl) (by kernel_rfl)
                    refine opStep (some l) 0 rfl rfl (fun c hc => by cases hc) ?_
                    go_simp
                    exact hK _ _ rfl trivial (hA.ph)
                intro li a1 W2 hD
                have e107 : a1.tmps.getD 107 undef = .int .i64 (P + r.hi) := hD.val 9 107 (by kernel_rfl) (by kernel_rfl)
                have hsz9 : a1.tmps.size = 137 := hD.size
                have hkp2 := hD.keeps (ds := [98, 99, 100, 101, 102, 103, 104, 105, 106, 107, 11]) (by kernel_rfl)
                refine tail_val (i := 10) (v := .int .i64 (P + r.hi)) (W' := W2) (some l) 0 rfl rfl rfl (fun c hc => by cases hc) (by go_simp) (by rw [hsz9]; decide) ?_
                intro a3 s3 d3 f3 o3
                have hkp3 := keeps_then hkp2 o3 (by decide)
                have e := act_mix [98, 99, 100, 101, 102, 103, 104, 105, 106, 107, 11] (s3.trans hD.size) (d3.trans hD.defers) (fun i _ hc => hkp3 i hc)
                have f9 : (fun i => a3.tmps.getD i undef) 11 = .int .i64 (P + r.hi) := f3
                generalize (fun i => a3.tmps.getD i undef) = g' at e f9
                refine wpListIn_nil ?_
                rw [e]
                have HG3 := hid hD.ph
                clear e hD hkp2 hkp3 s3 d3 f3 o3 hsz9 e107
                simp only [mix, List.contains_cons, List.contains_nil, Nat.reduceAdd, Nat.reduceBEq, Bool.or_false, Bool.or_true, cond_true, cond_false, f9]
                clear f9
                generalize W2 = W3 at *
                gi_wp2
                have HG1 := hid (show PhB w m A c A2 c2 T' F' y G z p Wr W3.drew from HG3.out.drew)
                refine wpIn_region_each2 9 (fun i v W' => match i with | 0 => v = .int .i64 (P + r.hi) | 1 => v = .pointer (some ⟨w.heap.size + 2, 0, none⟩) | 2 => v = .int .i64 (o : Int) | 3 => v = .int .i64 (G : Int) | 4 => v = .pointer (some ⟨w.heap.size + 2, 0, none⟩) | 5 => v = .pointer (some ⟨w.heap.size + 2, 2, none⟩) | 6 => v = .pointer (some ⟨w.heap.size + 2, 2 + o * 8, none⟩) | 7 => v = .pointer (some ⟨w.heap.size + 2, 2 + o * 8 + G, none⟩) | 8 => v = .int .i64 (T' o G) | _ => True) (fun _ _ => True) (fun _ _ W => PhB w m A c A2 c2 T' F' y G z p Wr W) (by kernel_rfl) (by kernel_rfl) ?_ (fun _ _ => trivial) trivial HG1.out (by kernel_rfl) ?_ ?_
                · intro i v W1 W2 hb h; exact h
                · refine ⟨?_, ?_, ?_, ?_, ?_, ?_, ?_, ?_, ?_, trivial⟩
                  · -- 0
                    intro li a1 W2 hA K hK
                    have e11 := hA.par 11 (by kernel_rfl)
                    refine opStep (some l) 0 rfl rfl (fun c hc => by cases hc) ?_
                    go_simp
                    exact hK _ _ rfl trivial (hA.ph)
                  · -- 1
                    intro li a1 W2 hA K hK
                    have e3 := hA.par 3 (by kernel_rfl)
                    have x0 := hA.ph.at_.pa.c1
                    have g0 := hA.ph.bg.c1
                    have z0 := hA.ph.bz.c1
                    have a0 := hA.ph.at_.at_.time ho8 hG8
                    refine opStep (some l) 0 rfl rfl (fun c hc => by cases hc) ?_
                    go_simp
                    exact hK _ _ rfl trivial (hA.ph)
                  · -- 2
                    intro li a1 W2 hA K hK
                    have e9 := hA.par 9 (by kernel_rfl)
                    refine opStep (some l) 0 rfl rfl (fun c hc => by cases hc) ?_
                    go_simp
                    exact hK _ _ rfl trivial (hA.ph)
                  · -- 3
                    intro li a1 W2 hA K hK
                    have e4 := hA.par 4 (by kernel_rfl)
                    have x0 := hA.ph.at_.pa.c1
                    have g0 := hA.ph.bg.c1
                    have z0 := hA.ph.bz.c1
                    have a0 := hA.ph.at_.at_.time ho8 hG8
                    refine opStep (some l) 0 rfl rfl (fun c hc => by cases hc) ?_
                    go_simp
                    exact hK _ _ rfl trivial (hA.ph)
                  · -- 4
                    intro li a1 W2 hA K hK
                    have e109 : a1.tmps.getD 109 undef = .pointer (some ⟨w.heap.size + 2, 0, none⟩) := hA.val 1 109 (by kernel_rfl) (by kernel_rfl)
                    refine opStep (some l) 0 rfl rfl (fun c hc => by cases hc) ?_
                    go_simp
                    exact hK _ _ rfl trivial (hA.ph)
                  · -- 5
                    intro li a1 W2 hA K hK
                    have e112 : a1.tmps.getD 112 undef = .pointer (some ⟨w.heap.size + 2, 0, none⟩) := hA.val 4 112 (by kernel_rfl) (by kernel_rfl)
                    refine opStep (some l) 0 rfl rfl (fun c hc => by cases hc) ?_
                    go_simp
                    exact hK _ _ rfl trivial (hA.ph)
                  · -- 6
                    intro li a1 W2 hA K hK
                    have e113 : a1.tmps.getD 113 undef = .pointer (some ⟨w.heap.size + 2, 2, none⟩) := hA.val 5 113 (by kernel_rfl) (by kernel_rfl)
                    have e110 : a1.tmps.getD 110 undef = .int .i64 (o : Int) := hA.val 2 110 (by kernel_rfl) (by kernel_rfl)
                    refine opStep (some l) 0 rfl rfl (fun c hc => by cases hc) ?_
                    go_simp
                    exact hK _ _ rfl trivial (hA.ph)
                  · -- 7
                    intro li a1 W2 hA K hK
                    have e114 : a1.tmps.getD 114 undef = .pointer (some ⟨w.heap.size + 2, 2 + o * 8, none⟩) := hA.val 6 114 (by kernel_rfl) (by kernel_rfl)
                    have e111 : a1.tmps.getD 111 undef = .int .i64 (G : Int) := hA.val 3 111 (by kernel_rfl) (by kernel_rfl)
                    refine opStep (some l) 0 rfl rfl (fun c hc => by cases hc) ?_
                    go_simp
                    exact hK _ _ rfl trivial (hA.ph)
                  · -- 8
                    intro li a1 W2 hA K hK
                    have e115 : a1.tmps.getD 115 undef = .pointer (some ⟨w.heap.size + 2, 2 + o * 8 + G, none⟩) := hA.val 7 115 (by kernel_rfl) (by kernel_rfl)
                    have x0 := hA.ph.at_.pa.c1
                    have g0 := hA.ph.bg.c1
                    have z0 := hA.ph.bz.c1
                    have a0 := hA.ph.at_.at_.time ho8 hG8
                    refine opStep (some l) 0 rfl rfl (fun c hc => by cases hc) ?_
                    go_simp
                    exact hK _ _ rfl trivial (hA.ph)
                intro li a1 W2 hD
                have e108 : a1.tmps.getD 108 undef = .int .i64 (P + r.hi) := hD.val 0 108 (by kernel_rfl) (by kernel_rfl)
                have e116 : a1.tmps.getD 116 undef = .int .i64 (T' o G) := hD.val 8 116 (by kernel_rfl) (by kernel_rfl)
                have hsz9 : a1.tmps.size = 137 := hD.size
                have hkp2 := hD.keeps (ds := [108, 109, 110, 111, 112, 113, 114, 115, 116, 117]) (by kernel_rfl)
                refine tail_val (i := 9) (v := .bool (decide (P + r.hi < T' o G))) (W' := W2) (some l) 0 rfl rfl rfl (fun c hc => by cases hc) (by go_simp) (by rw [hsz9]; decide) ?_
                intro a3 s3 d3 f3 o3
                have hkp3 := keeps_then hkp2 o3 (by decide)
                have e := act_mix [108, 109, 110, 111, 112, 113, 114, 115, 116, 117] (s3.trans hD.size) (d3.trans hD.defers) (fun i _ hc => hkp3 i hc)
                have f9 : (fun i => a3.tmps.getD i undef) 117 = .bool (decide (P + r.hi < T' o G)) := f3
                generalize (fun i => a3.tmps.getD i undef) = g' at e f9
                refine wpListIn_nil ?_
                rw [e]
                have HG4 := hid hD.ph
                clear e hD hkp2 hkp3 s3 d3 f3 o3 hsz9 e108 e116
                simp only [mix, List.contains_cons, List.contains_nil, Nat.reduceAdd, Nat.reduceBEq, Bool.or_false, Bool.or_true, cond_true, cond_false, f9]
                clear f9
                generalize W2 = W4 at *
                cases hlt9 : decide (P + r.hi < T' o G)
                · gi_wp2
                  have hle := of_decide_eq_false hlt9
                  refine ⟨HG4.out.cr.from_ (fun q e => by have := H6.out.1.size; omega), HG4.out.cr.keep, HJ.out.1.trans HG4.out.cr, T', F', HG4.out.at_, HJ.out.2.1, HJ.out.2.2.1.stay HJ.out.2.2.2.1 HJ.out.2.2.2.2.2.1 HJ.out.2.2.2.2.1 hhi.2 (by rw [HPP.out]; show T' o G ≤ P + r.hi; omega) (by omega)⟩
                · have hlt := of_decide_eq_true hlt9
                  gi_wp2
                  have HG2 := hid (show WPhC w m A c A2 c2 T' F' y G z p o (P + r.hi) Wr (Array.replicate 18 false) W4.drew from WPhC.start HG4.out.drew)
                  refine wpIn_region_each2 17 (fun i v W' => match i with | 0 => v = .pointer (some ⟨w.heap.size + 2, 0, none⟩) | 1 => v = .int .i64 (o : Int) | 2 => v = .int .i64 (G : Int) | 3 => v = .pointer (some ⟨w.heap.size + 2, 0, none⟩) | 4 => v = .int .i64 (o : Int) | 5 => v = .int .i64 (G : Int) | 6 => v = .int .i64 (P + r.hi) | 7 => v = .int .i64 (p : Int) | 8 => v = .pointer (some ⟨w.heap.size + 2, 0, none⟩) | 9 => v = .pointer (some ⟨w.heap.size + 2, 2, none⟩) | 10 => v = .pointer (some ⟨w.heap.size + 2, 2 + o * 8, none⟩) | 11 => v = .pointer (some ⟨w.heap.size + 2, 2 + o * 8 + G, none⟩) | 13 => v = .pointer (some ⟨w.heap.size + 2, 0, none⟩) | 14 => v = .pointer (some ⟨w.heap.size + 2, 66, none⟩) | 15 => v = .pointer (some ⟨w.heap.size + 2, 66 + o * 8, none⟩) | 16 => v = .pointer (some ⟨w.heap.size + 2, 66 + o * 8 + G, none⟩) | _ => True) (fun _ _ => True) (fun li _ W => WPhC w m A c A2 c2 T' F' y G z p o (P + r.hi) Wr li W) (by kernel_rfl) (by kernel_rfl) ?_ (fun _ _ => trivial) trivial HG2.out (by kernel_rfl) ?_ ?_
                  · intro i v W1 W2 hb h; exact h
                  · refine ⟨?_, ?_, ?_, ?_, ?_, ?_, ?_, ?_, ?_, ?_, ?_, ?_, ?_, ?_, ?_, ?_, ?_, trivial⟩
                    · -- 0
                      intro li a1 W2 hA K hK
                      have e3 := hA.par 3 (by kernel_rfl)
                      have x0 := hA.ph.at_.pa.c1
                      have g0 := hA.ph.bg.c1
                      have z0 := hA.ph.bz.c1
                      have af := hA.ph.at_.at_.froz (2 + o * 8 + G)
                      have al := hA.ph.at_.at_.lt
                      have a0 := hA.ph.at_.at_.time ho8 hG8
                      refine opStep (some l) 0 rfl rfl (fun c hc => by cases hc) ?_
                      go_simp
                      exact hK _ _ rfl trivial (hA.ph.other (by decide))
                    · -- 1
                      intro li a1 W2 hA K hK
                      have e9 := hA.par 9 (by kernel_rfl)
                      refine opStep (some l) 0 rfl rfl (fun c hc => by cases hc) ?_
                      go_simp
                      exact hK _ _ rfl trivial (hA.ph.other (by decide))
                    · -- 2
                      intro li a1 W2 hA K hK
                      have e4 := hA.par 4 (by kernel_rfl)
                      have x0 := hA.ph.at_.pa.c1
                      have g0 := hA.ph.bg.c1
                      have z0 := hA.ph.bz.c1
                      have af := hA.ph.at_.at_.froz (2 + o * 8 + G)
                      have al := hA.ph.at_.at_.lt
                      have a0 := hA.ph.at_.at_.time ho8 hG8
                      refine opStep (some l) 0 rfl rfl (fun c hc => by cases hc) ?_
                      go_simp
                      exact hK _ _ rfl trivial (hA.ph.other (by decide))
                    · -- 3
                      intro li a1 W2 hA K hK
                      have e3 := hA.par 3 (by kernel_rfl)
                      have x0 := hA.ph.at_.pa.c1
                      have g0 := hA.ph.bg.c1
                      have z0 := hA.ph.bz.c1
                      have af := hA.ph.at_.at_.froz (2 + o * 8 + G)
                      have al := hA.ph.at_.at_.lt
                      have a0 := hA.ph.at_.at_.time ho8 hG8
                      refine opStep (some l) 0 rfl rfl (fun c hc => by cases hc) ?_
                      go_simp
                      exact hK _ _ rfl trivial (hA.ph.other (by decide))
                    · -- 4
                      intro li a1 W2 hA K hK
                      have e9 := hA.par 9 (by kernel_rfl)
                      refine opStep (some l) 0 rfl rfl (fun c hc => by cases hc) ?_
                      go_simp
                      exact hK _ _ rfl trivial (hA.ph.other (by decide))
                    · -- 5
                      intro li a1 W2 hA K hK
                      have e4 := hA.par 4 (by kernel_rfl)
                      have x0 := hA.ph.at_.pa.c1
                      have g0 := hA.ph.bg.c1
                      have z0 := hA.ph.bz.c1
                      have af := hA.ph.at_.at_.froz (2 + o * 8 + G)
                      have al := hA.ph.at_.at_.lt
                      have a0 := hA.ph.at_.at_.time ho8 hG8
                      refine opStep (some l) 0 rfl rfl (fun c hc => by cases hc) ?_
                      go_simp
                      exact hK _ _ rfl trivial (hA.ph.other (by decide))
                    · -- 6
                      intro li a1 W2 hA K hK
                      have e11 := hA.par 11 (by kernel_rfl)
                      refine opStep (some l) 0 rfl rfl (fun c hc => by cases hc) ?_
                      go_simp
                      exact hK _ _ rfl trivial (hA.ph.other (by decide))
                    · -- 7
                      intro li a1 W2 hA K hK
                      have e7 := hA.par 7 (by kernel_rfl)
                      have x0 := hA.ph.at_.pa.c1
                      have g0 := hA.ph.bg.c1
                      have z0 := hA.ph.bz.c1
                      have af := hA.ph.at_.at_.froz (2 + o * 8 + G)
                      have al := hA.ph.at_.at_.lt
                      have a0 := hA.ph.at_.at_.time ho8 hG8
                      refine opStep (some l) 0 rfl rfl (fun c hc => by cases hc) ?_
                      go_simp
                      exact hK _ _ rfl trivial (hA.ph.other (by decide))
                    · -- 8
                      intro li a1 W2 hA K hK
                      have e118 : a1.tmps.getD 118 undef = .pointer (some ⟨w.heap.size + 2, 0, none⟩) := hA.val 0 118 (by kernel_rfl) (by kernel_rfl)
                      refine opStep (some l) 0 rfl rfl (fun c hc => by cases hc) ?_
                      go_simp
                      exact hK _ _ rfl trivial (hA.ph.other (by decide))
                    · -- 9
                      intro li a1 W2 hA K hK
                      have e126 : a1.tmps.getD 126 undef = .pointer (some ⟨w.heap.size + 2, 0, none⟩) := hA.val 8 126 (by kernel_rfl) (by kernel_rfl)
                      refine opStep (some l) 0 rfl rfl (fun c hc => by cases hc) ?_
                      go_simp
                      exact hK _ _ rfl trivial (hA.ph.other (by decide))
                    · -- 10
                      intro li a1 W2 hA K hK
                      have e127 : a1.tmps.getD 127 undef = .pointer (some ⟨w.heap.size + 2, 2, none⟩) := hA.val 9 127 (by kernel_rfl) (by kernel_rfl)
                      have e119 : a1.tmps.getD 119 undef = .int .i64 (o : Int) := hA.val 1 119 (by kernel_rfl) (by kernel_rfl)
                      refine opStep (some l) 0 rfl rfl (fun c hc => by cases hc) ?_
                      go_simp
                      exact hK _ _ rfl trivial (hA.ph.other (by decide))
                    · -- 11
                      intro li a1 W2 hA K hK
                      have e128 : a1.tmps.getD 128 undef = .pointer (some ⟨w.heap.size + 2, 2 + o * 8, none⟩) := hA.val 10 128 (by kernel_rfl) (by kernel_rfl)
                      have e120 : a1.tmps.getD 120 undef = .int .i64 (G : Int) := hA.val 2 120 (by kernel_rfl) (by kernel_rfl)
                      refine opStep (some l) 0 rfl rfl (fun c hc => by cases hc) ?_
                      go_simp
                      exact hK _ _ rfl trivial (hA.ph.other (by decide))
                    · -- 12
                      intro li a1 W2 hA K hK
                      have e129 : a1.tmps.getD 129 undef = .pointer (some ⟨w.heap.size + 2, 2 + o * 8 + G, none⟩) := hA.val 11 129 (by kernel_rfl) (by kernel_rfl)
                      have e124 : a1.tmps.getD 124 undef = .int .i64 (P + r.hi) := hA.val 6 124 (by kernel_rfl) (by kernel_rfl)
                      have x0 := hA.ph.at_.pa.c1
                      have g0 := hA.ph.bg.c1
                      have z0 := hA.ph.bz.c1
                      have af := hA.ph.at_.at_.froz (2 + o * 8 + G)
                      have al := hA.ph.at_.at_.lt
                      have a0 := hA.ph.at_.at_.time ho8 hG8
                      refine opStep (some l) 0 rfl rfl (fun c hc => by cases hc) ?_
                      go_simp
                      exact hK undef _ trivial trivial (hA.ph.sto (by rw [hA.lsize]; decide) hA.new ho8 hG8 HY2.out)
                    · -- 13
                      intro li a1 W2 hA K hK
                      have e121 : a1.tmps.getD 121 undef = .pointer (some ⟨w.heap.size + 2, 0, none⟩) := hA.val 3 121 (by kernel_rfl) (by kernel_rfl)
                      refine opStep (some l) 0 rfl rfl (fun c hc => by cases hc) ?_
                      go_simp
                      exact hK _ _ rfl trivial (hA.ph.other (by decide))
                    · -- 14
                      intro li a1 W2 hA K hK
                      have e130 : a1.tmps.getD 130 undef = .pointer (some ⟨w.heap.size + 2, 0, none⟩) := hA.val 13 130 (by kernel_rfl) (by kernel_rfl)
                      refine opStep (some l) 0 rfl rfl (fun c hc => by cases hc) ?_
                      go_simp
                      exact hK _ _ rfl trivial (hA.ph.other (by decide))
                    · -- 15
                      intro li a1 W2 hA K hK
                      have e131 : a1.tmps.getD 131 undef = .pointer (some ⟨w.heap.size + 2, 66, none⟩) := hA.val 14 131 (by kernel_rfl) (by kernel_rfl)
                      have e122 : a1.tmps.getD 122 undef = .int .i64 (o : Int) := hA.val 4 122 (by kernel_rfl) (by kernel_rfl)
                      refine opStep (some l) 0 rfl rfl (fun c hc => by cases hc) ?_
                      go_simp
                      exact hK _ _ rfl trivial (hA.ph.other (by decide))
                    · -- 16
                      intro li a1 W2 hA K hK
                      have e132 : a1.tmps.getD 132 undef = .pointer (some ⟨w.heap.size + 2, 66 + o * 8, none⟩) := hA.val 15 132 (by kernel_rfl) (by kernel_rfl)
                      have e123 : a1.tmps.getD 123 undef = .int .i64 (G : Int) := hA.val 5 123 (by kernel_rfl) (by kernel_rfl)
                      refine opStep (some l) 0 rfl rfl (fun c hc => by cases hc) ?_
                      go_simp
                      exact hK _ _ rfl trivial (hA.ph.other (by decide))
                  intro li a1 W2 hD
                  have e133 : a1.tmps.getD 133 undef = .pointer (some ⟨w.heap.size + 2, 66 + o * 8 + G, none⟩) := hD.val 16 133 (by kernel_rfl) (by kernel_rfl)
                  have e125 : a1.tmps.getD 125 undef = .int .i64 (p : Int) := hD.val 7 125 (by kernel_rfl) (by kernel_rfl)
                  have hph := hD.ph.done (hD.all 12 (by decide))
                  have af := hph.1.at_.froz (66 + o * 8 + G)
                  have a0 := hph.1.at_.first ho8 hG8
                  have al := hph.1.at_.lt
                  have hkp2 := hD.keeps (ds := [118, 119, 120, 121, 122, 123, 124, 125, 126, 127, 128, 129, 130, 131, 132, 133]) (by kernel_rfl)
                  refine tail_store (i := 17) (W' := W2.setCell ⟨w.heap.size + 2, 66 + o * 8 + G, none⟩ (.int .i64 (p : Int))) (some l) 0 rfl rfl rfl (fun c hc => by cases hc) (by go_simp) ?_
                  have e := act_mix [118, 119, 120, 121, 122, 123, 124, 125, 126, 127, 128, 129, 130, 131, 132, 133] hD.size hD.defers (fun i _ hc => hkp2 i hc)
                  generalize (fun i => a1.tmps.getD i undef) = g' at e
                  refine wpListIn_nil ?_
                  rw [e]
                  have HFI := hid (show AS w w.heap.size m A c A2 c2 (upd2 T' o G (P + r.hi)) (upd2 F' o G (p : Int)) (W2.setCell ⟨w.heap.size + 2, 66 + o * 8 + G, none⟩ (.int .i64 (p : Int))) ∧ MChg (fun q => q = w.heap.size + 2) Wr (W2.setCell ⟨w.heap.size + 2, 66 + o * 8 + G, none⟩ (.int .i64 (p : Int))) from ⟨hph.1.setF ho8 hG8 _, hph.2.set rfl _⟩)
                  clear e hD hkp2 e133 e125 hph af a0 al
                  simp only [mix, List.contains_cons, List.contains_nil, Nat.reduceAdd, Nat.reduceBEq, Bool.or_false, Bool.or_true, cond_true, cond_false]
                  generalize W2.setCell ⟨w.heap.size + 2, 66 + o * 8 + G, none⟩ (.int .i64 (p : Int)) = W5' at *
                  gi_wp2
                  refine ⟨HFI.out.2.from_ (fun q e => by have := H6.out.1.size; omega), HFI.out.2.keep, HJ.out.1.trans HFI.out.2, upd2 T' o G (P + r.hi), upd2 F' o G (p : Int), HFI.out.1, (HJ.out.2.1.updT o _).updF o _, ?_⟩
                  rw [col_same, col_same, HPP.out]
                  have htk := HJ.out.2.2.1.take HJ.out.2.2.2.1 HJ.out.2.2.2.2.2.1 HJ.out.2.2.2.2.1 HJ.out.2.2.2.2.2.2 HSEL.out.1 hhi.1 hhi.2 (by rw [HPP.out]; exact hlt)
                  rw [HPP.out] at htk
                  exact htk
        · have hiI : decide ((i : Int) < (m.work.length : Int)) = false := decide_eq_false (by omega)
          obtain rfl : i = m.work.length := by omega
          have HDN := hid (HR.out.2.1.next (HR.out.2.2.2.1.end_ hw8))
          go_wp2
          refine ⟨⟨G + 1, Ds, ⟨by omega, ⟨T, F, HR.out.1, HDN.out⟩, HR.out.2.2.2.2⟩, rfl, rfl, rfl, rfl, rfl, rfl, (show Value.int .i64 ((G : Int) + 1) = .int .i64 ((G + 1 : Nat) : Int) by go_num)⟩, ?_⟩
          first | (simp [intOf]; done) | (simp [intOf]; omega)
  · have hGI : decide ((G : Int) < (m.work.length : Int)) = false := decide_eq_false (by omega)
    obtain rfl : G = m.work.length := by omega
    have x0 := HR.out.1.pa.c1
    go_wp2
    refine leaves_marks (B := w.heap.size + 4) Ds _ HR.out.2.2 (fun W' hk hb => ?_)
    exact ⟨.pointer (some ⟨w.heap.size + 2, 0, none⟩), results_tmp Tryz.results43 _ _ _, rfl, T, F, HR.out.1.upto hb, HR.out.2.1⟩
end Go.Proofs.YtlnamjhgbdacbaaGreat
/- Maps whose keys are stands. Conditions stand at each theorem. -/
namespace Go.Proofs.YtlnamjhgbdacbaaGreat
open Go.RowKit Go.Shelf

def stV (a s : Int) : Value := .agg #[.int .i64 a, .int .i64 s]
theorem stand_law : WideMaps.KeyLaw Tryz.prog 153 := deep_law (m := 2) (by decide) (by kernel_rfl) (by kernel_rfl) (by kernel_rfl)
theorem stand_fields : ∃ f0 f1 : Field, Tryz.prog.underlying 153 = some (.struct #[f0, f1]) ∧ f0.name = "at" ∧ f0.type = 3 ∧ f0.offset = 0 ∧ f1.name = "left" ∧ f1.type = 111 ∧ f1.offset = 1 :=
  mtwo_fields (by kernel_rfl) (by kernel_rfl)
theorem stand_cells : Tryz.prog.cellsOf 153 = 2 ∧ Tryz.prog.cellsOf 3 = 1 ∧ Tryz.prog.cellsOf 111 = 1 := ⟨by kernel_rfl, by kernel_rfl, by kernel_rfl⟩
theorem set_lits (d : Nat) {x : Int} (h : (Lit.int .i64 x).wf = true) : Tryz.prog.keyLits (d + 1) 111 [.int .i64 x] = some [.int .i64 x] := by
  simp [Program.keyLits, Tryz.underlying111, h]
theorem stand_key {a s : Int} (ha : Ix a) (hb : Ix s) : ∃ l, keyOf Tryz.prog 153 (stV a s) = some l := by
  obtain ⟨f0, f1, h0, h1, h2, h3, h4, h5, h6⟩ := stand_fields
  unfold Ix at ha hb
  have hkt : Tryz.prog.keyType 153 = true := by kernel_rfl
  have hsz : decide (2 ≤ Tryz.prog.types.size) = true := by kernel_rfl
  obtain ⟨m, hm⟩ : ∃ m, Tryz.prog.types.size + 1 = m + 3 := ⟨Tryz.prog.types.size - 2, by have := of_decide_eq_true hsz; omega⟩
  have hfm : (stV a s).formed Tryz.prog 153 = true := by
    simp only [stV, Value.formed, h0, stand_cells.1]; rfl
  unfold keyOf
  simp only [h0, hkt, hfm, Bool.and_self, if_true, hm]
  unfold Program.keyLits
  have hnm : (#[f0, f1].all fun x => x.name != "_") = true := by simp [h1, h4]
  simp only [h0, stand_cells.1, stV, Value.cells, List.length_cons, List.length_nil, Nat.zero_add, Nat.reduceAdd, hnm, and_self, if_true]
  simp only [List.mapM_cons, List.mapM_nil, h2, h3, h5, h6, stand_cells.2.1, stand_cells.2.2, List.drop_zero, List.drop_succ_cons, List.take_succ_cons, List.take_zero]
  rw [mint_lits (m + 1) (mwf64 (by omega) (by omega)), set_lits (m + 1) (mwf64 (by omega) (by omega))]
  exact ⟨_, rfl⟩

/-- all keys are stands -/
def StandKeys (es : Array MapEntry) : Prop := ∀ e ∈ es.toList, ∃ l, keyOf Tryz.prog 153 e.key = some l

section
variable {W : World} {b t e : Nat} {es : Array MapEntry} {clock : Nat} {key : Value}
theorem stand_look (c : Bool) (ht : Tryz.prog.underlying t = some (.map 153 e)) {z : Value} (hz : (zeroValue e).run Tryz.prog W = .ok z W) (hb : W.heap[b]? = some (.map es clock)) (hes : StandKeys es) (hk : ∃ l, keyOf Tryz.prog 153 key = some l) :
    ((Instr.lookup t (.map (some b)) key c).run Tryz.prog W = .ok (if c then .tuple #[z, .bool false] else z) W ∧ ∀ x ∈ es.toList, x.key ≠ key) ∨
    ∃ x ∈ es.toList, x.key = key ∧ (Instr.lookup t (.map (some b)) key c).run Tryz.prog W = .ok (if c then .tuple #[x.val, .bool true] else x.val) W := by
  obtain ⟨l, hk⟩ := hk
  rcases stand_law.find W hk es.toList hes with ⟨h1, h2⟩ | ⟨j, e0, h1, h2, h3⟩
  · exact .inl ⟨by simp [Instr.lookup, run_underlying ht, MapKept.run_getObj_map hb, stand_law.check W _ hk, h1, hz, Result.andThen], h2⟩
  · exact .inr ⟨e0, List.mem_of_getElem? h2, h3, by simp [Instr.lookup, run_underlying ht, MapKept.run_getObj_map hb, stand_law.check W _ hk, h1, Result.andThen]⟩

theorem stand_store (ht : Tryz.prog.underlying t = some (.map 153 e)) (hb : W.heap[b]? = some (.map es clock)) (hes : StandKeys es) (hk : ∃ l, keyOf Tryz.prog 153 key = some l) (v : Value) :
    ∃ es' clock', (Instr.mapUpdate t (.map (some b)) key v).run Tryz.prog W = .ok () (W.putObj b (.map es' clock')) ∧ StandKeys es' ∧ (∀ x ∈ es'.toList, x ∈ es.toList ∨ (x.key = key ∧ x.val = v)) ∧ ∃ x ∈ es'.toList, x.key = key ∧ x.val = v := by
  obtain ⟨l, hk⟩ := hk
  rcases stand_law.find W hk es.toList hes with ⟨h1, h2⟩ | ⟨j, e0, h1, h2, h3⟩
  · refine ⟨es.push ⟨key, v, clock⟩, clock + 1, ?_, ?_, ?_, ⟨⟨key, v, clock⟩, by simp, rfl, rfl⟩⟩
    · simp [Instr.mapUpdate, run_underlying ht, MapKept.run_getObj_map hb, stand_law.check W false hk, h1, MapKept.run_setObj_map _ hb, Result.andThen, World.putObj]
    · intro x hx
      simp only [Array.toList_push, List.mem_append, List.mem_singleton] at hx
      rcases hx with hx | rfl
      · exact hes x hx
      · exact ⟨l, hk⟩
    · intro x hx
      simp only [Array.toList_push, List.mem_append, List.mem_singleton] at hx
      rcases hx with hx | rfl
      · exact .inl hx
      · exact .inr ⟨rfl, rfl⟩
  · have hj := (List.getElem?_eq_some_iff.1 h2).1
    have hj' : j < es.size := by simpa using hj
    have he0 : es[j]? = some e0 := by simpa using h2
    have hst := stand_law.stays W hk
    have hmem : ∀ x ∈ (es.modify j fun e => { e with key := key, val := v }).toList, x ∈ es.toList ∨ (x.key = key ∧ x.val = v) := by
      intro x hx
      obtain ⟨i, hi⟩ := List.getElem?_of_mem hx
      rw [Array.getElem?_toList, Array.getElem?_modify] at hi
      split at hi
      · cases hq : es[i]? with
        | none => rw [hq] at hi; cases hi
        | some y =>
          rw [hq] at hi
          simp at hi
          subst hi
          exact .inr ⟨rfl, rfl⟩
      · exact .inl (List.mem_of_getElem? (by rw [Array.getElem?_toList]; exact hi))
    refine ⟨es.modify j fun e => { e with key := key, val := v }, clock, ?_, ?_, hmem, ⟨{ e0 with key := key, val := v }, ?_, rfl, rfl⟩⟩
    · simp [Instr.mapUpdate, run_underlying ht, MapKept.run_getObj_map hb, stand_law.check W false hk, h1, he0, h3, hst, MapKept.run_setObj_map _ hb, Result.andThen, World.putObj]
    · intro x hx
      rcases hmem x hx with h | ⟨h, _⟩
      · exact hes x h
      · exact ⟨l, by rw [h]; exact hk⟩
    · refine List.mem_of_getElem? (i := j) ?_
      rw [Array.getElem?_toList, Array.getElem?_modify, he0]
      simp
end
end Go.Proofs.YtlnamjhgbdacbaaGreat
/- choose, at a whole row: what it yields. -/
namespace Go.Proofs.YtlnamjhgbdacbaaGreat
open Go.RowKit Go.Shelf

/-- what is asked of the table, the row and the fixes -/
structure RowOk (cells : List Int) (b : Int) (fs : List Fx) : Prop where
  b1 : 2 ≤ b
  b2 : b ≤ 100
  l1 : 1 ≤ cells.length
  l2 : cells.length ≤ 4
  cell : ∀ x ∈ cells, 0 ≤ x ∧ x ≤ 10000
  n : fs.length ≤ 100
  col : ∀ f ∈ fs, 0 ≤ f.col ∧ f.col < cells.length
theorem sum_bound : ∀ (xs : List Int) (M : Int), (∀ x ∈ xs, 0 ≤ x ∧ x ≤ M) → 0 ≤ xs.sum ∧ xs.sum ≤ M * xs.length
  | [], M, _ => by simp
  | x :: xs, M, h => by
    have h1 := h x (by simp)
    have h2 := sum_bound xs M (fun x hx => h x (by simp [hx]))
    simp only [List.sum_cons, List.length_cons]
    have : M * ((xs.length + 1 : Nat) : Int) = M * xs.length + M := by rw [Int.natCast_add]; simp [Int.mul_add]
    omega
theorem RowOk.sum {cells : List Int} {b : Int} {fs : List Fx} (h : RowOk cells b fs) : 0 ≤ cells.sum ∧ cells.sum ≤ 1000000 := by
  have := sum_bound cells 10000 h.cell
  have h2 := h.l2
  omega

set_option maxRecDepth 100000 in
set_option maxHeartbeats 4000000 in
theorem choose_take {Bc Bw Br By Bh P l n : Nat} {A0 : Option Addr} {c0 : Nat} {cells : List Int} {row b : Int} {At : Option Addr} {ct nt : Nat} {Af : Option Addr} {cf : Nat} {fs : List Fx} {mp : Value} {W : World}
    {y m : Nat} {pre : List Int} {R : Ending → World → Prop}
    (he : Env Bc Bw Br By Bh P l n A0 c0 cells row b At ct nt Af cf fs mp W) (hn : n ≤ W.heap.size) (hlb : LB W y m pre) (hlen : pre.length = cells.length) (ok : RowOk cells b fs) (hpre : ∀ x ∈ pre, 0 ≤ x ∧ x ≤ 10100)
    (h1 : nearB b pre.sum cells.sum = true) (h2 : holdsB fs row pre = true)
    (hy : ∀ A c W1, Below W.heap.size W W1 → IsInts W1 W1.heap.size A pre → (∀ a, A = some a → W.heap.size ≤ a.block ∧ ∃ cs, Blk W1 a.block 3 cs) → pre.length ≤ c → c ≤ maxLen → (A = none → c = 0) → YieldAt (FW none) 0 Tryz.prog l #[.slice A pre.length c] W1 fun e W2 => e = .returned (.bool true) ∧ R e W2) :
    Calls Tryz.prog 96 #[.slice (some ⟨y, 0, none⟩) pre.length m, .pointer (some ⟨Bc, 0, none⟩), .pointer (some ⟨Bw, 0, none⟩), .pointer (some ⟨Br, 0, none⟩), .pointer (some ⟨By, 0, none⟩), .pointer (some ⟨Bh, 0, none⟩)] W R := by
  have k := he.reads
  obtain ⟨k1, k2, k3, k4, k5, k6, k7, k8⟩ := k
  have HF := hid (show ∀ W1, Below W.heap.size W W1 → _ from fun W1 hb => (he.below hb hn).reads)
  have T1 := hid (show ∀ W1, Below W.heap.size W W1 → _ from fun W1 hb => total_any _ m pre W1 (hlb.below hb |>.ints (hlb.below hb).lt) (by have := ok.l2; omega) (fun x hx => by have := hpre x hx; omega))
  have T2 := hid (show ∀ W1, Below W.heap.size W W1 → _ from fun W1 hb => total_any A0 c0 cells W1 ((he.below hb hn).ic.more (by have := hb.size; omega)) (by have := ok.l2; omega) (fun x hx => by have := ok.cell x hx; omega))
  have T3 := hid (show ∀ W1, Below W.heap.size W W1 → _ from fun W1 hb => near_any b pre.sum cells.sum (.slice At nt ct) (.slice Af fs.length cf) W1 ok.b1 ok.b2 ok.sum.1 ok.sum.2)
  rw [h1] at T3
  have T4 := hid (show ∀ W1, Below W.heap.size W W1 → _ from fun W1 hb => holds_any (.int .i64 b) (.slice At nt ct) Af cf fs row (some ⟨y, 0, none⟩) m pre W1 ((he.below hb hn).ix.more (by have := hb.size; omega)) (hlb.below hb |>.ints (hlb.below hb).lt) ok.n (by have := ok.l2; omega) (fun f hf => by have := ok.col f hf; omega))
  rw [h2] at T4
  have T5 := hid (show ∀ W1, Below W.heap.size W W1 → _ from fun W1 hb => clone_any (some ⟨y, 0, none⟩) m pre W1 (hlb.below hb |>.ints (hlb.below hb).lt) (fun e => by cases e) (by have := ok.l2; omega))
  have HY := hid hy
  have hL : ((pre.length : Int) == (cells.length : Int)) = true := by simp [hlen]
  clear hy he hlb ok hpre h1 h2 hn hlen
  go_enter Tryz.func96, Tryz.ntmps96
  go_wp2
  clear k1 k2 k3 k4 k5 k6 k7 k8
  refine (wpIn_wide (n := 0)).1 ?_
  refine wpIn_region_each 24 (fun i v W' => match i with | 0 => v = .pointer (some ⟨P, 0, none⟩) | 1 => v = .pointer (some ⟨P, 0, none⟩) | 2 => v = .pointer (some ⟨P, 0, none⟩) | 3 => v = .agg #[.int .i64 b, .slice At nt ct, .slice Af fs.length cf] | 4 => v = .slice (some ⟨y, 0, none⟩) pre.length m | 5 => v = .int .i64 pre.sum | 6 => v = .slice A0 cells.length c0 | 7 => v = .int .i64 cells.sum | 8 => v = .bool true | 9 => v = .bool false | 10 => v = .bool false | 11 => v = .pointer (some ⟨P, 0, none⟩) | 12 => v = .pointer (some ⟨P, 0, none⟩) | 13 => v = .pointer (some ⟨P, 0, none⟩) | 14 => v = .agg #[.int .i64 b, .slice At nt ct, .slice Af fs.length cf] | 15 => v = .int .i64 row | 16 => v = .slice (some ⟨y, 0, none⟩) pre.length m | 17 => v = .bool true | 18 => v = .bool false | 19 => v = .bool false | 20 => v = .bool false | 21 => v = .func (.yield l) #[] #[] | 22 => v = .slice (some ⟨y, 0, none⟩) pre.length m | 23 => ∃ A c, v = .slice A pre.length c ∧ pre.length ≤ c ∧ c ≤ maxLen ∧ IsInts W' W'.heap.size A pre ∧ (∀ a, A = some a → W.heap.size ≤ a.block ∧ ∃ cs, Blk W' a.block 3 cs) ∧ (A = none → c = 0) | _ => True) (fun W W' => Below W.heap.size W W') (fun _ _ => True) (by kernel_rfl) (by kernel_rfl) ?_ (fun h k => h.trans (k.mono h.size)) ⟨rfl, rfl, rfl, Nat.le_refl _, fun _ _ => rfl⟩ trivial (by kernel_rfl) ?_ ?_
  · intro i v W1 W2 hb h
    match i, h with
    | 0, h => exact h
    | 1, h => exact h
    | 2, h => exact h
    | 3, h => exact h
    | 4, h => exact h
    | 5, h => exact h
    | 6, h => exact h
    | 7, h => exact h
    | 8, h => exact h
    | 9, h => exact h
    | 10, h => exact h
    | 11, h => exact h
    | 12, h => exact h
    | 13, h => exact h
    | 14, h => exact h
    | 15, h => exact h
    | 16, h => exact h
    | 17, h => exact h
    | 18, h => exact h
    | 19, h => exact h
    | 20, h => exact h
    | 21, h => exact h
    | 22, h => exact h
    | 23, h =>
      obtain ⟨A, c, rfl, g1, g2, g3, g4, g5⟩ := h
      exact ⟨A, c, rfl, g1, g2, g3.at_ hb, fun a e => ⟨(g4 a e).1, ex_of (g4 a e).2 fun _ h => h.keep hb⟩, g5⟩
    | i + 24, h => trivial
  · refine ⟨?_, ?_, ?_, ?_, ?_, ?_, ?_, ?_, ?_, ?_, ?_, ?_, ?_, ?_, ?_, ?_, ?_, ?_, ?_, ?_, ?_, ?_, ?_, ?_, trivial⟩
    · -- 0: Op.load 83 t2
      intro li a1 W1 hA K hK
      have e2 := hA.par 2 (by kernel_rfl)
      obtain ⟨q1, q2, q3, q4, q5, q6, q7, q8⟩ := HF.out W1 hA.st
      have HS := hid hA.st
      refine opStep none 0 rfl rfl (fun c hc => by cases hc) ?_
      go_simp
      exact hK _ _ rfl (Below.refl _ _) trivial
    · -- 1: Op.nilCheck t16
      intro li a1 W1 hA K hK
      have e16 : a1.tmps.getD 16 undef = .pointer (some ⟨P, 0, none⟩) := hA.val 0 16 (by kernel_rfl) (by kernel_rfl)
      obtain ⟨q1, q2, q3, q4, q5, q6, q7, q8⟩ := HF.out W1 hA.st
      have HS := hid hA.st
      refine opStep none 0 rfl rfl (fun c hc => by cases hc) ?_
      go_simp
      exact hK _ _ rfl (Below.refl _ _) trivial
    · -- 2: Op.fieldAddr 124 t17 0
      intro li a1 W1 hA K hK
      have e17 : a1.tmps.getD 17 undef = .pointer (some ⟨P, 0, none⟩) := hA.val 1 17 (by kernel_rfl) (by kernel_rfl)
      obtain ⟨q1, q2, q3, q4, q5, q6, q7, q8⟩ := HF.out W1 hA.st
      have HS := hid hA.st
      refine opStep none 0 rfl rfl (fun c hc => by cases hc) ?_
      go_simp
      exact hK _ _ rfl (Below.refl _ _) trivial
    · -- 3: Op.load 33 t18
      intro li a1 W1 hA K hK
      have e18 : a1.tmps.getD 18 undef = .pointer (some ⟨P, 0, none⟩) := hA.val 2 18 (by kernel_rfl) (by kernel_rfl)
      obtain ⟨q1, q2, q3, q4, q5, q6, q7, q8⟩ := HF.out W1 hA.st
      have HS := hid hA.st
      refine opStep none 0 rfl rfl (fun c hc => by cases hc) ?_
      go_simp
      exact hK _ _ rfl (Below.refl _ _) trivial
    · -- 4: Op.move t0
      intro li a1 W1 hA K hK
      have e0 := hA.par 0 (by kernel_rfl)
      obtain ⟨q1, q2, q3, q4, q5, q6, q7, q8⟩ := HF.out W1 hA.st
      have HS := hid hA.st
      refine opStep none 0 rfl rfl (fun c hc => by cases hc) ?_
      go_simp
      exact hK _ _ rfl (Below.refl _ _) trivial
    · -- 5: Op.call { value (Operand.func 63), args := #[t20], argTypes := #[56] }
      intro li a1 W1 hA K hK
      have e20 : a1.tmps.getD 20 undef = .slice (some ⟨y, 0, none⟩) pre.length m := hA.val 4 20 (by kernel_rfl) (by kernel_rfl)
      obtain ⟨q1, q2, q3, q4, q5, q6, q7, q8⟩ := HF.out W1 hA.st
      have HS := hid hA.st
      refine opStep none 0 rfl rfl (fun c hc => by cases hc) ?_
      go_simp
      refine (T1.out W1 HS.out).mono ?_
      rintro e W2 ⟨rfl, rfl⟩
      exact hK _ _ rfl (Below.refl _ _) trivial
    · -- 6: Op.load 56 t1
      intro li a1 W1 hA K hK
      have e1 := hA.par 1 (by kernel_rfl)
      obtain ⟨q1, q2, q3, q4, q5, q6, q7, q8⟩ := HF.out W1 hA.st
      have HS := hid hA.st
      refine opStep none 0 rfl rfl (fun c hc => by cases hc) ?_
      go_simp
      exact hK _ _ rfl (Below.refl _ _) trivial
    · -- 7: Op.call { value (Operand.func 63), args := #[t22], argTypes := #[56] }
      intro li a1 W1 hA K hK
      have e22 : a1.tmps.getD 22 undef = .slice A0 cells.length c0 := hA.val 6 22 (by kernel_rfl) (by kernel_rfl)
      obtain ⟨q1, q2, q3, q4, q5, q6, q7, q8⟩ := HF.out W1 hA.st
      have HS := hid hA.st
      refine opStep none 0 rfl rfl (fun c hc => by cases hc) ?_
      go_simp
      refine (T2.out W1 HS.out).mono ?_
      rintro e W2 ⟨rfl, rfl⟩
      exact hK _ _ rfl (Below.refl _ _) trivial
    · -- 8: Op.call { value (Operand.func 70), args := #[t19, t21, t23], argTypes := #[33, 3, 3] }
      intro li a1 W1 hA K hK
      have e19 : a1.tmps.getD 19 undef = .agg #[.int .i64 b, .slice At nt ct, .slice Af fs.length cf] := hA.val 3 19 (by kernel_rfl) (by kernel_rfl)
      have e21 : a1.tmps.getD 21 undef = .int .i64 pre.sum := hA.val 5 21 (by kernel_rfl) (by kernel_rfl)
      have e23 : a1.tmps.getD 23 undef = .int .i64 cells.sum := hA.val 7 23 (by kernel_rfl) (by kernel_rfl)
      obtain ⟨q1, q2, q3, q4, q5, q6, q7, q8⟩ := HF.out W1 hA.st
      have HS := hid hA.st
      refine opStep none 0 rfl rfl (fun c hc => by cases hc) ?_
      go_simp
      refine (T3.out W1 HS.out).mono ?_
      rintro e W2 ⟨rfl, hb2⟩
      exact hK _ _ rfl hb2 trivial
    · -- 9: Op.unOp UnOp.not 4 t24
      intro li a1 W1 hA K hK
      have e24 : a1.tmps.getD 24 undef = .bool true := hA.val 8 24 (by kernel_rfl) (by kernel_rfl)
      obtain ⟨q1, q2, q3, q4, q5, q6, q7, q8⟩ := HF.out W1 hA.st
      have HS := hid hA.st
      refine opStep none 0 rfl rfl (fun c hc => by cases hc) ?_
      go_simp
      exact hK _ _ rfl (Below.refl _ _) trivial
    · -- 10: Op.move t25
      intro li a1 W1 hA K hK
      have e25 : a1.tmps.getD 25 undef = .bool false := hA.val 9 25 (by kernel_rfl) (by kernel_rfl)
      obtain ⟨q1, q2, q3, q4, q5, q6, q7, q8⟩ := HF.out W1 hA.st
      have HS := hid hA.st
      refine opStep none 0 rfl rfl (fun c hc => by cases hc) ?_
      go_simp
      exact hK _ _ rfl (Below.refl _ _) trivial
    · -- 11: Op.load 83 t2
      intro li a1 W1 hA K hK
      have e2 := hA.par 2 (by kernel_rfl)
      obtain ⟨q1, q2, q3, q4, q5, q6, q7, q8⟩ := HF.out W1 hA.st
      have HS := hid hA.st
      refine opStep none 0 rfl (wanted_yes rfl (show dstB _ 10 26 = true by kernel_rfl) (hA.val 10 26 (by kernel_rfl) (by kernel_rfl))) (fun c hc => by cases hc) ?_
      go_simp
      exact hK _ _ rfl (Below.refl _ _) trivial
    · -- 12: Op.nilCheck t27
      intro li a1 W1 hA K hK
      have e27 : a1.tmps.getD 27 undef = .pointer (some ⟨P, 0, none⟩) := hA.val 11 27 (by kernel_rfl) (by kernel_rfl)
      obtain ⟨q1, q2, q3, q4, q5, q6, q7, q8⟩ := HF.out W1 hA.st
      have HS := hid hA.st
      refine opStep none 0 rfl (wanted_yes rfl (show dstB _ 10 26 = true by kernel_rfl) (hA.val 10 26 (by kernel_rfl) (by kernel_rfl))) (fun c hc => by cases hc) ?_
      go_simp
      exact hK _ _ rfl (Below.refl _ _) trivial
    · -- 13: Op.fieldAddr 124 t28 0
      intro li a1 W1 hA K hK
      have e28 : a1.tmps.getD 28 undef = .pointer (some ⟨P, 0, none⟩) := hA.val 12 28 (by kernel_rfl) (by kernel_rfl)
      obtain ⟨q1, q2, q3, q4, q5, q6, q7, q8⟩ := HF.out W1 hA.st
      have HS := hid hA.st
      refine opStep none 0 rfl (wanted_yes rfl (show dstB _ 10 26 = true by kernel_rfl) (hA.val 10 26 (by kernel_rfl) (by kernel_rfl))) (fun c hc => by cases hc) ?_
      go_simp
      exact hK _ _ rfl (Below.refl _ _) trivial
    · -- 14: Op.load 33 t29
      intro li a1 W1 hA K hK
      have e29 : a1.tmps.getD 29 undef = .pointer (some ⟨P, 0, none⟩) := hA.val 13 29 (by kernel_rfl) (by kernel_rfl)
      obtain ⟨q1, q2, q3, q4, q5, q6, q7, q8⟩ := HF.out W1 hA.st
      have HS := hid hA.st
      refine opStep none 0 rfl (wanted_yes rfl (show dstB _ 10 26 = true by kernel_rfl) (hA.val 10 26 (by kernel_rfl) (by kernel_rfl))) (fun c hc => by cases hc) ?_
      go_simp
      exact hK _ _ rfl (Below.refl _ _) trivial
    · -- 15: Op.load 3 t3
      intro li a1 W1 hA K hK
      have e3 := hA.par 3 (by kernel_rfl)
      obtain ⟨q1, q2, q3, q4, q5, q6, q7, q8⟩ := HF.out W1 hA.st
      have HS := hid hA.st
      refine opStep none 0 rfl (wanted_yes rfl (show dstB _ 10 26 = true by kernel_rfl) (hA.val 10 26 (by kernel_rfl) (by kernel_rfl))) (fun c hc => by cases hc) ?_
      go_simp
      exact hK _ _ rfl (Below.refl _ _) trivial
    · -- 16: Op.move t0
      intro li a1 W1 hA K hK
      have e0 := hA.par 0 (by kernel_rfl)
      obtain ⟨q1, q2, q3, q4, q5, q6, q7, q8⟩ := HF.out W1 hA.st
      have HS := hid hA.st
      refine opStep none 0 rfl (wanted_yes rfl (show dstB _ 10 26 = true by kernel_rfl) (hA.val 10 26 (by kernel_rfl) (by kernel_rfl))) (fun c hc => by cases hc) ?_
      go_simp
      exact hK _ _ rfl (Below.refl _ _) trivial
    · -- 17: Op.call { value (Operand.func 71), args := #[t30, t31, t32], argTypes := #[33, 3, 56] }
      intro li a1 W1 hA K hK
      have e30 : a1.tmps.getD 30 undef = .agg #[.int .i64 b, .slice At nt ct, .slice Af fs.length cf] := hA.val 14 30 (by kernel_rfl) (by kernel_rfl)
      have e31 : a1.tmps.getD 31 undef = .int .i64 row := hA.val 15 31 (by kernel_rfl) (by kernel_rfl)
      have e32 : a1.tmps.getD 32 undef = .slice (some ⟨y, 0, none⟩) pre.length m := hA.val 16 32 (by kernel_rfl) (by kernel_rfl)
      obtain ⟨q1, q2, q3, q4, q5, q6, q7, q8⟩ := HF.out W1 hA.st
      have HS := hid hA.st
      refine opStep none 0 rfl (wanted_yes rfl (show dstB _ 10 26 = true by kernel_rfl) (hA.val 10 26 (by kernel_rfl) (by kernel_rfl))) (fun c hc => by cases hc) ?_
      go_simp
      refine (T4.out W1 HS.out).mono ?_
      rintro e W2 ⟨rfl, hb2⟩
      exact hK _ _ rfl hb2 trivial
    · -- 18: Op.unOp UnOp.not 4 t33
      intro li a1 W1 hA K hK
      have e33 : a1.tmps.getD 33 undef = .bool true := hA.val 17 33 (by kernel_rfl) (by kernel_rfl)
      obtain ⟨q1, q2, q3, q4, q5, q6, q7, q8⟩ := HF.out W1 hA.st
      have HS := hid hA.st
      refine opStep none 0 rfl (wanted_yes rfl (show dstB _ 10 26 = true by kernel_rfl) (hA.val 10 26 (by kernel_rfl) (by kernel_rfl))) (fun c hc => by cases hc) ?_
      go_simp
      exact hK _ _ rfl (Below.refl _ _) trivial
    · -- 19: Op.pick t26 (const (Value.bool true)) t34
      intro li a1 W1 hA K hK
      have e26 : a1.tmps.getD 26 undef = .bool false := hA.val 10 26 (by kernel_rfl) (by kernel_rfl)
      have e34 : a1.tmps.getD 34 undef = .bool false := hA.val 18 34 (by kernel_rfl) (by kernel_rfl)
      obtain ⟨q1, q2, q3, q4, q5, q6, q7, q8⟩ := HF.out W1 hA.st
      have HS := hid hA.st
      refine opStep none 0 rfl rfl (fun c hc => by cases hc) ?_
      go_simp
      exact hK _ _ rfl (Below.refl _ _) trivial
    · -- 20: Op.move t35
      intro li a1 W1 hA K hK
      have e35 : a1.tmps.getD 35 undef = .bool false := hA.val 19 35 (by kernel_rfl) (by kernel_rfl)
      obtain ⟨q1, q2, q3, q4, q5, q6, q7, q8⟩ := HF.out W1 hA.st
      have HS := hid hA.st
      refine opStep none 0 rfl rfl (fun c hc => by cases hc) ?_
      go_simp
      exact hK _ _ rfl (Below.refl _ _) trivial
    · -- 21: Op.load 118 t4
      intro li a1 W1 hA K hK
      have e4 := hA.par 4 (by kernel_rfl)
      obtain ⟨q1, q2, q3, q4, q5, q6, q7, q8⟩ := HF.out W1 hA.st
      have HS := hid hA.st
      refine opStep none 0 rfl (wanted_yes rfl (show dstB _ 20 36 = true by kernel_rfl) (hA.val 20 36 (by kernel_rfl) (by kernel_rfl))) (fun c hc => by cases hc) ?_
      go_simp
      exact hK _ _ rfl (Below.refl _ _) trivial
    · -- 22: Op.move t0
      intro li a1 W1 hA K hK
      have e0 := hA.par 0 (by kernel_rfl)
      obtain ⟨q1, q2, q3, q4, q5, q6, q7, q8⟩ := HF.out W1 hA.st
      have HS := hid hA.st
      refine opStep none 0 rfl (wanted_yes rfl (show dstB _ 20 36 = true by kernel_rfl) (hA.val 20 36 (by kernel_rfl) (by kernel_rfl))) (fun c hc => by cases hc) ?_
      go_simp
      exact hK _ _ rfl (Below.refl _ _) trivial
    · -- 23: Op.call { value (Operand.func 49), args := #[t38], argTypes := #[56] }
      intro li a1 W1 hA K hK
      have e38 : a1.tmps.getD 38 undef = .slice (some ⟨y, 0, none⟩) pre.length m := hA.val 22 38 (by kernel_rfl) (by kernel_rfl)
      obtain ⟨q1, q2, q3, q4, q5, q6, q7, q8⟩ := HF.out W1 hA.st
      have HS := hid hA.st
      refine opStep none 0 rfl (wanted_yes rfl (show dstB _ 20 36 = true by kernel_rfl) (hA.val 20 36 (by kernel_rfl) (by kernel_rfl))) (fun c hc => by cases hc) ?_
      go_simp
      refine (T5.out W1 HS.out).mono ?_
      rintro e W2 ⟨A, c, rfl, h1, h2, h3, h4, h5, h6⟩
      exact hK _ _ ⟨A, c, rfl, h1, h2, h3, fun a e => ⟨Nat.le_trans HS.out.size (h4 a e).1, (h4 a e).2⟩, h5⟩ h6 trivial
  · intro li a1 W1 hD
    obtain ⟨A, c, e39, g1, g2, g3, g4, g5⟩ := hD.val 23 39 (by kernel_rfl) (by kernel_rfl)
    have e37 : a1.tmps.getD 37 undef = .func (.yield l) #[] #[] := hD.val 21 37 (by kernel_rfl) (by kernel_rfl)
    have e36 : a1.tmps.getD 36 undef = .bool false := hD.val 20 36 (by kernel_rfl) (by kernel_rfl)
    refine tail_step (i := 24) rfl ?_
    refine opYield rfl (wanted_yes rfl (show dstB _ 20 36 = true by kernel_rfl) e36) (fun c hc => by cases hc) ?_ (HY.out A c W1 hD.st g3 g4 g1 g2 g5) ?_
    · simp [go_sem, e37, e39]
    · rintro e W2 ⟨rfl, hr⟩
      refine ⟨_, rfl, ?_⟩
      have hs : a1.tmps.size = 78 := hD.size
      have hd : a1.defers = [] := hD.defers
      have HR := hid hr
      clear HF T1 T2 T3 T4 T5 HY hD g1 g2 g3 g4 g5 e37 e39 hr
      have f40 := put_getD_same (a := a1) (d := 40) (v := .bool true) (by rw [hs]; decide)
      have f36 := (put_getD_other (a := a1) (d := 40) (d' := 36) (v := .bool true) (by decide)).trans e36
      replace hs := (put_size (a := a1) (d := some 40) (v := .bool true)).trans hs
      replace hd := (put_defers (a := a1) (d := some 40) (v := .bool true)).trans hd
      clear e36
      generalize a1.put (some 40) (.bool true) = a2 at *
      refine tail_val (i := 25) (W' := W2) (v := .bool true) none 0 rfl rfl rfl (fun c hc => by cases hc) (by go_simp) (by rw [hs]; decide) ?_
      intro a3 s3 d3 f41 _
      refine tail_val (i := 26) (W' := W2) (v := .bool true) none 0 rfl rfl rfl (fun c hc => by cases hc) (by go_simp) (by rw [s3, hs]; decide) ?_
      intro a4 s4 d4 f7 _
      replace hd := (d4.trans d3).trans hd
      clear s3 d3 f41 s4 d4 f40 f36 hs
      refine wpListIn_nil ?_
      go_wp2
      exact bodyPost_ret (v := .bool true) ((results_tmp Tryz.results96 _ _ _).trans (by rw [f7])) hd HR.out

set_option maxRecDepth 100000 in
set_option maxHeartbeats 4000000 in
theorem choose_drop {Bc Bw Br By Bh P l n : Nat} {A0 : Option Addr} {c0 : Nat} {cells : List Int} {row b : Int} {At : Option Addr} {ct nt : Nat} {Af : Option Addr} {cf : Nat} {fs : List Fx} {mp : Value} {W : World}
    {y m : Nat} {pre : List Int}
    (he : Env Bc Bw Br By Bh P l n A0 c0 cells row b At ct nt Af cf fs mp W) (hn : n ≤ W.heap.size) (hlb : LB W y m pre) (hlen : pre.length = cells.length) (ok : RowOk cells b fs) (hpre : ∀ x ∈ pre, 0 ≤ x ∧ x ≤ 10100)
    (h : testB b cells fs row pre = false) :
    Calls Tryz.prog 96 #[.slice (some ⟨y, 0, none⟩) pre.length m, .pointer (some ⟨Bc, 0, none⟩), .pointer (some ⟨Bw, 0, none⟩), .pointer (some ⟨Br, 0, none⟩), .pointer (some ⟨By, 0, none⟩), .pointer (some ⟨Bh, 0, none⟩)] W fun e W' => e = .returned (.bool true) ∧ Below W.heap.size W W' := by
  have k := he.reads
  obtain ⟨k1, k2, k3, k4, k5, k6, k7, k8⟩ := k
  have HF := hid (show ∀ q, _ from fun q => (he.below (below_xt W q) hn).reads)
  have T1 := hid (show ∀ q, _ from fun q => Calls.same_below (total_any _ m pre (xt W q) (hlb.below (below_xt W q) |>.ints (hlb.below (below_xt W q)).lt) (by have := ok.l2; omega) (fun x hx => by have := hpre x hx; omega)))
  have T2 := hid (show ∀ q, _ from fun q => Calls.same_below (total_any A0 c0 cells (xt W q) ((he.below (below_xt W q) hn).ic.more (by have := (below_xt W q).size; omega)) (by have := ok.l2; omega) (fun x hx => by have := ok.cell x hx; omega)))
  have T3 := hid (show ∀ q, _ from fun q => near_any b pre.sum cells.sum (.slice At nt ct) (.slice Af fs.length cf) (xt W q) ok.b1 ok.b2 ok.sum.1 ok.sum.2)
  have T4 := hid (show ∀ q, _ from fun q => holds_any (.int .i64 b) (.slice At nt ct) Af cf fs row (some ⟨y, 0, none⟩) m pre (xt W q) ((he.below (below_xt W q) hn).ix.more (by have := (below_xt W q).size; omega)) (hlb.below (below_xt W q) |>.ints (hlb.below (below_xt W q)).lt) ok.n (by have := ok.l2; omega) (fun f hf => by have := ok.col f hf; omega))
  have hL : ((pre.length : Int) == (cells.length : Int)) = true := by simp [hlen]
  have c1 : ∀ q, (xt W q).cell? ⟨Bc, 0, none⟩ = some (.slice A0 cells.length c0) := fun q => (HF.out q).1
  have c2 : ∀ q, (xt W q).cell? ⟨Bw, 0, none⟩ = some (.pointer (some ⟨P, 0, none⟩)) := fun q => (HF.out q).2.1
  have c3 : ∀ q, (xt W q).cell? ⟨Br, 0, none⟩ = some (.int .i64 row) := fun q => (HF.out q).2.2.1
  have c6 : ∀ q, (xt W q).cell? ⟨P, 0, none⟩ = some (.int .i64 b) := fun q => (HF.out q).2.2.2.2.2.1
  have c7 : ∀ q, (xt W q).cell? ⟨P, 1, none⟩ = some (.slice At nt ct) := fun q => (HF.out q).2.2.2.2.2.2.1
  have c8 : ∀ q, (xt W q).cell? ⟨P, 2, none⟩ = some (.slice Af fs.length cf) := fun q => (HF.out q).2.2.2.2.2.2.2
  clear he hlb ok hpre hn hlen HF
  cases h1 : nearB b pre.sum cells.sum
  · rw [h1] at T3
    clear h h1
    go_enter Tryz.func96, Tryz.ntmps96
    go_wp2
    refine wp_region_quiet_xt (by kernel_rfl) (by kernel_rfl) ?_
    repeat (go_big_quiet_step ((first | (go_at_call 94; with_reducible exact Calls.xt (T3.out _)) | (go_at_call 83; with_reducible exact Calls.xt (T1.out _)) | (go_at_call 83; with_reducible exact Calls.xt (T2.out _)))))
    refine wpQuiet_nil ?_
    intro w3 hw3
    replace hw3 := of_xt hw3
    go_wp2
    go_ret
    exact ⟨rfl, hw3⟩
  · have h2 : holdsB fs row pre = false := by simpa [testB, h1] using h
    rw [h1] at T3
    rw [h2] at T4
    clear h h1 h2
    go_enter Tryz.func96, Tryz.ntmps96
    go_wp2
    refine wp_region_quiet_xt (by kernel_rfl) (by kernel_rfl) ?_
    repeat (go_big_quiet_step ((first | (go_at_call 94; with_reducible exact Calls.xt (T3.out _)) | (go_at_call 97; with_reducible exact Calls.xt (T4.out _)) | (go_at_call 83; with_reducible exact Calls.xt (T1.out _)) | (go_at_call 83; with_reducible exact Calls.xt (T2.out _)))))
    refine wpQuiet_nil ?_
    intro w3 hw3
    replace hw3 := of_xt hw3
    go_wp2
    go_ret
    exact ⟨rfl, hw3⟩
end Go.Proofs.YtlnamjhgbdacbaaGreat
