/- The walks and the plain laws of this part of the program, part 6: what each computes. Conditions stand at each theorem. -/
import Derived.Handy
import Derived.Test.YtlnamjhgbdacbaaGreatK1
import Derived.Test.YtlnamjhgbdacbaaGreatK2
import Derived.Test.YtlnamjhgbdacbaaGreatK3
import Derived.Test.YtlnamjhgbdacbaaGreatK4
import Derived.Test.YtlnamjhgbdacbaaGreatK5
/- connected: whether a new district is. Conditions stand at each theorem. -/
namespace Go.Proofs.YtlnamjhgbdacbaaGreat
open Go.RowKit Go.Shelf

/-- the list in its block, before and behind a store (operation 13) -/
def PhS (zb cap : Nat) (ms : List Int) (k : Nat) (x : Int) (li : Array Bool) (W : World) : Prop := LB W zb cap (if li.getD 13 false = true then ms.set k x else ms)
theorem PhS.other {zb cap k i : Nat} {ms : List Int} {x : Int} {li : Array Bool} {W : World} (h : PhS zb cap ms k x li W) (h1 : i ≠ 13) : PhS zb cap ms k x (li.setIfInBounds i true) W := by
  unfold PhS at *
  rw [getD_set_oth h1]
  exact h
theorem LB.chg_set {W : World} {zb k : Nat} {v : Value} : MChg (fun q => q = zb) W (W.setCell ⟨zb, k, none⟩ v) := (MChg.refl (Z := fun q => q = zb) (A := W)).set rfl v

set_option maxRecDepth 100000 in
set_option maxHeartbeats 4000000 in
theorem connected_any (m : MapD) (A : Option Addr) (c : Nat) (A2 : Option Addr) (c2 : Nat) (A3 : Option Addr) (c3 : Nat) (g b : Nat) (l : Nat → Int) (d : Int) (w : World) (hw : WAt m A c A2 c2 A3 c3 g b w) (ok : OkM m) :
    Calls Tryz.prog 39 #[.pointer (some ⟨g, 0, none⟩), .agg (liC l), .int .i64 d] w fun e w' => e = .returned (.bool (conB m l d)) ∧ Below w.heap.size w w' := by
  have hs8 := ok.s8
  have hb0 := below_box (w := w) (liC l) 120
  have hl0 := Blk.new w 120 (liC l)
  have hw0 := hw.keep hb0
  obtain ⟨t0, t1, t2, t3, t4⟩ := hw0.blk.c5
  have HS := hid (And.intro hb0 (And.intro hl0 hw0))
  clear hw hb0 hl0 hw0 ok
  go_enter Tryz.func39, Tryz.ntmps39
  go_wp2
  clear t0 t1 t2 t3 t4
  go_loopw [7, 18] (fun v i W => ∃ k : Nat, k ≤ m.ss.length ∧ i = .int .i64 k ∧ W.ownsRow (w.heap.size + 1) 3 1 v (mem l d k).length ((mem l d k).map (Value.int .i64)) ∧ Below (w.heap.size + 1) (w.alloc (.cells (liC l) 120)) W) (fun _ i _ => m.ss.length - (intOf i).toNat)
  case atStart => exact ⟨0, Nat.zero_le _, rfl, ⟨rfl, .inl ⟨rfl, rfl⟩⟩, Below.refl _ _⟩
  case round =>
    obtain ⟨k, hk, rfl, ho, hbr⟩ := hrel
    have hbr' : Below (w.alloc (.cells (liC l) 120)).heap.size (w.alloc (.cells (liC l) 120)) wr := by rw [World.size_alloc]; exact hbr
    have hlw := HS.out.2.1.keep hbr'
    have HR := hid (And.intro ho hbr')
    have hsz := hbr.size
    rw [World.size_alloc] at hsz
    have hrw := hsz
    clear hbr hbr' ho
    by_cases hlt : k < m.ss.length
    · have hkI : (k : Int) < (m.ss.length : Int) := by omega
      have hk8 : k < 8 := by omega
      have q1 := hlw.cell k
      rw [liC_get l hk8] at q1
      have hml := mem_len (l := l) (d := d) k
      by_cases he : l k = d
      · have hoB : (l k == d) = true := by simp [he]
        have hst := mem_succ_in he
        have HST := hid hst
        obtain ⟨i0, hi0, hz0, hz1, hz2⟩ := info_parts int_info
        have HO := hid (HR.out.1.alloc (.cells #[.int .i64 (k : Int)] 3))
        clear hst he hlw
        go_wp2_with (at_builtin; refine wpList_append_own_at _ rfl _ _ 22 rfl (w.heap.size + 1) 3 i0 (.int .i64 0) 1 8 Tryz.underlying22 hi0 hz0 hz1 hz2 rfl (by decide) u7 _ _ rfl HO.out ⟨wr.heap.size, 0, none⟩ 1 1 [.int .i64 (k : Int)] rfl rfl (by intro q u hq; cases q with | zero => simp at hq; subst hq; exact (World.cell?_alloc_new _ _ _ _) | succ q => simp at hq) (by intro u hu; simp at hu; subst hu; rfl) (by simp only [maxLen]; omega) (by omega) (by simp; omega) ?_; intro vo' w5 hown' hgrow _ hfr; have HN := hid (show w5.ownsRow (w.heap.size + 1) 3 1 vo' (mem l d (k + 1)).length ((mem l d (k + 1)).map (Value.int .i64)) ∧ Below (w.heap.size + 1) (w.alloc (.cells (liC l) 120)) w5 from ⟨by rw [HST.out, List.length_append, List.map_append]; exact hown', below_row' ((HR.out.2.trans ((below_box _ _).mono HR.out.2.size)).mono (by simp)) HO.out (Nat.le_refl _) hgrow (by simp; omega)⟩); clear hown' hgrow hfr)
        go_roundw
        case rel => exact ⟨k + 1, by omega, by go_num, HN.out⟩
        case measure => first | (simp [intOf]; done) | (simp [intOf]; omega)
      · have hoB : (l k == d) = false := by simp [he]
        have hst := mem_succ_out he
        have HN := hid (show wr.ownsRow (w.heap.size + 1) 3 1 u7 (mem l d (k + 1)).length ((mem l d (k + 1)).map (Value.int .i64)) ∧ Below (w.heap.size + 1) (w.alloc (.cells (liC l) 120)) wr from ⟨by rw [hst]; exact HR.out.1, HR.out.2.mono (by simp)⟩)
        clear he hst hlw
        go_wp2
        go_roundw
        case rel => exact ⟨k + 1, by omega, by go_num, HN.out⟩
        case measure => first | (simp [intOf]; done) | (simp [intOf]; omega)
    · have hkI : decide ((k : Int) < (m.ss.length : Int)) = false := by simp; omega
      obtain rfl : k = m.ss.length := by omega
      generalize wr = w5 at *
      have hml := mem_len (l := l) (d := d) m.ss.length
      have hnd := mem_nodup l d m.ss.length
      have HBW := hid (HS.out.1.trans (HR.out.2.mono HS.out.1.size))
      have hwW := HS.out.2.2.keep HR.out.2
      have HC := hid (show conB m l d = conL m (mem l d m.ss.length) from rfl)
      have HWW := hid hwW
      clear hlw
      have HIX : ∀ y ∈ mem l d m.ss.length, Ix y := fun y hy => by
        obtain ⟨i, hi, _, e⟩ := mem_iff.1 hy
        unfold Ix; omega
      revert HR hml hnd HC HIX
      generalize mem l d m.ss.length = ms0
      intro HR hml hnd HC HIX
      cases ms0 with
      | nil =>
        rcases HR.out.1.2 with ⟨rfl, _⟩ | ⟨z, cap, cur, rfl, _⟩
        all_goals
          clear hnd hwW HIX
          go_wp2
          go_ret
          exact ⟨by rw [HC.out]; rfl, HBW.out⟩
      | cons f t =>
        have hr := HR.out.1
        obtain ⟨zb, cap, rfl⟩ := Go.ownsRow_succ hr
        obtain ⟨hr1, hr2⟩ := hr.lt zb rfl
        have hLB := lb_of_own hr
        obtain ⟨N, hN⟩ : ∃ N, (f :: t).length = N := ⟨_, rfl⟩
        have hcapn : (f :: t).length ≤ cap ∧ cap ≤ maxLen := by
          rcases hr.2 with ⟨e, _⟩ | ⟨z, cap', cur, e, _, _, h1, h2, _⟩
          · cases e
          · injection e with e1 e2 e3
            subst e3
            exact ⟨h1, h2⟩
        rw [hN] at hcapn
        obtain ⟨hn1, hn2⟩ := hcapn
        unfold maxLen at hn2
        have hngz : g ≠ zb := by
          obtain ⟨arr, ha, _⟩ := hLB
          have := hwW.blk.ne_ (show Blk w5 zb 3 arr from ha) (by decide)
          exact this
        have hnbz : zb ≠ b := by
          obtain ⟨arr, ha, _⟩ := hLB
          exact hwW.mp.ne (show Blk w5 zb 3 arr from ha)
        have hcs := CS.start (m := m) hnd
        have hmr := HIX
        have HL := hid (And.intro hLB (And.intro hcs (And.intro hmr hN)))
        have hN8 : N ≤ 8 := by simp only [List.length_cons] at hN hml; omega
        have hN0 : ((N : Int) == 0) = false := by simp only [List.length_cons] at hN; simp; omega
        have HNE := hid (And.intro hngz hnbz)
        have hN' : t.length + 1 = N := hN
        rw [hN']
        clear hN'
        have HZ := hid (And.intro hr1 hr2)
        clear hr hr1 hr2 hLB hcs hmr hN hml hnd hwW hngz hnbz HR HIX
        go_wp2
        go_loopw [9, 10] (fun r i W => ∃ (next reached : Nat) (ms : List Int), r = .int .i64 (reached : Int) ∧ i = .int .i64 (next : Int) ∧ CS m (f :: t) f ms next reached ∧ LB W zb cap ms ∧ MChg (fun q => q = zb) w5 W) (fun _ i _ => N - (intOf i).toNat)
        case atStart => exact ⟨0, 1, f :: t, rfl, rfl, HL.out.2.1, HL.out.1, MChg.refl⟩
        case round =>
          obtain ⟨next, reached, ms, rfl, rfl, hcs, hlb, hch⟩ := hrel
          have hrl : reached ≤ N := by have := hcs.rl; have := hcs.len; have := HL.out.2.2.2; omega
          have hnr := hcs.nr
          have hr1 := hcs.r1
          have HQ := hid (And.intro hcs (And.intro hlb hch))
          clear hcs hlb hch
          by_cases hlt : next < reached
          · have hkI : (next : Int) < (reached : Int) := by omega
            generalize wr = wo at *
            go_wp2
            go_loopw [9, 11] (fun r i W => ∃ (k reached : Nat) (ms : List Int), r = .int .i64 (reached : Int) ∧ i = .int .i64 (k : Int) ∧ CI m (f :: t) f ms next reached k ∧ LB W zb cap ms ∧ MChg (fun q => q = zb) w5 W) (fun _ i _ => N - (intOf i).toNat)
            case atStart => exact ⟨reached, reached, ms, rfl, rfl, CI.start HQ.out.1 hlt, HQ.out.2.1, HQ.out.2.2⟩
            case round =>
              clear HQ hrl hnr hr1 hlt hkI
              obtain ⟨k, reached, ms, rfl, rfl, hci, hlb, hch⟩ := hrel
              have hml : ms.length = N := by have := hci.len; have := HL.out.2.2.2; omega
              have hkl := hci.kl
              have hrk := hci.rk
              have hnl := hci.lt
              rw [hml] at hkl
              have HML := hid hml
              have HQ := hid (And.intro hci (And.intro hlb hch))
              clear hci hch hml
              by_cases hlt : k < N
              · have hkI : (k : Int) < (N : Int) := by omega
                obtain ⟨x, hx⟩ : ∃ x, ms[next]? = some x := ⟨_, List.getElem?_eq_getElem (by rw [HML.out]; omega)⟩
                obtain ⟨y, hy⟩ : ∃ y, ms[k]? = some y := ⟨_, List.getElem?_eq_getElem (by rw [HML.out]; omega)⟩
                obtain ⟨u, hu⟩ : ∃ u, ms[reached]? = some u := ⟨_, List.getElem?_eq_getElem (by rw [HML.out]; omega)⟩
                have hxm := HL.out.2.2.1 x (HQ.out.1.sub x (List.mem_of_getElem? hx))
                have hym := HL.out.2.2.1 y (HQ.out.1.sub y (List.mem_of_getElem? hy))
                have hlz := hlb.lt
                have hrI : (reached : Int) < (N : Int) := by omega
                have hnI : (next : Int) < (N : Int) := by omega
                have s2 := xt_cell (hlb.cell hx)
                have s3 := xt_cell (hlb.cell hy)
                have hwq := HQ.out.2.2.blk HWW.out.blk HNE.out.1
                have hmq := HWW.out.mp.chg HQ.out.2.2 (fun e => HNE.out.2 e.symm)
                have s1 : ∀ q, (xt wr q).cell? ⟨g, 4, none⟩ = some (.map (some b)) := fun q => by
                  obtain ⟨_, _, _, _, q5⟩ := (hwq.keep (below_xt wr q)).c5
                  exact q5
                cases hmt : meet m x y
                · have s4 : ∀ q, (Instr.lookup 157 (.map (some b)) (.agg #[.int .i64 x, .int .i64 y]) false).run Tryz.prog (xt wr q) = .ok (.bool false) (xt wr q) := fun q =>
                    jn_look Tryz.underlying157 (mbool_zero _) (hmq.below (below_xt wr q)) hxm hym (r := false) (by simp [hmt])
                  have HNX := hid (HQ.out.1.miss (by rw [HML.out]; exact hlt) hx hy hmt)
                  clear hxm hym hx hy hu hwq hmq hlb hmt
                  go_wp2
                  refine wp_region_quiet_xt (by kernel_rfl) (by kernel_rfl) ?_
                  repeat (go_big_quiet_step (fail))
                  refine wpQuiet_nil ?_
                  intro W3 hw3
                  replace hw3 := of_xt hw3
                  have HW3 := hid (And.intro (HQ.out.2.1.below hw3) (HQ.out.2.2.trans (MChg.of_below hw3)))
                  clear hw3 s1 s2 s3 s4
                  go_wp2
                  go_roundw
                  case rel => exact ⟨k + 1, reached, ms, by go_num, by go_num, HNX.out, HW3.out⟩
                  case measure => first | (simp [intOf]; done) | (simp [intOf]; omega)
                · have s4 : ∀ q, (Instr.lookup 157 (.map (some b)) (.agg #[.int .i64 x, .int .i64 y]) false).run Tryz.prog (xt wr q) = .ok (.bool true) (xt wr q) := fun q =>
                    jn_look Tryz.underlying157 (mbool_zero _) (hmq.below (below_xt wr q)) hxm hym (r := true) (by simp [hmt])
                  have HNX := hid (HQ.out.1.hit (by rw [HML.out]; exact hlt) hx hy hmt (sw_of hu hy))
                  have HU := hid (And.intro hu hy)
                  clear hxm hym hx hy hu hwq hmq hlb hmt
                  go_wp2
                  refine wp_region_quiet_xt (by kernel_rfl) (by kernel_rfl) ?_
                  repeat (go_big_quiet_step (fail))
                  refine wpQuiet_nil ?_
                  intro W3 hw3
                  replace hw3 := of_xt hw3
                  have HW3 := hid (And.intro (HQ.out.2.1.below hw3) (HQ.out.2.2.trans (MChg.of_below hw3)))
                  clear hw3 s1 s2 s3 s4
                  go_wp2
                  refine (wpIn_wide (n := 0)).1 ?_
                  refine wpIn_region_each 14 (fun i v W' => match i with | 0 => v = .slice (some ⟨zb, 0, none⟩) N cap | 1 => v = .int .i64 (k : Int) | 2 => v = .slice (some ⟨zb, 0, none⟩) N cap | 3 => v = .int .i64 (reached : Int) | 4 => v = .slice (some ⟨zb, 0, none⟩) N cap | 5 => v = .int .i64 (reached : Int) | 6 => v = .pointer (some ⟨zb, reached, none⟩) | 7 => v = .int .i64 u | 8 => v = .slice (some ⟨zb, 0, none⟩) N cap | 9 => v = .int .i64 (k : Int) | 10 => v = .pointer (some ⟨zb, k, none⟩) | 11 => v = .int .i64 y | 12 => v = .pointer (some ⟨zb, k, none⟩) | 13 => ∃ v4, v = v4 ∧ True | _ => True) (MChg (fun q => q = zb)) (PhS zb cap ms k u) (by kernel_rfl) (by kernel_rfl) ?_ (fun h k => h.trans k) ⟨rfl, rfl, rfl, Nat.le_refl _, fun _ _ _ => rfl⟩ (by unfold PhS; rw [getD_replicate_false]; simp only [Bool.false_eq_true, if_false]; exact HW3.out.1) (by kernel_rfl) ?_ ?_
                  · intro i v W1 W2 hb h
                    match i, h with
                    | 0, h => exact h
                    | 1, h => exact h
                    | 2, h => exact h
                    | 3, h => exact h
                    | 4, h => exact h
                    | 5, h => exact h
                    | 6, h => exact h
                    | 7, h => exact h
                    | 8, h => exact h
                    | 9, h => exact h
                    | 10, h => exact h
                    | 11, h => exact h
                    | 12, h => exact h
                    | 13, h =>
                      obtain ⟨v4, rfl, h1⟩ := h
                      exact ⟨_, rfl, trivial⟩
                    | i + 14, h => trivial
                  · refine ⟨?_, ?_, ?_, ?_, ?_, ?_, ?_, ?_, ?_, ?_, ?_, ?_, ?_, ?_, trivial⟩
                    · -- 0
                      intro li a1 W2 hA K hK
                      have e7 := hA.par 7 (by kernel_rfl)
                      refine opStep none 0 rfl rfl (fun c hc => by cases hc) ?_
                      go_simp
                      exact hK _ _ rfl MChg.refl (hA.ph.other (by decide))
                    · -- 1
                      intro li a1 W2 hA K hK
                      have e11 := hA.par 11 (by kernel_rfl)
                      refine opStep none 0 rfl rfl (fun c hc => by cases hc) ?_
                      go_simp
                      exact hK _ _ rfl MChg.refl (hA.ph.other (by decide))
                    · -- 2
                      intro li a1 W2 hA K hK
                      have e7 := hA.par 7 (by kernel_rfl)
                      refine opStep none 0 rfl rfl (fun c hc => by cases hc) ?_
                      go_simp
                      exact hK _ _ rfl MChg.refl (hA.ph.other (by decide))
                    · -- 3
                      intro li a1 W2 hA K hK
                      have e9 := hA.par 9 (by kernel_rfl)
                      refine opStep none 0 rfl rfl (fun c hc => by cases hc) ?_
                      go_simp
                      exact hK _ _ rfl MChg.refl (hA.ph.other (by decide))
                    · -- 4
                      intro li a1 W2 hA K hK
                      have e7 := hA.par 7 (by kernel_rfl)
                      refine opStep none 0 rfl rfl (fun c hc => by cases hc) ?_
                      go_simp
                      exact hK _ _ rfl MChg.refl (hA.ph.other (by decide))
                    · -- 5
                      intro li a1 W2 hA K hK
                      have e9 := hA.par 9 (by kernel_rfl)
                      refine opStep none 0 rfl rfl (fun c hc => by cases hc) ?_
                      go_simp
                      exact hK _ _ rfl MChg.refl (hA.ph.other (by decide))
                    · -- 6
                      intro li a1 W2 hA K hK
                      have e64 : a1.tmps.getD 64 undef = .slice (some ⟨zb, 0, none⟩) N cap := hA.val 4 64 (by kernel_rfl) (by kernel_rfl)
                      have e65 : a1.tmps.getD 65 undef = .int .i64 (reached : Int) := hA.val 5 65 (by kernel_rfl) (by kernel_rfl)
                      refine opStep none 0 rfl rfl (fun c hc => by cases hc) ?_
                      go_simp
                      exact hK _ _ (by first | rfl | exact congrArg (fun q => Value.pointer (some q)) (add_blk _ _)) MChg.refl (hA.ph.other (by decide))
                    · -- 7
                      intro li a1 W2 hA K hK
                      have e66 : a1.tmps.getD 66 undef = .pointer (some ⟨zb, reached, none⟩) := hA.val 6 66 (by kernel_rfl) (by kernel_rfl)
                      have hl13 : li.getD 13 false = false := by
                        cases hl : li.getD 13 false
                        · rfl
                        · have := hA.past hl 7 (by kernel_rfl); rw [hA.new] at this; cases this
                      have hp := hA.ph
                      unfold PhS at hp
                      rw [hl13] at hp
                      simp only [Bool.false_eq_true, if_false] at hp
                      have q1 := hp.cell HU.out.1
                      refine opStep none 0 rfl rfl (fun c hc => by cases hc) ?_
                      go_simp
                      exact hK _ _ rfl MChg.refl (hA.ph.other (by decide))
                    · -- 8
                      intro li a1 W2 hA K hK
                      have e7 := hA.par 7 (by kernel_rfl)
                      refine opStep none 0 rfl rfl (fun c hc => by cases hc) ?_
                      go_simp
                      exact hK _ _ rfl MChg.refl (hA.ph.other (by decide))
                    · -- 9
                      intro li a1 W2 hA K hK
                      have e11 := hA.par 11 (by kernel_rfl)
                      refine opStep none 0 rfl rfl (fun c hc => by cases hc) ?_
                      go_simp
                      exact hK _ _ rfl MChg.refl (hA.ph.other (by decide))
                    · -- 10
                      intro li a1 W2 hA K hK
                      have e68 : a1.tmps.getD 68 undef = .slice (some ⟨zb, 0, none⟩) N cap := hA.val 8 68 (by kernel_rfl) (by kernel_rfl)
                      have e69 : a1.tmps.getD 69 undef = .int .i64 (k : Int) := hA.val 9 69 (by kernel_rfl) (by kernel_rfl)
                      refine opStep none 0 rfl rfl (fun c hc => by cases hc) ?_
                      go_simp
                      exact hK _ _ (by first | rfl | exact congrArg (fun q => Value.pointer (some q)) (add_blk _ _)) MChg.refl (hA.ph.other (by decide))
                    · -- 11
                      intro li a1 W2 hA K hK
                      have e70 : a1.tmps.getD 70 undef = .pointer (some ⟨zb, k, none⟩) := hA.val 10 70 (by kernel_rfl) (by kernel_rfl)
                      have hl13 : li.getD 13 false = false := by
                        cases hl : li.getD 13 false
                        · rfl
                        · have := hA.past hl 11 (by kernel_rfl); rw [hA.new] at this; cases this
                      have hp := hA.ph
                      unfold PhS at hp
                      rw [hl13] at hp
                      simp only [Bool.false_eq_true, if_false] at hp
                      have q1 := hp.cell HU.out.2
                      refine opStep none 0 rfl rfl (fun c hc => by cases hc) ?_
                      go_simp
                      exact hK _ _ rfl MChg.refl (hA.ph.other (by decide))
                    · -- 12
                      intro li a1 W2 hA K hK
                      have e60 : a1.tmps.getD 60 undef = .slice (some ⟨zb, 0, none⟩) N cap := hA.val 0 60 (by kernel_rfl) (by kernel_rfl)
                      have e61 : a1.tmps.getD 61 undef = .int .i64 (k : Int) := hA.val 1 61 (by kernel_rfl) (by kernel_rfl)
                      refine opStep none 0 rfl rfl (fun c hc => by cases hc) ?_
                      go_simp
                      exact hK _ _ (by first | rfl | exact congrArg (fun q => Value.pointer (some q)) (add_blk _ _)) MChg.refl (hA.ph.other (by decide))
                    · -- 13
                      intro li a1 W2 hA K hK
                      have e72 : a1.tmps.getD 72 undef = .pointer (some ⟨zb, k, none⟩) := hA.val 12 72 (by kernel_rfl) (by kernel_rfl)
                      have e67 : a1.tmps.getD 67 undef = .int .i64 u := hA.val 7 67 (by kernel_rfl) (by kernel_rfl)
                      have hp := hA.ph
                      unfold PhS at hp
                      rw [show li.getD 13 false = false from hA.new] at hp
                      simp only [Bool.false_eq_true, if_false] at hp
                      have q0 := hp.cell HU.out.2
                      have q1 := hp.frozen k
                      have q2 := hp.lt
                      refine opStep none 0 rfl rfl (fun c hc => by cases hc) ?_
                      go_simp
                      refine hK undef _ ⟨undef, rfl, trivial⟩ LB.chg_set ?_
                      unfold PhS
                      rw [getD_set_eq (by rw [hA.lsize]; decide)]
                      simp only [if_true]
                      exact hp.set_ _ _
                  · intro li a1 W2 hD
                    have hp := hD.ph
                    unfold PhS at hp
                    rw [hD.all 13 (by decide)] at hp
                    simp only [if_true] at hp
                    have e62 : a1.tmps.getD 62 undef = .slice (some ⟨zb, 0, none⟩) N cap := hD.val 2 62 (by kernel_rfl) (by kernel_rfl)
                    have e63 : a1.tmps.getD 63 undef = .int .i64 (reached : Int) := hD.val 3 63 (by kernel_rfl) (by kernel_rfl)
                    have e71 : a1.tmps.getD 71 undef = .int .i64 y := hD.val 11 71 (by kernel_rfl) (by kernel_rfl)
                    have HF := hid (And.intro (hp.set_ reached y) ((HW3.out.2.trans hD.st).trans (LB.chg_set (k := reached) (v := .int .i64 y))))
                    obtain ⟨hpc, hpv⟩ : ∃ v, W2.cell? ⟨zb, reached, none⟩ = some v := ⟨_, hp.cell (List.getElem?_eq_getElem (by rw [List.length_set, HML.out]; omega))⟩
                    have hpf := hp.frozen reached
                    have hpl := hp.lt
                    have hkp2 := hD.keeps (ds := [60, 61, 62, 63, 64, 65, 66, 67, 68, 69, 70, 71, 72, 73]) (by kernel_rfl)
                    have hds := hD.size
                    have hsz : a1.tmps.size = 80 := hD.size
                    have hdd := hD.defers
                    clear hp
                    refine tail_val (i := 14) (v := .pointer (some ⟨zb, reached, none⟩)) (W' := W2) none 0 rfl rfl rfl (fun c hc => by cases hc) (by go_simp) (by rw [hsz]; decide) ?_
                    intro a3 s3 d3 f3 o3
                    have hkp3 := keeps_then hkp2 o3 (by decide)
                    have e71' := (o3 71 (by decide)).trans e71
                    refine tail_store (i := 15) (W' := W2.setCell ⟨zb, reached, none⟩ (.int .i64 y)) none 0 rfl rfl rfl (fun c hc => by cases hc) (by go_simp) ?_
                    have e := act_mix [60, 61, 62, 63, 64, 65, 66, 67, 68, 69, 70, 71, 72, 73] (s3.trans hds) (d3.trans hdd) (fun i _ hc => hkp3 i hc)
                    generalize (fun i => a3.tmps.getD i undef) = g' at e
                    refine wpListIn_nil ?_
                    rw [e]
                    clear e hD hkp2 hkp3 s3 d3 f3 o3 e62 e63 e71 e71' hds hdd hsz hpc hpv hpf hpl HU HQ HW3
                    simp only [mix, List.contains_cons, List.contains_nil, Nat.reduceAdd, Nat.reduceBEq, Bool.or_false, Bool.or_true, cond_true, cond_false]
                    go_wp2
                    go_roundw
                    case rel => exact ⟨k + 1, reached + 1, _, by go_num, by go_num, HNX.out, HF.out⟩
                    case measure => first | (simp [intOf]; done) | (simp [intOf]; omega)
              · have hkI : decide ((k : Int) < (N : Int)) = false := by simp; omega
                obtain rfl : k = N := by omega
                have HNX := hid (show CS m (f :: t) f ms (next + 1) reached by have q := HQ.out.1; rw [← HML.out] at q; exact q.done)
                clear hlb
                go_wp2
                go_roundw
                case rel => exact ⟨next + 1, reached, ms, by go_num, by go_num, HNX.out, HQ.out.2⟩
                case measure => first | (simp [intOf]; done) | (simp [intOf]; omega)
          · obtain rfl : next = reached := by omega
            have hkI : decide ((next : Int) < (next : Int)) = false := by simp
            have HE := hid (show decide (next = ms.length) = conL m (f :: t) from HQ.out.1.ends)
            have HML := hid (show ms.length = N by have := HQ.out.1.len; have := HL.out.2.2.2; omega)
            have HB := hid (HBW.out.trans (HQ.out.2.2.below (n := w.heap.size) (fun q e => by have := HZ.out.1; omega) HBW.out.size))
            have hEB : ((next : Int) == (N : Int)) = conL m (f :: t) := by
              rw [← HE.out, HML.out]
              by_cases e : next = N
              · simp [e]
              · simp [e]; omega
            have HEB := hid hEB
            clear hEB
            cases hcl : conL m (f :: t)
            all_goals
              have HCL := hid hcl
              rw [hcl] at HEB
              have hEB := HEB.out
              clear hcl
              go_wp2
              go_ret
              exact ⟨by rw [HC.out, HCL.out]; rfl, HB.out⟩
end Go.Proofs.YtlnamjhgbdacbaaGreat
/- Right borders and the best ones, in plain words. No condition. -/
namespace Go.Proofs.YtlnamjhgbdacbaaGreat

/-- whether the first k new districts are right for limits -/
def rightTo (m : MapD) (l : Nat → Int) (lo hi : Int) (k : Nat) : Bool := (List.range k).all fun d => decide (lo ≤ sizeLo m (inD l (d : Int)) m.old.length) && (decide (sizeHi m (inD l (d : Int)) m.old.length ≤ hi) && conB m l (d : Int))
def rightB (m : MapD) (l : Nat → Int) (lo hi : Int) : Bool := rightTo m l lo hi m.nw.toNat
theorem rightTo_succ {m : MapD} {l : Nat → Int} {lo hi : Int} {k : Nat} : rightTo m l lo hi (k + 1) = (rightTo m l lo hi k && (decide (lo ≤ sizeLo m (inD l (k : Int)) m.old.length) && (decide (sizeHi m (inD l (k : Int)) m.old.length ≤ hi) && conB m l (k : Int)))) := by
  simp [rightTo, List.range_succ, List.all_append]
theorem rightTo_false {m : MapD} {l : Nat → Int} {lo hi : Int} {k j : Nat} (hk : k < j) (h : (decide (lo ≤ sizeLo m (inD l (k : Int)) m.old.length) && (decide (sizeHi m (inD l (k : Int)) m.old.length ≤ hi) && conB m l (k : Int))) = false) : rightTo m l lo hi j = false := by
  unfold rightTo
  rw [List.all_eq_false]
  exact ⟨k, List.mem_range.2 hk, by rw [h]; decide⟩
def setL (l : Nat → Int) (s : Nat) (d : Int) : Nat → Int := fun i => if i = s then d else l i
/-- the first borders behind those of the first s streets that move so many streets and are right -/
def mv (m : MapD) (lo hi : Int) : Nat → (Nat → Int) → Nat → Int → Option (Nat → Int)
  | 0, l, _, many => if 0 < many then none else if rightB m l lo hi then some l else none
  | f + 1, l, s, many => if ((f : Int) + 1) < many then none else (List.range m.nw.toNat).findSome? fun d : Nat =>
      if 0 ≤ many - (if (d : Int) = (m.S s).n then 0 else 1) then mv m lo hi f (setL l s (d : Int)) (s + 1) (many - (if (d : Int) = (m.S s).n then 0 else 1)) else none
def zeroL : Nat → Int := fun _ => 0
def bordTo (m : MapD) (lo hi : Int) (k : Nat) : Option (Nat × (Nat → Int)) := (List.range k).findSome? fun j : Nat => (mv m lo hi m.ss.length zeroL 0 (j : Int)).map fun l => (j, l)
def bestB (m : MapD) (lo hi : Int) : Option (Nat × (Nat → Int)) := bordTo m lo hi (m.ss.length + 1)
theorem findSome_succ {β : Type} (f : Nat → Option β) (k : Nat) : (List.range (k + 1)).findSome? f = ((List.range k).findSome? f).or (f k) := by
  rw [List.range_succ, List.findSome?_append]
  cases h : (List.range k).findSome? f <;> simp [List.findSome?]
  cases f k <;> rfl
theorem findSome_more {β : Type} (f : Nat → Option β) {k n : Nat} {b : β} (hk : k ≤ n) (h : (List.range k).findSome? f = some b) : (List.range n).findSome? f = some b := by
  induction n with
  | zero =>
    obtain rfl : k = 0 := by omega
    exact h
  | succ n ih =>
    by_cases e : k = n + 1
    · subst e; exact h
    · rw [findSome_succ, ih (by omega)]; rfl
end Go.Proofs.YtlnamjhgbdacbaaGreat
/- The best borders: they move the fewest streets, and are the smallest of those. In plain words. No condition. -/
namespace Go.Proofs.YtlnamjhgbdacbaaGreat

theorem rightTo_congr {m : MapD} {l l' : Nat → Int} {lo hi : Int} (h : ∀ i, i < m.ss.length → l i = l' i) : ∀ k, rightTo m l lo hi k = rightTo m l' lo hi k
  | 0 => rfl
  | k + 1 => by
    rw [rightTo_succ, rightTo_succ, rightTo_congr h k, sizeLo_congr (inD_congr h), sizeHi_congr (inD_congr h), conB_congr h]
theorem rightB_congr {m : MapD} {l l' : Nat → Int} {lo hi : Int} (h : ∀ i, i < m.ss.length → l i = l' i) : rightB m l lo hi = rightB m l' lo hi := rightTo_congr h _
/-- how many of the first k streets are moved -/
def movN (m : MapD) (l : Nat → Int) (k : Nat) : Int := sumN (fun i => if l i = (m.S i).n then 0 else 1) k
theorem movN_succ {m : MapD} {l : Nat → Int} {k : Nat} : movN m l (k + 1) = movN m l k + (if l k = (m.S k).n then 0 else 1) := rfl
theorem movN_bounds (m : MapD) (l : Nat → Int) (k : Nat) : 0 ≤ movN m l k ∧ movN m l k ≤ k := by
  refine ⟨sumN_nonneg fun i _ => by split <;> omega, ?_⟩
  have := sumN_bound (f := fun i => if l i = (m.S i).n then (0 : Int) else 1) (k := k) (M := 1) fun i _ => by split <;> omega
  unfold movN; omega
theorem movN_congr {m : MapD} {l l' : Nat → Int} {k : Nat} (h : ∀ i, i < k → l i = l' i) : movN m l k = movN m l' k := sumN_congr fun i hi => by rw [h i hi]
theorem movN_mono {m : MapD} {l : Nat → Int} {j k : Nat} (h : j ≤ k) : movN m l j ≤ movN m l k := sumN_mono h fun i _ => by split <;> omega
theorem movN_span {m : MapD} {l : Nat → Int} (s : Nat) : ∀ f : Nat, movN m l (s + f) ≤ movN m l s + f
  | 0 => by simp
  | f + 1 => by
    have := movN_span (m := m) (l := l) s f
    rw [show s + (f + 1) = (s + f) + 1 from rfl, movN_succ]
    split <;> omega
/-- smaller or the same, from street s on -/
def lexle (l l' : Nat → Int) : Nat → Nat → Prop
  | 0, _ => True
  | f + 1, s => l s < l' s ∨ (l s = l' s ∧ lexle l l' f (s + 1))
theorem lexle_refl {l : Nat → Int} : ∀ f s, lexle l l f s
  | 0, _ => trivial
  | f + 1, s => .inr ⟨rfl, lexle_refl f (s + 1)⟩
theorem lexle_anti {l l' : Nat → Int} : ∀ f s, lexle l l' f s → lexle l' l f s → ∀ i, s ≤ i → i < s + f → l i = l' i
  | 0, s, _, _ => fun i h1 h2 => by omega
  | f + 1, s, h, k => fun i h1 h2 => by
    have e : l s = l' s := by
      rcases h with h | h
      · rcases k with k | k
        · omega
        · omega
      · exact h.1
    by_cases hi : i = s
    · rw [hi]; exact e
    · refine lexle_anti f (s + 1) (h.resolve_left (by omega)).2 (k.resolve_left (by omega)).2 i (by omega) (by omega)
theorem lexle_congr {l l' g g' : Nat → Int} : ∀ f s, (∀ i, s ≤ i → i < s + f → l i = g i) → (∀ i, s ≤ i → i < s + f → l' i = g' i) → lexle l l' f s → lexle g g' f s
  | 0, _, _, _, _ => trivial
  | f + 1, s, h, k, e => by
    have h0 := h s (Nat.le_refl _) (by omega)
    have k0 := k s (Nat.le_refl _) (by omega)
    rcases e with e | e
    · exact .inl (by omega)
    · exact .inr ⟨by omega, lexle_congr f (s + 1) (fun i h1 h2 => h i (by omega) (by omega)) (fun i h1 h2 => k i (by omega) (by omega)) e.2⟩
structure Cand (m : MapD) (lo hi : Int) (l0 : Nat → Int) (f s : Nat) (many : Int) (l : Nat → Int) : Prop where
  pre : ∀ i, i < s → l i = l0 i
  inr : ∀ i, s ≤ i → i < s + f → 0 ≤ l i ∧ l i < m.nw
  mov : movN m l (s + f) = movN m l s + many
  rgt : rightB m l lo hi = true
theorem find_some {β : Type} {f : Nat → Option β} : ∀ {k : Nat} {b : β}, (List.range k).findSome? f = some b → ∃ d, d < k ∧ f d = some b ∧ ∀ e, e < d → f e = none
  | 0, b, h => by simp at h
  | k + 1, b, h => by
    rw [findSome_succ] at h
    cases hk : (List.range k).findSome? f with
    | some b' =>
      rw [hk] at h
      cases h
      obtain ⟨d, h1, h2, h3⟩ := find_some hk
      exact ⟨d, by omega, h2, h3⟩
    | none =>
      rw [hk] at h
      refine ⟨k, by omega, h, fun e he => ?_⟩
      rw [List.findSome?_eq_none_iff] at hk
      exact hk e (List.mem_range.2 he)
theorem find_none {β : Type} {f : Nat → Option β} {k : Nat} (h : (List.range k).findSome? f = none) (d : Nat) (hd : d < k) : f d = none := by
  rw [List.findSome?_eq_none_iff] at h
  exact h d (List.mem_range.2 hd)
/-- what a street costs -/
def mc (m : MapD) (s : Nat) (d : Int) : Int := if d = (m.S s).n then 0 else 1
theorem mc_b (m : MapD) (s : Nat) (d : Int) : 0 ≤ mc m s d ∧ mc m s d ≤ 1 := by unfold mc; split <;> omega
theorem Cand.down {m : MapD} {lo hi : Int} {l0 l : Nat → Int} {f s : Nat} {many : Int} (h : Cand m lo hi l0 (f + 1) s many l) : Cand m lo hi (setL l0 s (l s)) f (s + 1) (many - mc m s (l s)) l := by
  refine ⟨fun i hi => ?_, fun i h1 h2 => h.inr i (by omega) (by omega), ?_, h.rgt⟩
  · unfold setL
    by_cases e : i = s
    · rw [if_pos e, e]
    · rw [if_neg e]; exact h.pre i (by omega)
  · have := h.mov
    rw [show s + (f + 1) = s + 1 + f by omega] at this
    rw [this, movN_succ]
    unfold mc
    omega
theorem Cand.up {m : MapD} {lo hi : Int} {l0 l : Nat → Int} {f s : Nat} {many d : Int} (h : Cand m lo hi (setL l0 s d) f (s + 1) (many - mc m s d) l) (hd : 0 ≤ d ∧ d < m.nw) : Cand m lo hi l0 (f + 1) s many l ∧ l s = d := by
  have hs : l s = d := by
    rw [h.pre s (by omega)]; simp [setL]
  refine ⟨⟨fun i hi => ?_, fun i h1 h2 => ?_, ?_, h.rgt⟩, hs⟩
  · rw [h.pre i (by omega)]
    simp [setL, show i ≠ s by omega]
  · by_cases e : i = s
    · subst e; rw [hs]; exact hd
    · exact h.inr i (by omega) (by omega)
  · have := h.mov
    rw [show s + (f + 1) = s + 1 + f by omega, this, movN_succ, hs]
    unfold mc
    omega
theorem mv_zero {m : MapD} {lo hi : Int} {l : Nat → Int} {s : Nat} {many : Int} : mv m lo hi 0 l s many = if 0 < many then none else if rightB m l lo hi then some l else none := rfl
theorem mv_succ {m : MapD} {lo hi : Int} {l : Nat → Int} {f s : Nat} {many : Int} : mv m lo hi (f + 1) l s many = if ((f : Int) + 1) < many then none else (List.range m.nw.toNat).findSome? fun d : Nat =>
      if 0 ≤ many - mc m s (d : Int) then mv m lo hi f (setL l s (d : Int)) (s + 1) (many - mc m s (d : Int)) else none := rfl
theorem mv_none {m : MapD} {lo hi : Int} : ∀ (f s : Nat) (l : Nat → Int) (many : Int), s + f = m.ss.length → 0 ≤ many → mv m lo hi f l s many = none → ∀ g, ¬ Cand m lo hi l f s many g
  | 0, s, l, many, hs, h0, h, g, c => by
    have hm := c.mov
    have hr := c.rgt
    rw [rightB_congr (l' := l) (fun i hi => c.pre i (by omega))] at hr
    rw [mv_zero, if_neg (by simp at hm; omega), hr] at h
    cases h
  | f + 1, s, l, many, hs, h0, h, g, c => by
    have hm := c.mov
    have hsp := movN_span (m := m) (l := g) s (f + 1)
    rw [mv_succ, if_neg (by omega)] at h
    have hb := c.inr s (Nat.le_refl _) (by omega)
    have h1 := find_none h (g s).toNat (by omega)
    have e : ((g s).toNat : Int) = g s := by omega
    have c' := c.down
    have hm' := c'.mov
    have hmn := movN_mono (m := m) (l := g) (j := s + 1) (k := s + 1 + f) (by omega)
    rw [e, if_pos (by omega)] at h1
    exact mv_none f (s + 1) _ _ (by omega) (by omega) h1 g c'
theorem mv_some {m : MapD} {lo hi : Int} : ∀ (f s : Nat) (l : Nat → Int) (many : Int) (g : Nat → Int), s + f = m.ss.length → 0 ≤ many → mv m lo hi f l s many = some g →
    Cand m lo hi l f s many g ∧ ∀ g', Cand m lo hi l f s many g' → lexle g g' f s
  | 0, s, l, many, g, hs, h0, h => by
    rw [mv_zero] at h
    split at h
    · cases h
    · split at h
      · cases h
        rename_i hr
        exact ⟨⟨fun _ _ => rfl, fun i h1 h2 => by omega, by simp; omega, hr⟩, fun _ _ => trivial⟩
      · cases h
  | f + 1, s, l, many, g, hs, h0, h => by
    rw [mv_succ] at h
    split at h
    · cases h
    · obtain ⟨d, hd, h1, h2⟩ := find_some h
      by_cases hc : 0 ≤ many - mc m s (d : Int)
      · rw [if_pos hc] at h1
        obtain ⟨a, b⟩ := mv_some f (s + 1) _ _ g (by omega) hc h1
        obtain ⟨a', hgs⟩ := a.up (by omega)
        refine ⟨a', fun g' c' => ?_⟩
        have hb := c'.inr s (Nat.le_refl _) (by omega)
        have e : ((g' s).toNat : Int) = g' s := by omega
        have cd := c'.down
        rcases Int.lt_trichotomy (g' s) (d : Int) with hlt | heq | hgt
        · exfalso
          have h3 := h2 (g' s).toNat (by omega)
          have hm' := cd.mov
          have hmn := movN_mono (m := m) (l := g') (j := s + 1) (k := s + 1 + f) (by omega)
          rw [e, if_pos (by omega)] at h3
          exact mv_none f (s + 1) _ _ (by omega) (by omega) h3 g' cd
        · rw [heq] at cd
          exact .inr ⟨by rw [hgs, heq], b g' cd⟩
        · exact .inl (by rw [hgs]; exact hgt)
      · rw [if_neg hc] at h1
        cases h1
/-- borders of a map that are right -/
def RightAll (m : MapD) (lo hi : Int) (l : Nat → Int) : Prop := (∀ i, i < m.ss.length → 0 ≤ l i ∧ l i < m.nw) ∧ rightB m l lo hi = true
theorem RightAll.cand {m : MapD} {lo hi : Int} {l : Nat → Int} (h : RightAll m lo hi l) : Cand m lo hi zeroL m.ss.length 0 (movN m l m.ss.length) l :=
  ⟨fun i hi => by omega, fun i _ hi => h.1 i (by omega), by simp [movN, sumN], h.2⟩
theorem Cand.all {m : MapD} {lo hi : Int} {l : Nat → Int} {many : Int} (h : Cand m lo hi zeroL m.ss.length 0 many l) : RightAll m lo hi l ∧ movN m l m.ss.length = many := by
  refine ⟨⟨fun i hi => h.inr i (Nat.zero_le _) (by omega), h.rgt⟩, ?_⟩
  have := h.mov
  simpa [movN, sumN] using this
theorem best_some_iff {m : MapD} {lo hi : Int} {j : Nat} {l : Nat → Int} (h : bestB m lo hi = some (j, l)) :
    RightAll m lo hi l ∧ movN m l m.ss.length = j ∧ ∀ l', RightAll m lo hi l' → (j : Int) < movN m l' m.ss.length ∨ ((j : Int) = movN m l' m.ss.length ∧ lexle l l' m.ss.length 0) := by
  obtain ⟨d, _, h1, h2⟩ := find_some (show (List.range (m.ss.length + 1)).findSome? _ = some (j, l) from h)
  rw [Option.map_eq_some_iff] at h1
  obtain ⟨g, h1, e⟩ := h1
  cases e
  obtain ⟨a, b⟩ := mv_some m.ss.length 0 zeroL _ l (by omega) (by omega) h1
  obtain ⟨a1, a2⟩ := a.all
  refine ⟨a1, a2, fun l' hr => ?_⟩
  have c := hr.cand
  have hb := movN_bounds m l' m.ss.length
  rcases Int.lt_trichotomy (movN m l' m.ss.length) (j : Int) with hlt | heq | hgt
  · exfalso
    have h3 := h2 (movN m l' m.ss.length).toNat (by omega)
    rw [Option.map_eq_none_iff] at h3
    rw [show (((movN m l' m.ss.length).toNat : Nat) : Int) = movN m l' m.ss.length by omega] at h3
    exact mv_none m.ss.length 0 zeroL _ (by omega) hb.1 h3 l' c
  · rw [heq] at c
    exact .inr ⟨heq.symm, b l' c⟩
  · exact .inl hgt
theorem best_none_iff {m : MapD} {lo hi : Int} (h : bestB m lo hi = none) (l : Nat → Int) : ¬ RightAll m lo hi l := fun hr => by
  have hb := movN_bounds m l m.ss.length
  have h3 := find_none (show (List.range (m.ss.length + 1)).findSome? _ = none from h) (movN m l m.ss.length).toNat (by omega)
  rw [Option.map_eq_none_iff, show (((movN m l m.ss.length).toNat : Nat) : Int) = movN m l m.ss.length by omega] at h3
  exact mv_none m.ss.length 0 zeroL _ (by omega) hb.1 h3 l hr.cand
theorem bestB_le {m : MapD} {lo hi : Int} {j : Nat} {l : Nat → Int} (h : bestB m lo hi = some (j, l)) : j ≤ m.ss.length := by
  obtain ⟨_, h2, _⟩ := best_some_iff h
  have := movN_bounds m l m.ss.length
  omega
/-- numbers of borders -/
def numF (N : Int) (l : Nat → Int) : Nat → Nat → Int
  | 0, _ => 0
  | f + 1, s => l s * N ^ f + numF N l f (s + 1)
theorem numF_b {N : Int} (hN : 1 ≤ N) {l : Nat → Int} : ∀ f s, (∀ i, s ≤ i → i < s + f → 0 ≤ l i ∧ l i < N) → 0 ≤ numF N l f s ∧ numF N l f s < N ^ f
  | 0, s, _ => by simp [numF]
  | f + 1, s, h => by
    obtain ⟨h1, h2⟩ := h s (Nat.le_refl _) (by omega)
    obtain ⟨h3, h4⟩ := numF_b hN f (s + 1) fun i a b => h i (by omega) (by omega)
    have hp : 0 < N ^ f := Int.pow_pos (by omega)
    have e : N ^ (f + 1) = N ^ f * N := Int.pow_succ N f
    have h5 : 0 ≤ l s * N ^ f := Int.mul_nonneg h1 (by omega)
    have h6 : l s * N ^ f ≤ (N - 1) * N ^ f := Int.mul_le_mul_of_nonneg_right (by omega) (by omega)
    have h7 : (N - 1) * N ^ f = N ^ f * N - N ^ f := by rw [Int.sub_mul, Int.mul_comm N]; simp
    show 0 ≤ l s * N ^ f + numF N l f (s + 1) ∧ l s * N ^ f + numF N l f (s + 1) < N ^ (f + 1)
    rw [e]
    omega
theorem lexle_of_num {N : Int} (hN : 1 ≤ N) {l l' : Nat → Int} : ∀ f s, (∀ i, s ≤ i → i < s + f → 0 ≤ l i ∧ l i < N) → (∀ i, s ≤ i → i < s + f → 0 ≤ l' i ∧ l' i < N) → numF N l f s ≤ numF N l' f s → lexle l l' f s
  | 0, _, _, _, _ => trivial
  | f + 1, s, h, k, hn => by
    have b1 := numF_b hN f (s + 1) fun i a b => h i (by omega) (by omega)
    have b2 := numF_b hN f (s + 1) fun i a b => k i (by omega) (by omega)
    have hp : 0 < N ^ f := Int.pow_pos (by omega)
    have e1 : numF N l (f + 1) s = l s * N ^ f + numF N l f (s + 1) := rfl
    have e2 : numF N l' (f + 1) s = l' s * N ^ f + numF N l' f (s + 1) := rfl
    rw [e1, e2] at hn
    rcases Int.lt_trichotomy (l s) (l' s) with hlt | heq | hgt
    · exact .inl hlt
    · exact .inr ⟨heq, lexle_of_num hN f (s + 1) (fun i a b => h i (by omega) (by omega)) (fun i a b => k i (by omega) (by omega)) (by rw [heq] at hn; omega)⟩
    · exfalso
      have h6 : (l' s + 1) * N ^ f ≤ l s * N ^ f := Int.mul_le_mul_of_nonneg_right (by omega) (by omega)
      rw [Int.add_mul, Int.one_mul] at h6
      omega
end Go.Proofs.YtlnamjhgbdacbaaGreat
/- right: whether borders are right for limits. Conditions stand at each theorem. -/
namespace Go.Proofs.YtlnamjhgbdacbaaGreat
open Go.RowKit Go.Shelf

end Go.Proofs.YtlnamjhgbdacbaaGreat
/- asked, list, Apart. Conditions stand at each theorem. -/
namespace Go.Proofs.YtlnamjhgbdacbaaGreat
open Go.RowKit Go.Shelf

/-- the number of the error of a map with limits -/
def askE (m : MapD) (lo hi : Int) : Int := if chkM m = 0 then (if rngOk lo hi 40000 = true then cstM m else 2) else chkM m
theorem ask_ok {m : MapD} {lo hi : Int} (h : askE m lo hi = 0) : chkM m = 0 ∧ rngOk lo hi 40000 = true ∧ cstM m = 0 := by
  unfold askE at h
  by_cases hc : chkM m = 0
  · rw [if_pos hc] at h
    by_cases hr : rngOk lo hi 40000 = true
    · rw [if_pos hr] at h; exact ⟨hc, hr, h⟩
    · rw [if_neg hr] at h; cases h
  · rw [if_neg hc] at h; exact absurd h hc
/-- borders as a list -/
def lst (m : MapD) (l : Nat → Int) : List Int := (List.range m.ss.length).map l
theorem lst_len (m : MapD) (l : Nat → Int) : (lst m l).length = m.ss.length := by simp [lst]
theorem lst_get {m : MapD} {l : Nat → Int} {i : Nat} (h : i < m.ss.length) : (lst m l)[i]? = some (l i) := by simp [lst, h]
theorem lst_congr {m : MapD} {l l' : Nat → Int} (h : ∀ i, i < m.ss.length → l i = l' i) : lst m l = lst m l' := by
  unfold lst
  exact List.map_congr_left fun i hi => h i (List.mem_range.1 hi)
/-- the new districts that are not connected -/
def apTo (m : MapD) (k : Nat) : List Int := ((List.range k).filter fun d : Nat => !conB m (ownL m) (d : Int)).map fun d : Nat => (d : Int)
def apL (m : MapD) : List Int := apTo m m.nw.toNat
theorem apTo_in {m : MapD} {k : Nat} (h : conB m (ownL m) (k : Int) = false) : apTo m (k + 1) = apTo m k ++ [(k : Int)] := by simp [apTo, List.range_succ, h]
theorem apTo_out {m : MapD} {k : Nat} (h : conB m (ownL m) (k : Int) = true) : apTo m (k + 1) = apTo m k := by simp [apTo, List.range_succ, h]
theorem apTo_len (m : MapD) (k : Nat) : (apTo m k).length ≤ k := by
  have := List.length_filter_le (fun d : Nat => !conB m (ownL m) (d : Int)) (List.range k)
  simp [apTo] at this ⊢
  exact this
set_option maxRecDepth 100000 in
set_option maxHeartbeats 2000000 in
theorem apart_any (m : MapD) (A : Option Addr) (c : Nat) (A2 : Option Addr) (c2 : Nat) (A3 : Option Addr) (c3 : Nat) (w : World) (h : MIn m A c A2 c2 A3 c3 w) :
    Calls Tryz.prog 17 #[.agg #[.slice A m.old.length c, .int .i64 m.nw, .slice A2 m.ss.length c2, .slice A3 m.js.length c3]] w fun e w' => if chkM m ≠ 0 then e = .returned (.tuple #[.slice none 0 0, .int .i64 (chkM m)]) ∧ Below w.heap.size w w' else ∃ A c, e = .returned (.tuple #[.slice A (apL m).length c, .int .i64 0]) ∧ IsInts w' w'.heap.size A (apL m) ∧ (apL m).length ≤ c ∧ c ≤ maxLen ∧ Below w.heap.size w w' := by
  have hB := below_box (w := w) #[.slice A m.old.length c, .int .i64 m.nw, .slice A2 m.ss.length c2, .slice A3 m.js.length c3] 36
  have hT := Blk.new w 36 #[.slice A m.old.length c, .int .i64 m.nw, .slice A2 m.ss.length c2, .slice A3 m.js.length c3]
  obtain ⟨t0, t1, t2, t3⟩ := hT.c4
  have HH := hid (h.at_ hB)
  have HB := hid hB
  have HT := hid hT
  have KC := hid (checkm_any m A c A2 c2 A3 c3 _ (h.at_ hB))
  clear h hB hT
  by_cases hc : chkM m = 0
  · simp only [hc, ne_eq, not_true_eq_false, if_false]
    rw [hc] at KC
    have OK := hid (chk_okm hc)
    have hs8 := OK.out.s8
    have hn1 := OK.out.n1
    have hn4 := OK.out.n4
    obtain ⟨N, hN⟩ : ∃ N, m.nw.toNat = N := ⟨_, rfl⟩
    have hNI : m.nw = (N : Int) := by omega
    have HN := hid (And.intro hN hNI)
    have hN4 : N ≤ 4 := by omega
    clear hc hN hn1 hn4 hNI
    go_enter Tryz.func17, Tryz.ntmps17
    go_wp2_with fail
    refine KC.out.mono ?_
    rintro e w2 ⟨rfl, hb⟩
    have HB2 := hid (HB.out.trans (hb.mono HB.out.size))
    have HT2 := hid (HT.out.keep hb)
    have HH2 := hid (HH.out.at_ hb)
    have KW := hid (bwork_any m A c A2 c2 A3 c3 w2 HH2.out OK.out)
    clear t0 t1 t2 t3 hb KC
    obtain ⟨t0, t1, t2, t3⟩ := HT2.out.c4
    go_wp2_with fail
    refine KW.out.mono ?_
    rintro e w3 ⟨g, b, rfl, _, _, h3, hb⟩
    have HB3 := hid (HB2.out.trans (hb.mono HB2.out.size))
    have HT3 := hid (HT2.out.keep hb)
    have HH3 := hid (HH2.out.at_ hb)
    have HW3 := hid h3
    clear t0 t1 t2 t3 hb KW h3
    obtain ⟨t0, t1, t2, t3⟩ := HT3.out.c4
    rw [HN.out.2] at t1
    go_wp2
    clear t0 t1 t2 t3
    go_loopw [6, 17] (fun v i W => ∃ k : Nat, k ≤ N ∧ i = .int .i64 k ∧ W.ownsRow w3.heap.size 3 1 v (apTo m k).length ((apTo m k).map (Value.int .i64)) ∧ Below w3.heap.size w3 W) (fun _ i _ => N - (intOf i).toNat)
    case atStart => exact ⟨0, Nat.zero_le _, rfl, ⟨rfl, .inl ⟨rfl, rfl⟩⟩, Below.refl _ _⟩
    case round =>
      obtain ⟨k, hk, rfl, ho, hbr⟩ := hrel
      have HR := hid (And.intro ho hbr)
      clear ho hbr
      by_cases hlt : k < N
      · have hkI : (k : Int) < (N : Int) := by omega
        obtain ⟨t0, t1, t2, t3⟩ := (HT3.out.keep HR.out.2).c4
        have hml := apTo_len m k
        have hsz := HR.out.2.size
        have KO := hid (bown_any m A c A2 c2 A3 c3 wr (HH3.out.at_ HR.out.2) hs8)
        go_wp2_with fail
        refine KO.out.mono ?_
        rintro e w4 ⟨rfl, hb⟩
        have KN := connected_any m A c A2 c2 A3 c3 g b (ownL m) (k : Int) w4 (HW3.out.keep (HR.out.2.trans (hb.mono HR.out.2.size))) OK.out
        have HB4 := hid hb
        clear t0 t1 t2 t3 hb KO
        cases hcb : conB m (ownL m) (k : Int)
        · have HST := hid (apTo_in hcb)
          rw [hcb] at KN
          have KN := hid KN
          clear hcb
          go_wp2_with fail
          refine KN.out.mono ?_
          rintro e w5 ⟨rfl, hb⟩
          have hb5 := HB4.out.trans (hb.mono HB4.out.size)
          have ho5 := row_kept (vo := .slice none 0 0) HR.out.1 (grown_of_below hb5 _) (.inl rfl)
          have HB5 := hid (HR.out.2.trans (hb5.mono HR.out.2.size))
          have hs5 := HB5.out.size
          have HO := hid (ho5.alloc (.cells #[.int .i64 (k : Int)] 3))
          obtain ⟨i0, hi0, hz0, hz1, hz2⟩ := info_parts int_info
          clear hb hb5 ho5 KN
          go_wp2_with (at_builtin; refine wpList_append_own_at _ rfl _ _ 22 rfl w3.heap.size 3 i0 (.int .i64 0) 1 8 Tryz.underlying22 hi0 hz0 hz1 hz2 rfl (by decide) u6 _ _ rfl HO.out ⟨w5.heap.size, 0, none⟩ 1 1 [.int .i64 (k : Int)] rfl rfl (by intro q u hq; cases q with | zero => simp at hq; subst hq; exact (World.cell?_alloc_new _ _ _ _) | succ q => simp at hq) (by intro u hu; simp at hu; subst hu; rfl) (by simp only [maxLen]; omega) (by omega) (by simp; omega) ?_; intro vo' w6 hown' hgrow _ hfr; have HNX := hid (show w6.ownsRow w3.heap.size 3 1 vo' (apTo m (k + 1)).length ((apTo m (k + 1)).map (Value.int .i64)) ∧ Below w3.heap.size w3 w6 from ⟨by rw [HST.out, List.length_append, List.map_append]; exact hown', below_row' (HB5.out.trans ((below_box _ _).mono HB5.out.size)) HO.out (Nat.le_refl _) hgrow (by simp; omega)⟩); clear hown' hgrow hfr)
          go_roundw
          case rel => exact ⟨k + 1, by omega, by go_num, HNX.out⟩
          case measure => first | (simp [intOf]; done) | (simp [intOf]; omega)
        · have HST := hid (apTo_out hcb)
          rw [hcb] at KN
          have KN := hid KN
          clear hcb
          go_wp2_with fail
          refine KN.out.mono ?_
          rintro e w5 ⟨rfl, hb⟩
          have hb5 := HB4.out.trans (hb.mono HB4.out.size)
          have HNX := hid (show w5.ownsRow w3.heap.size 3 1 u6 (apTo m (k + 1)).length ((apTo m (k + 1)).map (Value.int .i64)) ∧ Below w3.heap.size w3 w5 from ⟨by rw [HST.out]; exact row_kept (vo := .slice none 0 0) HR.out.1 (grown_of_below hb5 _) (.inl rfl), HR.out.2.trans (hb5.mono HR.out.2.size)⟩)
          clear hb hb5 KN
          go_wp2
          go_roundw
          case rel => exact ⟨k + 1, by omega, by go_num, HNX.out⟩
          case measure => first | (simp [intOf]; done) | (simp [intOf]; omega)
      · have hkI : decide ((k : Int) < (N : Int)) = false := by simp; omega
        obtain rfl : k = N := by omega
        obtain ⟨A7, c7, e7, r1, r2, r3, _, _⟩ := own_ints rfl HR.out.1
        have hol : apL m = apTo m k := by unfold apL; rw [HN.out.1]
        subst e7
        have HFIN := hid (show ∃ A c, Ending.returned (.tuple #[.slice A7 (apTo m k).length c7, .int .i64 0]) = .returned (.tuple #[.slice A (apL m).length c, .int .i64 0]) ∧ IsInts wr wr.heap.size A (apL m) ∧ (apL m).length ≤ c ∧ c ≤ maxLen ∧ Below w.heap.size w wr from ⟨A7, c7, by rw [hol], by rw [hol]; exact r3, by rw [hol]; exact r1, r2, HB3.out.trans (HR.out.2.mono HB3.out.size)⟩)
        clear r1 r2 r3 hol HR
        go_wp2
        go_ret2
        exact HFIN.out
  · have hne : (chkM m != 0) = true := by simp [hc]
    simp only [ne_eq, hc, not_false_eq_true, if_true]
    obtain ⟨z, hz⟩ : ∃ z, chkM m = z := ⟨_, rfl⟩
    rw [hz] at KC hne ⊢
    clear hc hz
    go_enter Tryz.func17, Tryz.ntmps17
    go_wp2_with fail
    refine KC.out.mono ?_
    rintro e wc ⟨rfl, hb⟩
    have HBC := hid (HB.out.trans (hb.mono HB.out.size))
    clear hb KC t0 t1 t2 t3
    go_wp2
    go_ret2
    exact ⟨rfl, HBC.out⟩
end Go.Proofs.YtlnamjhgbdacbaaGreat
/- The list of a set: the places whose bit is one, rising. Conditions stand at each theorem. -/
namespace Go.Proofs.YtlnamjhgbdacbaaGreat
open Go.RowKit Go.Shelf

def plTo (p : Nat → Bool) (k : Nat) : List Int := ((List.range k).filter p).map fun d : Nat => (d : Int)
theorem plTo_in {p : Nat → Bool} {k : Nat} (h : p k = true) : plTo p (k + 1) = plTo p k ++ [(k : Int)] := by simp [plTo, List.range_succ, h]
theorem plTo_out {p : Nat → Bool} {k : Nat} (h : p k = false) : plTo p (k + 1) = plTo p k := by simp [plTo, List.range_succ, h]
theorem plTo_len (p : Nat → Bool) (k : Nat) : (plTo p k).length ≤ k := by
  have := List.length_filter_le p (List.range k)
  simp [plTo] at this ⊢
  exact this
set_option maxRecDepth 100000 in
set_option maxHeartbeats 2000000 in
theorem wlist_any (s : Int) (p : Nat → Bool) (hp : ∀ k : Nat, k < 8 → ∀ W, Calls Tryz.prog 104 #[.int .i64 s, .int .i64 k] W fun e w' => e = .returned (.bool (p k)) ∧ W = w') (w : World) :
    Calls Tryz.prog 66 #[.int .i64 s] w (GivesInts (plTo p 8) w) := by
  have HP := hid hp
  clear hp
  go_enter Tryz.func66, Tryz.ntmps66
  go_wp2
  go_loopw [2, 4] (fun v i W => ∃ k : Nat, k ≤ 8 ∧ i = .int .i64 k ∧ W.ownsRow w.heap.size 3 1 v (plTo p k).length ((plTo p k).map (Value.int .i64)) ∧ Below w.heap.size w W) (fun _ i _ => 8 - (intOf i).toNat)
  case atStart => exact ⟨0, Nat.zero_le _, rfl, ⟨rfl, .inl ⟨rfl, rfl⟩⟩, Below.refl _ _⟩
  case round =>
    obtain ⟨k, hk, rfl, ho, hbr⟩ := hrel
    have HR := hid (And.intro ho hbr)
    clear ho hbr
    by_cases hlt : k < 8
    · have hkI : (k : Int) < 8 := by omega
      have hml := plTo_len p k
      have hsz := HR.out.2.size
      have KN := HP.out k hlt wr
      cases hcb : p k
      · have HST := hid (plTo_out hcb)
        rw [hcb] at KN
        have KN := hid KN
        clear hcb
        go_wp2_with fail
        refine KN.out.mono ?_
        rintro e w5 ⟨rfl, rfl⟩
        have HNX := hid (show wr.ownsRow w.heap.size 3 1 u2 (plTo p (k + 1)).length ((plTo p (k + 1)).map (Value.int .i64)) ∧ Below w.heap.size w wr from ⟨by rw [HST.out]; exact HR.out.1, HR.out.2⟩)
        clear KN
        go_wp2
        go_roundw
        case rel => exact ⟨k + 1, by omega, by go_num, HNX.out⟩
        case measure => first | (simp [intOf]; done) | (simp [intOf]; omega)
      · have HST := hid (plTo_in hcb)
        rw [hcb] at KN
        have KN := hid KN
        clear hcb
        go_wp2_with fail
        refine KN.out.mono ?_
        rintro e w5 ⟨rfl, rfl⟩
        have HO := hid (HR.out.1.alloc (.cells #[.int .i64 (k : Int)] 3))
        obtain ⟨i0, hi0, hz0, hz1, hz2⟩ := info_parts int_info
        clear KN
        go_wp2_with (at_builtin; refine wpList_append_own_at _ rfl _ _ 22 rfl w.heap.size 3 i0 (.int .i64 0) 1 8 Tryz.underlying22 hi0 hz0 hz1 hz2 rfl (by decide) u2 _ _ rfl HO.out ⟨wr.heap.size, 0, none⟩ 1 1 [.int .i64 (k : Int)] rfl rfl (by intro q u hq; cases q with | zero => simp at hq; subst hq; exact (World.cell?_alloc_new _ _ _ _) | succ q => simp at hq) (by intro u hu; simp at hu; subst hu; rfl) (by simp only [maxLen]; omega) (by omega) (by simp; omega) ?_; intro vo' w6 hown' hgrow _ hfr; have HNX := hid (show w6.ownsRow w.heap.size 3 1 vo' (plTo p (k + 1)).length ((plTo p (k + 1)).map (Value.int .i64)) ∧ Below w.heap.size w w6 from ⟨by rw [HST.out, List.length_append, List.map_append]; exact hown', below_row' (HR.out.2.trans ((below_box _ _).mono HR.out.2.size)) HO.out (Nat.le_refl _) hgrow (by simp; omega)⟩); clear hown' hgrow hfr)
        go_roundw
        case rel => exact ⟨k + 1, by omega, by go_num, HNX.out⟩
        case measure => first | (simp [intOf]; done) | (simp [intOf]; omega)
    · have hkI : decide ((k : Int) < 8) = false := by simp; omega
      obtain rfl : k = 8 := by omega
      obtain ⟨A7, c7, e7, r1, r2, r3, r4, r5⟩ := own_ints rfl HR.out.1
      subst e7
      have HFIN := hid (show GivesInts (plTo p 8) w (.returned (.slice A7 (plTo p 8).length c7)) wr from ⟨A7, c7, rfl, r1, r2, r3, r4, r5, HR.out.2⟩)
      clear r1 r2 r3 r4 r5 HR
      go_wp2
      go_ret
      exact HFIN.out
theorem wlist_one (w : World) : Calls Tryz.prog 66 #[.int .i64 1] w (GivesInts [0] w) := wlist_any 1 (fun k => decide (k = 0)) has_one w
end Go.Proofs.YtlnamjhgbdacbaaGreat
/- Sets of places: whether a place is in one. Conditions stand at each theorem. -/
namespace Go.Proofs.YtlnamjhgbdacbaaGreat
open Go.RowKit Go.Shelf

theorem bit_fact : ∀ s : Nat, s < 256 → ∀ k : Nat, k < 8 → (bits BinOp.and IntKind.i64 ((s : Int) / 2 ^ k) 1 == 1) = Nat.testBit s k := by decide +kernel
set_option maxHeartbeats 1000000 in
theorem whas_any (s k : Nat) (hs : s < 256) (hk : k < 8) (w : World) : Calls Tryz.prog 104 #[.int .i64 (s : Int), .int .i64 (k : Int)] w fun e w' => e = .returned (.bool (Nat.testBit s k)) ∧ w = w' := by
  have hb := bit_fact s hs k hk
  have hneg : decide ((k : Int) < 0) = false := by simp
  have hmin : min k 64 = k := by omega
  go_enter Tryz.func104, Tryz.ntmps104
  go_wp2
  go_ret
  exact ⟨rfl, rfl⟩
/-- the places of a set, rising -/
def bl (s : Nat) : List Nat := (List.range 8).filter fun k => Nat.testBit s k
theorem bl_len (s : Nat) : (bl s).length ≤ 8 := by
  have := List.length_filter_le (fun k => Nat.testBit s k) (List.range 8)
  simpa [bl] using this
theorem bl_mem {s k : Nat} : k ∈ bl s ↔ k < 8 ∧ Nat.testBit s k = true := by simp [bl]
theorem bl_plTo (s : Nat) : plTo (fun k => Nat.testBit s k) 8 = (bl s).map fun n : Nat => (n : Int) := rfl
theorem wlist_set (s : Nat) (hs : s < 256) (w : World) : Calls Tryz.prog 66 #[.int .i64 (s : Int)] w (GivesInts ((bl s).map fun n : Nat => (n : Int)) w) := by
  have := wlist_any (s : Int) (fun k => Nat.testBit s k) (fun k hk W => whas_any s k hs hk W) w
  rwa [bl_plTo] at this
/-- a set without a place -/
def rmv (s k : Nat) : Nat := s ^^^ (s &&& (1 <<< k))
theorem rmv_fact : ∀ s : Nat, s < 256 → ∀ k : Nat, k < 8 → bits BinOp.andNot IntKind.i64 (s : Int) (2 ^ k) = (rmv s k : Int) ∧ rmv s k < 256 ∧ bl (rmv s k) = (bl s).filter (fun n => !(n == k)) := by decide +kernel
end Go.Proofs.YtlnamjhgbdacbaaGreat
/- How a tour goes on, in plain words. No condition. -/
namespace Go.Proofs.YtlnamjhgbdacbaaGreat

def without (l : List Nat) (n : Nat) : List Nat := l.filter fun k => !(k == n)
/-- time to the end, and the place that is visited next -/
def restF (T : Nat → Nat → Int) : Nat → Nat → List Nat → Int × Int
  | 0, a, _ => (T a 0, 0)
  | k + 1, a, l => if l = [] then (T a 0, 0) else l.foldl (fun best n => if T a n + (restF T k n (without l n)).1 < best.1 then (T a n + (restF T k n (without l n)).1, (n : Int)) else best) (farI, -1)
def rst (T : Nat → Nat → Int) (a : Nat) (l : List Nat) : Int × Int := restF T l.length a l
/-- the best of the first ones -/
def rstTo (T : Nat → Nat → Int) (a : Nat) (l k : List Nat) : Int × Int := k.foldl (fun best n => if T a n + (rst T n (without l n)).1 < best.1 then (T a n + (rst T n (without l n)).1, (n : Int)) else best) (farI, -1)
theorem without_len {l : List Nat} {n : Nat} (hl : l.Nodup) (hn : n ∈ l) : (without l n).length + 1 = l.length := by
  unfold without
  induction l with
  | nil => simp at hn
  | cons x l ih =>
    obtain ⟨h1, h2⟩ := List.nodup_cons.1 hl
    by_cases e : x = n
    · subst e
      have : l.filter (fun k => !(k == x)) = l := List.filter_eq_self.2 fun k hk => by
        have : k ≠ x := fun e => h1 (e ▸ hk)
        simp [this]
      simp [this]
    · have hn' : n ∈ l := by
        rcases List.mem_cons.1 hn with h | h
        · exact absurd h.symm e
        · exact h
      have := ih h2 hn'
      simp [e]
      omega
theorem foldl_congr_mem {β : Type} {f g : β → Nat → β} : ∀ {l : List Nat} {b : β}, (∀ b n, n ∈ l → f b n = g b n) → l.foldl f b = l.foldl g b
  | [], _, _ => rfl
  | x :: l, b, h => by
    simp only [List.foldl_cons]
    rw [h b x (by simp)]
    exact foldl_congr_mem fun b n hn => h b n (by simp [hn])
theorem rst_nil (T : Nat → Nat → Int) (a : Nat) : rst T a [] = (T a 0, 0) := rfl
theorem rst_cons {T : Nat → Nat → Int} {a : Nat} {l : List Nat} (hne : l ≠ []) (hl : l.Nodup) : rst T a l = rstTo T a l l := by
  obtain ⟨x, t, e⟩ : ∃ x t, l = x :: t := by
    cases l with
    | nil => exact absurd rfl hne
    | cons x t => exact ⟨x, t, rfl⟩
  have hlen : l.length = t.length + 1 := by rw [e]; rfl
  unfold rst rstTo
  rw [hlen, restF, if_neg hne]
  refine foldl_congr_mem fun b n hn => ?_
  have := without_len hl hn
  rw [show rst T n (without l n) = restF T t.length n (without l n) by unfold rst; rw [show (without l n).length = t.length by omega]]
theorem rstTo_snoc {T : Nat → Nat → Int} {a : Nat} {l k : List Nat} {n : Nat} : rstTo T a l (k ++ [n]) = if T a n + (rst T n (without l n)).1 < (rstTo T a l k).1 then (T a n + (rst T n (without l n)).1, (n : Int)) else rstTo T a l k := by
  unfold rstTo
  rw [List.foldl_append]; rfl
theorem snoc_ind {P : List Nat → Prop} (h0 : P []) (h1 : ∀ l n, P l → P (l ++ [n])) (l : List Nat) : P l := by
  have h : ∀ k : List Nat, P k.reverse := by
    intro k
    induction k with
    | nil => simpa using h0
    | cons x t ih => simpa using h1 _ x ih
  simpa using h l.reverse
/-- times of a tour's rest are in range -/
theorem rst_bound {T : Nat → Nat → Int} {B : Nat} (hB : 0 < B) (hT : ∀ x y, x < B → y < B → 0 ≤ T x y ∧ T x y ≤ farI) : ∀ (k : Nat) (l : List Nat), l.length = k → l.Nodup → (∀ n ∈ l, n < B) → ∀ a, a < B → 0 ≤ (rst T a l).1 ∧ (rst T a l).1 ≤ farI
  | 0, l, hk, _, _, a, ha => by
    obtain rfl := List.eq_nil_of_length_eq_zero hk
    exact hT a 0 ha hB
  | k + 1, l, hk, hl, h8, a, ha => by
    rw [rst_cons (fun e => by rw [e] at hk; simp at hk) hl]
    have key : ∀ j : List Nat, (∀ n ∈ j, n ∈ l) → 0 ≤ (rstTo T a l j).1 ∧ (rstTo T a l j).1 ≤ farI := by
      intro j
      refine snoc_ind (P := fun j => (∀ n ∈ j, n ∈ l) → 0 ≤ (rstTo T a l j).1 ∧ (rstTo T a l j).1 ≤ farI) ?_ ?_ j
      · intro _; unfold rstTo farI; simp
      · intro j n ih hj
        have ih' := ih fun x hx => hj x (by simp [hx])
        have hn := hj n (by simp)
        have h1 := rst_bound hB hT k (without l n) (by have := without_len hl hn; omega) (List.Nodup.sublist List.filter_sublist hl) (fun x hx => h8 x (List.mem_filter.1 hx).1) n (h8 n hn)
        have h2 := hT a n ha (h8 n hn)
        rw [rstTo_snoc]
        by_cases e : T a n + (rst T n (without l n)).1 < (rstTo T a l j).1
        · rw [if_pos e]; show 0 ≤ T a n + (rst T n (without l n)).1 ∧ T a n + (rst T n (without l n)).1 ≤ farI; omega
        · rw [if_neg e]; exact ih'
    exact key l fun _ h => h
/-- where the rest of a tour takes a time, the next place is one that is left, and can be reached -/
theorem rst_next {T : Nat → Nat → Int} {B : Nat} (hB : 0 < B) (hT : ∀ x y, x < B → y < B → 0 ≤ T x y ∧ T x y ≤ farI) {l : List Nat} (hne : l ≠ []) (hl : l.Nodup) (h8 : ∀ n ∈ l, n < B) {a : Nat} (ha : a < B) (hlt : (rst T a l).1 < farI) :
    ∃ n, n ∈ l ∧ (rst T a l).2 = (n : Int) ∧ T a n < farI ∧ (rst T n (without l n)).1 < farI := by
  rw [rst_cons hne hl] at hlt ⊢
  have key : ∀ j : List Nat, (∀ n ∈ j, n ∈ l) → (rstTo T a l j).1 < farI → ∃ n, n ∈ l ∧ (rstTo T a l j).2 = (n : Int) ∧ T a n < farI ∧ (rst T n (without l n)).1 < farI := by
    intro j
    refine snoc_ind (P := fun j => (∀ n ∈ j, n ∈ l) → (rstTo T a l j).1 < farI → ∃ n, n ∈ l ∧ (rstTo T a l j).2 = (n : Int) ∧ T a n < farI ∧ (rst T n (without l n)).1 < farI) ?_ ?_ j
    · intro _ h; unfold rstTo farI at h; simp at h
    · intro j n ih hj h
      have hn := hj n (by simp)
      have h1 := rst_bound hB hT _ (without l n) rfl (List.Nodup.sublist List.filter_sublist hl) (fun x hx => h8 x (List.mem_filter.1 hx).1) n (h8 n hn)
      have h2 := hT a n ha (h8 n hn)
      rw [rstTo_snoc] at h ⊢
      by_cases e : T a n + (rst T n (without l n)).1 < (rstTo T a l j).1
      · rw [if_pos e] at h ⊢
        simp only at h ⊢
        exact ⟨n, hn, rfl, by omega, by omega⟩
      · rw [if_neg e] at h ⊢
        exact ih (fun x hx => hj x (by simp [hx])) h
  exact key l (fun _ h => h) hlt
theorem bl_nodup (s : Nat) : (bl s).Nodup := List.Nodup.sublist List.filter_sublist List.nodup_range
theorem bl_rmv {s k : Nat} (hs : s < 256) (hk : k < 8) : bl (rmv s k) = without (bl s) k := (rmv_fact s hs k hk).2.2
theorem bl_zero : bl 0 = [] := by decide
theorem bl_ne : ∀ s : Nat, s < 256 → s ≠ 0 → bl s ≠ [] := by decide +kernel
end Go.Proofs.YtlnamjhgbdacbaaGreat
/- Maps of places and roads in memory; the quickest ways in memory. No condition. -/
namespace Go.Proofs.YtlnamjhgbdacbaaGreat
open Go.RowKit

def IsRds (w : World) (n : Nat) (A : Option Addr) (rs : List Rd) : Prop :=
  ∀ k r, rs[k]? = some r → ∃ a, A = some a ∧ a.block < n ∧ w.cell? (a.add (k * 4)) = some (.int .i64 r.a) ∧ w.cell? ⟨(a.add (k * 4)).block, (a.add (k * 4)).off + 1, none⟩ = some (.int .i64 r.b) ∧ w.cell? ⟨(a.add (k * 4)).block, (a.add (k * 4)).off + 2, none⟩ = some (.int .i64 r.lo) ∧ w.cell? ⟨(a.add (k * 4)).block, (a.add (k * 4)).off + 3, none⟩ = some (.int .i64 r.hi)
section
variable {w w' : World} {n m : Nat} {A : Option Addr} {rs : List Rd}
theorem IsRds.below (h : IsRds w n A rs) (hb : Below n w w') : IsRds w' n A rs := fun k x hk => by
  obtain ⟨a, e, hl, h0, h1, h2, h3⟩ := h k x hk
  have hb0 : (a.add (k * 4)).block < n := by rw [block_of_add]; exact hl
  exact ⟨a, e, hl, (hb.cell hb0).trans h0, (hb.cell (p := ⟨(a.add (k * 4)).block, (a.add (k * 4)).off + 1, none⟩) hb0).trans h1, (hb.cell (p := ⟨(a.add (k * 4)).block, (a.add (k * 4)).off + 2, none⟩) hb0).trans h2, (hb.cell (p := ⟨(a.add (k * 4)).block, (a.add (k * 4)).off + 3, none⟩) hb0).trans h3⟩
theorem IsRds.more (h : IsRds w n A rs) (hm : n ≤ m) : IsRds w m A rs := fun k x hk => by
  obtain ⟨a, e, hl, h0⟩ := h k x hk
  exact ⟨a, e, by omega, h0⟩
theorem IsRds.at_ (h : IsRds w w.heap.size A rs) (hb : Below w.heap.size w w') : IsRds w' w'.heap.size A rs := (h.below hb).more hb.size
end
/-- a map in memory -/
structure WIn (m : WMD) (A : Option Addr) (c : Nat) (A2 : Option Addr) (c2 : Nat) (w : World) : Prop where
  iw : IsJns w w.heap.size A m.work
  ir : IsRds w w.heap.size A2 m.roads
  l1 : m.work.length ≤ c
  m1 : c ≤ maxLen
  l2 : m.roads.length ≤ c2
  m2 : c2 ≤ maxLen
theorem WIn.at_ {m : WMD} {A : Option Addr} {c : Nat} {A2 : Option Addr} {c2 : Nat} {w w' : World} (h : WIn m A c A2 c2 w) (hb : Below w.heap.size w w') : WIn m A c A2 c2 w' :=
  ⟨h.iw.at_ hb, h.ir.at_ hb, h.l1, h.m1, h.l2, h.m2⟩
/-- the atlas in its block: the map, the times, the first steps, the tours -/
structure AtW (W : World) (g mp : Nat) (m : WMD) (A : Option Addr) (c : Nat) (A2 : Option Addr) (c2 : Nat) (T F : Nat → Nat → Int) : Prop where
  blk : ∃ cs : Array Value, Blk W g 127 cs ∧ cs.size = 131 ∧ cs[0]? = some (.slice A m.work.length c) ∧ cs[1]? = some (.slice A2 m.roads.length c2) ∧ cs[130]? = some (.map (some mp)) ∧ ∀ n k, n < 8 → k < 8 → cs[2 + n * 8 + k]? = some (.int .i64 (T n k)) ∧ cs[66 + n * 8 + k]? = some (.int .i64 (F n k))
/-- one cell of a square is another -/
def upd2 (T : Nat → Nat → Int) (n k : Nat) (v : Int) : Nat → Nat → Int := fun a b => if a = n ∧ b = k then v else T a b
section
variable {W W' : World} {g mp n k : Nat} {m : WMD} {A A2 : Option Addr} {c c2 : Nat} {T F : Nat → Nat → Int}
theorem AtW.lt (h : AtW W g mp m A c A2 c2 T F) : g < W.heap.size := by
  obtain ⟨cs, hb, _⟩ := h.blk
  exact hb.lt
theorem AtW.froz (h : AtW W g mp m A c A2 c2 T F) (i : Nat) : W.frozen? ⟨g, i, none⟩ = false := by
  obtain ⟨cs, hb, _⟩ := h.blk
  exact hb.frozen i
theorem AtW.head (h : AtW W g mp m A c A2 c2 T F) : W.cell? ⟨g, 0, none⟩ = some (.slice A m.work.length c) ∧ W.cell? ⟨g, 1, none⟩ = some (.slice A2 m.roads.length c2) ∧ W.cell? ⟨g, 130, none⟩ = some (.map (some mp)) := by
  obtain ⟨cs, hb, _, h0, h1, h2, _⟩ := h.blk
  exact ⟨(hb.cell 0).trans h0, (hb.cell 1).trans h1, (hb.cell 130).trans h2⟩
theorem AtW.time (h : AtW W g mp m A c A2 c2 T F) (hn : n < 8) (hk : k < 8) : W.cell? ⟨g, 2 + n * 8 + k, none⟩ = some (.int .i64 (T n k)) := by
  obtain ⟨cs, hb, _, _, _, _, h5⟩ := h.blk
  exact (hb.cell _).trans (h5 n k hn hk).1
theorem AtW.first (h : AtW W g mp m A c A2 c2 T F) (hn : n < 8) (hk : k < 8) : W.cell? ⟨g, 66 + n * 8 + k, none⟩ = some (.int .i64 (F n k)) := by
  obtain ⟨cs, hb, _, _, _, _, h5⟩ := h.blk
  exact (hb.cell _).trans (h5 n k hn hk).2
theorem AtW.keep (h : AtW W g mp m A c A2 c2 T F) (hb : Below W.heap.size W W') : AtW W' g mp m A c A2 c2 T F := by
  obtain ⟨cs, hc, hr⟩ := h.blk
  exact ⟨cs, hc.keep hb, hr⟩
theorem AtW.chg {Z : Nat → Prop} (h : AtW W g mp m A c A2 c2 T F) (hb : MChg Z W W') (hz : ¬ Z g) : AtW W' g mp m A c A2 c2 T F := by
  obtain ⟨cs, hc, hr⟩ := h.blk
  exact ⟨cs, hb.blk hc hz, hr⟩
theorem AtW.far (h : AtW W g mp m A c A2 c2 T F) {p : Addr} (hp : g ≠ p.block) (u : Value) : AtW (W.setCell p u) g mp m A c A2 c2 T F := by
  obtain ⟨cs, hc, hr⟩ := h.blk
  exact ⟨cs, hc.far hp u, hr⟩
theorem AtW.setT (h : AtW W g mp m A c A2 c2 T F) (hn : n < 8) (hk : k < 8) (v : Int) : AtW (W.setCell ⟨g, 2 + n * 8 + k, none⟩ (.int .i64 v)) g mp m A c A2 c2 (upd2 T n k v) F := by
  obtain ⟨cs, hc, hs, h0, h1, h2, h3⟩ := h.blk
  refine ⟨cs.setIfInBounds (2 + n * 8 + k) (.int .i64 v), hc.set_ _ _, by simp [hs], ?_, ?_, ?_, fun a b ha hb => ⟨?_, ?_⟩⟩
  · rw [Array.getElem?_setIfInBounds_ne (by omega)]; exact h0
  · rw [Array.getElem?_setIfInBounds_ne (by omega)]; exact h1
  · rw [Array.getElem?_setIfInBounds_ne (by omega)]; exact h2
  · unfold upd2
    by_cases e : a = n ∧ b = k
    · obtain ⟨rfl, rfl⟩ := e
      rw [Array.getElem?_setIfInBounds_self_of_lt (by omega), if_pos ⟨rfl, rfl⟩]
    · rw [Array.getElem?_setIfInBounds_ne (by omega), if_neg e]; exact (h3 a b ha hb).1
  · rw [Array.getElem?_setIfInBounds_ne (by omega)]; exact (h3 a b ha hb).2
theorem AtW.setF (h : AtW W g mp m A c A2 c2 T F) (hn : n < 8) (hk : k < 8) (v : Int) : AtW (W.setCell ⟨g, 66 + n * 8 + k, none⟩ (.int .i64 v)) g mp m A c A2 c2 T (upd2 F n k v) := by
  obtain ⟨cs, hc, hs, h0, h1, h2, h3⟩ := h.blk
  refine ⟨cs.setIfInBounds (66 + n * 8 + k) (.int .i64 v), hc.set_ _ _, by simp [hs], ?_, ?_, ?_, fun a b ha hb => ⟨?_, ?_⟩⟩
  · rw [Array.getElem?_setIfInBounds_ne (by omega)]; exact h0
  · rw [Array.getElem?_setIfInBounds_ne (by omega)]; exact h1
  · rw [Array.getElem?_setIfInBounds_ne (by omega)]; exact h2
  · rw [Array.getElem?_setIfInBounds_ne (by omega)]; exact (h3 a b ha hb).1
  · unfold upd2
    by_cases e : a = n ∧ b = k
    · obtain ⟨rfl, rfl⟩ := e
      rw [Array.getElem?_setIfInBounds_self_of_lt (by omega), if_pos ⟨rfl, rfl⟩]
    · rw [Array.getElem?_setIfInBounds_ne (by omega), if_neg e]; exact (h3 a b ha hb).2
end
/-- a settled place, in its block -/
def flagC (s : Nat → Bool) : Array Value := #[.bool (s 0), .bool (s 1), .bool (s 2), .bool (s 3), .bool (s 4), .bool (s 5), .bool (s 6), .bool (s 7)]
theorem flagC_get (s : Nat → Bool) {i : Nat} (h : i < 8) : (flagC s)[i]? = some (.bool (s i)) := by
  match i, h with
  | 0, _ => rfl
  | 1, _ => rfl
  | 2, _ => rfl
  | 3, _ => rfl
  | 4, _ => rfl
  | 5, _ => rfl
  | 6, _ => rfl
  | 7, _ => rfl
theorem flagC_set (s : Nat → Bool) {i : Nat} (h : i < 8) : (flagC s).setIfInBounds i (.bool true) = flagC (upd s i true) := by
  match i, h with
  | 0, _ => rfl
  | 1, _ => rfl
  | 2, _ => rfl
  | 3, _ => rfl
  | 4, _ => rfl
  | 5, _ => rfl
  | 6, _ => rfl
  | 7, _ => rfl
end Go.Proofs.YtlnamjhgbdacbaaGreat
/- CheckMap, rises and the test of places, on a map without roads. Conditions stand at each theorem. -/
namespace Go.Proofs.YtlnamjhgbdacbaaGreat
open Go.RowKit Go.Shelf

set_option maxRecDepth 100000 in
set_option maxHeartbeats 1000000 in
theorem wroads_none (A : Option Addr) (n c : Nat) (w : World) : Calls Tryz.prog 69 #[.agg #[.slice A n c, .slice none 0 0]] w fun e w' => e = .returned (.bool true) ∧ Below w.heap.size w w' := by
  have hB := below_box (w := w) #[.slice A n c, .slice none 0 0] 65
  have HB := hid hB
  clear hB
  go_enter Tryz.func69, Tryz.ntmps69
  go_wp2
  go_rounds 1
  go_ret
  exact ⟨rfl, HB.out⟩
set_option maxRecDepth 100000 in
set_option maxHeartbeats 2000000 in
theorem wcheck_plain (A : Option Addr) (c : Nat) (xs : List Jn) (w : World) (h : IsJns w w.heap.size A xs) (hl : xs.length ≤ c) (hm : c ≤ maxLen) (h1 : 1 ≤ xs.length) (h8 : xs.length ≤ 8) (ha : xs.all (fun x => wrngB x.a x.b 0 50) = true) :
    Calls Tryz.prog 41 #[.agg #[.slice A xs.length c, .slice none 0 0]] w fun e w' => e = .returned (.int .i64 0) ∧ Below w.heap.size w w' := by
  have hB := below_box (w := w) #[.slice A xs.length c, .slice none 0 0] 65
  have hT := Blk.new w 65 #[.slice A xs.length c, .slice none 0 0]
  have K1 := wall_rng (fun x => wrngB x.a x.b 0 50) A c xs _ (h.at_ hB) hl hm 68 #[] #[] (enters_of Tryz.func68 (by kernel_rfl) rfl) (fun W x hW hx => wwork_any x.a x.b W)
  rw [ha] at K1
  have K1 := hid K1
  have HB := hid hB
  have HT := hid hT
  obtain ⟨t0, t1⟩ := hT.c2
  have hn : decide ((8 : Int) < (xs.length : Int)) = false := by simp; omega
  have hn2 : ((xs.length : Int) == 0) = false := beq_eq_false_iff_ne.2 (by omega)
  clear hB hT h ha
  go_enter Tryz.func41, Tryz.ntmps41
  go_wp2_with fail
  refine K1.out.mono ?_
  rintro e w2 ⟨rfl, hb⟩
  have HB2 := hid (HB.out.trans (hb.mono HB.out.size))
  have HT2 := hid (HT.out.keep hb)
  clear hb K1 t0 t1
  obtain ⟨t0, t1⟩ := HT2.out.c2
  have K2 := hid (wroads_none A xs.length c w2)
  go_wp2_with fail
  refine K2.out.mono ?_
  rintro e w3 ⟨rfl, hb⟩
  have HB3 := hid (HB2.out.trans (hb.mono HB2.out.size))
  clear hb K2 t0 t1
  go_wp2
  go_ret
  exact ⟨rfl, HB3.out⟩
set_option maxRecDepth 100000 in
set_option maxHeartbeats 1000000 in
theorem wrises_one (A : Option Addr) (c : Nat) (w : World) : Calls Tryz.prog 45 #[.slice A 1 c] w fun e w' => e = .returned (.bool true) ∧ Below w.heap.size w w' := by
  go_enter Tryz.func45, Tryz.ntmps45
  go_wp2
  go_rounds 1
  go_ret
  exact ⟨rfl, Below.refl _ _⟩
theorem wplaces_one (A : Option Addr) (c : Nat) (n cw : Nat) (B : Option Addr) (v2 : Value) (w : World) (h : IsInts w w.heap.size A [0]) (hl : 1 ≤ c) (hm : c ≤ maxLen) (hn : 1 ≤ n) (h8 : n ≤ 8) :
    Calls Tryz.prog 46 #[.slice A 1 c, .func (.func 42) #[.agg #[.slice B n cw, v2]] #[]] w fun e w' => e = .returned (.bool true) ∧ Below w.heap.size w w' := by
  have K := wall_int (fun k => inB k 0 ((n : Int) - 1)) A c [0] w h hl hm 42 #[.agg #[.slice B n cw, v2]] #[] (enters_of Tryz.func42 (by kernel_rfl) rfl) (fun W x hW hx => wplace_any B n cw v2 x W (by omega))
  have e : ([0] : List Int).all (fun k => inB k 0 ((n : Int) - 1)) = true := by simp [inB]; omega
  rw [e] at K
  exact K
end Go.Proofs.YtlnamjhgbdacbaaGreat
/- The walk package: the road between two places; CheckMap on a map without fault. Conditions stand at each theorem. -/
namespace Go.Proofs.YtlnamjhgbdacbaaGreat
open Go.RowKit Go.Shelf

set_option maxHeartbeats 1000000 in
theorem wjoins_any (r : Rd) (x y : Int) (w : World) : Calls Tryz.prog 123 #[.agg #[.int .i64 r.a, .int .i64 r.b, .int .i64 r.lo, .int .i64 r.hi], .int .i64 x, .int .i64 y] w fun e w' => e = .returned (.bool (joinsB r x y)) ∧ Below w.heap.size w w' := by
  have hB := below_box (w := w) #[.int .i64 r.a, .int .i64 r.b, .int .i64 r.lo, .int .i64 r.hi] 115
  have HB := hid hB
  clear hB
  obtain ⟨ra, rb, rl, rh⟩ := r
  by_cases h1 : ra = x
  · by_cases h2 : rb = y
    · have hd : joinsB ⟨ra, rb, rl, rh⟩ x y = true := by simp [joinsB, h1, h2]
      rw [hd]; clear hd
      have h1' : (ra == x) = true := by simp [h1]
      have h2' : (rb == y) = true := by simp [h2]
      clear h1 h2
      go_enter Tryz.func123, Tryz.ntmps123
      go_wp2
      go_ret
      exact ⟨rfl, HB.out⟩
    · have hd : joinsB ⟨ra, rb, rl, rh⟩ x y = ((ra == y) && (rb == x)) := by simp [joinsB, h2]
      rw [hd]; clear hd
      have h1' : (ra == x) = true := by simp [h1]
      have h2' : (rb == y) = false := by simp [h2]
      clear h1 h2
      cases h3 : (ra == y)
      · go_enter Tryz.func123, Tryz.ntmps123
        go_wp2
        go_ret
        exact ⟨rfl, HB.out⟩
      · go_enter Tryz.func123, Tryz.ntmps123
        go_wp2
        go_ret
        exact ⟨rfl, HB.out⟩
  · have hd : joinsB ⟨ra, rb, rl, rh⟩ x y = ((ra == y) && (rb == x)) := by simp [joinsB, h1]
    rw [hd]; clear hd
    have h1' : (ra == x) = false := by simp [h1]
    clear h1
    cases h3 : (ra == y)
    · go_enter Tryz.func123, Tryz.ntmps123
      go_wp2
      go_ret
      exact ⟨rfl, HB.out⟩
    · go_enter Tryz.func123, Tryz.ntmps123
      go_wp2
      go_ret
      exact ⟨rfl, HB.out⟩
set_option maxHeartbeats 1000000 in
theorem wroad1_any (r : Rd) (x y : Int) (B B2 : Nat) (w : World) (h1 : Blk w B 3 #[.int .i64 x]) (h2 : Blk w B2 3 #[.int .i64 y]) : Calls Tryz.prog 122 #[.agg #[.int .i64 r.a, .int .i64 r.b, .int .i64 r.lo, .int .i64 r.hi], .pointer (some ⟨B, 0, none⟩), .pointer (some ⟨B2, 0, none⟩)] w fun e w' => e = .returned (.bool (joinsB r x y)) ∧ Below w.heap.size w w' := by
  have hB := below_box (w := w) #[.int .i64 r.a, .int .i64 r.b, .int .i64 r.lo, .int .i64 r.hi] 115
  have HB := hid hB
  have c0 := h1.c1
  have c1 := h2.c1
  have l0 := h1.lt
  have l1 := h2.lt
  clear hB h1 h2
  go_enter Tryz.func122, Tryz.ntmps122
  go_wp2_with fail
  refine (wjoins_any r x y _).mono ?_
  rintro e w2 ⟨rfl, hb⟩
  have HB2 := hid (HB.out.trans (hb.mono HB.out.size))
  clear hb
  go_wp2
  go_ret
  exact ⟨rfl, HB2.out⟩
/-- a test of roads: what it says, in each world that has only grown -/
def PredRd (g : Nat) (bnd cap : Array Value) (p : Rd → Bool) (xs : List Rd) (w : World) : Prop :=
  ∀ W x, Below w.heap.size w W → x ∈ xs → Calls Tryz.prog g (bnd.push (.agg #[.int .i64 x.a, .int .i64 x.b, .int .i64 x.lo, .int .i64 x.hi]) ++ cap) W fun e W' => e = .returned (.bool (p x)) ∧ Below W.heap.size W W'

set_option maxRecDepth 10000 in
set_option maxHeartbeats 400000 in
theorem widx_road (f : Value) (q : Rd → Bool) (A : Option Addr) (c : Nat) (xs : List Rd) (w : World) (h : IsRds w w.heap.size A xs) (hl : xs.length ≤ c) (hm : c ≤ maxLen)
    (g : Nat) (bnd cap : Array Value) (hf : f = .func (.func g) bnd cap) (eg : ∀ args w, (callFunc g args).run Tryz.prog w = .ok (.enter g args) w) (hp : PredRd g bnd cap q xs w) :
    Calls Tryz.prog 121 #[.slice A xs.length c, f] w fun e w' => e = .returned (.int .i64 (idxOf q xs)) ∧ Below w.heap.size w w' := by
  subst hf
  unfold maxLen at hm
  have HP := hid hp
  clear hp
  go_enter Tryz.func121, Tryz.ntmps121
  go_wp2
  go_loopw [8] (fun i wr => ∃ k : Nat, k ≤ xs.length ∧ i = .int .i64 k ∧ Below w.heap.size w wr ∧ (xs.take k).any q = false) (fun i _ => xs.length - (intOf i).toNat)
  case atStart => exact ⟨0, Nat.zero_le _, rfl, Below.refl _ _, rfl⟩
  case round =>
    obtain ⟨k, hk, rfl, hbr, hno⟩ := hrel
    have HN := hid hno; clear hno
    by_cases hlt : k < xs.length
    · obtain ⟨a, rfl, hb, f0, f1, f2, f3⟩ := h.below hbr k xs[k] (List.getElem?_eq_getElem hlt)
      have HC := hid (HP.out wr xs[k] hbr (List.getElem_mem hlt))
      have HH := hid (@idxOf_hit Rd q xs k hlt)
      have HT := hid (any_take q xs k hlt)
      generalize xs[k] = x at *
      cases hq : q x
      all_goals
        have HQ := hid hq
        clear hq
        go_wp2_with fail
        refine HC.out.mono ?_
        rintro e w2 ⟨rfl, hb2⟩
        rw [HQ.out]
        go_wp2
      · go_roundw
        case rel => exact ⟨k + 1, by omega, by go_num, hbr.trans (hb2.mono hbr.size), by rw [HT.out, HN.out, HQ.out]; rfl⟩
        case measure => simp [intOf]; omega
      · go_ret
        exact ⟨by rw [HH.out HN.out HQ.out]; rfl, hbr.trans (hb2.mono hbr.size)⟩
    · obtain rfl : k = xs.length := by omega
      rw [List.take_length] at HN
      have HM := hid (idxOf_miss HN.out)
      go_wp2
      go_ret
      exact ⟨by rw [HM.out]; rfl, hbr⟩

set_option maxRecDepth 10000 in
set_option maxHeartbeats 1000000 in
theorem wroad_any (m : WMD) (v0 : Value) (A2 : Option Addr) (c2 : Nat) (x y : Int) (w : World) (h : IsRds w w.heap.size A2 m.roads) (hl : m.roads.length ≤ c2) (hm : c2 ≤ maxLen) :
    Calls Tryz.prog 108 #[.agg #[v0, .slice A2 m.roads.length c2], .int .i64 x, .int .i64 y] w fun e w' => e = .returned (.int .i64 (idxOf (fun r => joinsB r x y) m.roads)) ∧ Below w.heap.size w w' := by
  have b1 := below_box (w := w) #[v0, .slice A2 m.roads.length c2] 65
  have b2 := then_below b1 (below_box #[.int .i64 x] 3)
  have b3 := then_below b2 (below_box #[.int .i64 y] 3)
  have k1 := ((Blk.new w 65 #[v0, .slice A2 m.roads.length c2]).alloc (.cells #[.int .i64 x] 3)).alloc (.cells #[.int .i64 y] 3)
  have k2 := (Blk.new (w.alloc (.cells #[v0, .slice A2 m.roads.length c2] 65)) 3 #[.int .i64 x]).alloc (.cells #[.int .i64 y] 3)
  have k3 := Blk.new ((w.alloc (.cells #[v0, .slice A2 m.roads.length c2] 65)).alloc (.cells #[.int .i64 x] 3)) 3 #[.int .i64 y]
  simp only [World.size_alloc] at k2 k3
  have KI := hid (widx_road _ (fun r => joinsB r x y) A2 c2 m.roads _ (h.at_ b3) hl hm 122 #[] #[.pointer (some ⟨w.heap.size + 1, 0, none⟩), .pointer (some ⟨w.heap.size + 1 + 1, 0, none⟩)] rfl (enters_of Tryz.func122 (by kernel_rfl) rfl) (fun W r hW hr => wroad1_any r x y _ _ W (k2.keep hW) (k3.keep hW)))
  have HB := hid b3
  obtain ⟨t0, t1⟩ := k1.c2
  clear b1 b2 b3 k1 k2 k3 h
  go_enter Tryz.func108, Tryz.ntmps108
  go_wp2_with fail
  refine KI.out.mono ?_
  rintro e w2 ⟨rfl, hb⟩
  have HB2 := hid (HB.out.trans (hb.mono HB.out.size))
  clear hb
  go_wp2
  go_ret
  exact ⟨rfl, HB2.out⟩
/-- the road's own index -/
theorem road_self {m : WMD} (ok : OkW m) {i : Nat} {r : Rd} (hr : m.roads[i]? = some r) : idxOf (fun q => joinsB q r.a r.b) m.roads = (i : Int) := by
  obtain ⟨hi, e⟩ := List.getElem?_eq_some_iff.1 hr
  refine @idxOf_hit Rd _ m.roads i hi ?_ ?_
  · rw [List.any_eq_false]
    intro q hq
    obtain ⟨k, hk⟩ := List.getElem?_of_mem hq
    have hki : k < i := by
      have := (List.getElem?_eq_some_iff.1 hk).1
      simp at this
      omega
    rw [List.getElem?_take_of_lt hki] at hk
    rw [ok.nd i k r q hr hk hki]
    decide
  · rw [e]
    simp [joinsB]
set_option maxRecDepth 100000 in
set_option maxHeartbeats 2000000 in
theorem wroads_ok (m : WMD) (A : Option Addr) (c : Nat) (A2 : Option Addr) (c2 : Nat) (w : World) (h : WIn m A c A2 c2 w) (ok : OkW m) : Calls Tryz.prog 69 #[.agg #[.slice A m.work.length c, .slice A2 m.roads.length c2]] w fun e w' => e = .returned (.bool true) ∧ Below w.heap.size w w' := by
  have hB := below_box (w := w) #[.slice A m.work.length c, .slice A2 m.roads.length c2] 65
  have hT := Blk.new w 65 #[.slice A m.work.length c, .slice A2 m.roads.length c2]
  have hw8 := ok.w8
  have hr20 := ok.r20
  have hl2 := h.l2
  have hm2 := h.m2
  unfold maxLen at hm2
  have HB := hid hB
  have HT := hid hT
  have HH := hid h
  have OK := hid ok
  obtain ⟨t0, t1⟩ := hT.c2
  clear hB hT h ok
  go_enter Tryz.func69, Tryz.ntmps69
  go_wp2
  clear t0 t1
  go_loopw [11] (fun i W => ∃ k : Nat, k ≤ m.roads.length ∧ i = .int .i64 k ∧ Below w.heap.size w W ∧ Blk W w.heap.size 65 #[.slice A m.work.length c, .slice A2 m.roads.length c2]) (fun i _ => m.roads.length - (intOf i).toNat)
  case atStart => exact ⟨0, Nat.zero_le _, rfl, HB.out, HT.out⟩
  case round =>
    clear HB HT
    obtain ⟨k, hk, rfl, hbr, hbt⟩ := hrel
    have HR := hid (And.intro hbr hbt)
    obtain ⟨t0, t1⟩ := hbt.c2
    clear hbr hbt
    by_cases hlt : k < m.roads.length
    · have hkI : (k : Int) < (m.roads.length : Int) := by omega
      obtain ⟨r, hr⟩ : ∃ r, m.roads[k]? = some r := ⟨_, List.getElem?_eq_getElem hlt⟩
      obtain ⟨a, e2, g, f0, f1, f2, f3⟩ := (HH.out.at_ HR.out.1).ir k r hr
      have hrb := OK.out.rd r (List.mem_of_getElem? hr)
      have HRR := hid hr
      have hz := Blk.new wr 115 #[.int .i64 r.a, .int .i64 r.b, .int .i64 r.lo, .int .i64 r.hi]
      have HZ := hid hz
      subst e2
      clear hr g
      have KP1 := hid (fun W => wplace_any A m.work.length c (.slice (some a) m.roads.length c2) r.a W (by omega))
      have KP2 := hid (fun W => wplace_any A m.work.length c (.slice (some a) m.roads.length c2) r.b W (by omega))
      have KI := hid (fun W => winside_any r.lo r.hi 1 50 W)
      rw [show inB r.a 0 ((m.work.length : Int) - 1) = true by simp [inB]; omega] at KP1
      rw [show inB r.b 0 ((m.work.length : Int) - 1) = true by simp [inB]; omega] at KP2
      rw [show wrngB r.lo r.hi 1 50 = true by simp [wrngB]; omega] at KI
      have hne : (r.a == r.b) = false := by simp; exact hrb.2.2.2.2.1
      clear hrb
      go_wp2_with fail
      clear t0 t1 f0 f1 f2 f3
      have HR0 := hid (And.intro (HR.out.1.trans ((below_box #[.int .i64 r.a, .int .i64 r.b, .int .i64 r.lo, .int .i64 r.hi] 115).mono HR.out.1.size)) (HR.out.2.alloc (.cells #[.int .i64 r.a, .int .i64 r.b, .int .i64 r.lo, .int .i64 r.hi] 115)))
      have HZ0 := hid HZ.out
      refine (KP1.out _).mono ?_
      rintro e w1 ⟨rfl, hb⟩
      have HZ1 := hid (HZ0.out.keep hb)
      have HR1 := hid (And.intro (HR0.out.1.trans (hb.mono HR0.out.1.size)) (HR0.out.2.keep hb))
      clear hb
      obtain ⟨t0, t1⟩ := HR1.out.2.c2
      obtain ⟨z0, z1, z2, z3⟩ := HZ1.out.c4
      go_wp2_with fail
      refine (KP2.out _).mono ?_
      rintro e w2 ⟨rfl, hb⟩
      have HZ2 := hid (HZ1.out.keep hb)
      have HR2 := hid (And.intro (HR1.out.1.trans (hb.mono HR1.out.1.size)) (HR1.out.2.keep hb))
      clear hb
      obtain ⟨t0, t1⟩ := HR2.out.2.c2
      obtain ⟨z0, z1, z2, z3⟩ := HZ2.out.c4
      go_wp2_with fail
      refine (KI.out _).mono ?_
      rintro e w3 ⟨rfl, hb⟩
      have HZ3 := hid (HZ2.out.keep hb)
      have HR3 := hid (And.intro (HR2.out.1.trans (hb.mono HR2.out.1.size)) (HR2.out.2.keep hb))
      clear hb
      obtain ⟨t0, t1⟩ := HR3.out.2.c2
      obtain ⟨z0, z1, z2, z3⟩ := HZ3.out.c4
      go_wp2_with fail
      have KR := wroad_any m (.slice A m.work.length c) (some a) c2 r.a r.b w3 (HH.out.at_ HR3.out.1).ir hl2 HH.out.m2
      rw [road_self OK.out HRR.out] at KR
      refine KR.mono ?_
      rintro e w4 ⟨rfl, hb⟩
      have HR4 := hid (And.intro (HR3.out.1.trans (hb.mono HR3.out.1.size)) (HR3.out.2.keep hb))
      clear hb KR z0 z1 z2 z3
      go_wp2
      go_roundw
      case rel => exact ⟨k + 1, by omega, by go_num, HR4.out⟩
      case measure => first | (simp [intOf]; done) | (simp [intOf]; omega)
    · have hkI : decide ((k : Int) < (m.roads.length : Int)) = false := by simp; omega
      go_wp2
      go_ret
      exact ⟨rfl, HR.out.1⟩
set_option maxRecDepth 100000 in
set_option maxHeartbeats 2000000 in
theorem wcheck_ok (m : WMD) (A : Option Addr) (c : Nat) (A2 : Option Addr) (c2 : Nat) (w : World) (h : WIn m A c A2 c2 w) (ok : OkW m) :
    Calls Tryz.prog 41 #[.agg #[.slice A m.work.length c, .slice A2 m.roads.length c2]] w fun e w' => e = .returned (.int .i64 0) ∧ Below w.heap.size w w' := by
  have hB := below_box (w := w) #[.slice A m.work.length c, .slice A2 m.roads.length c2] 65
  have hT := Blk.new w 65 #[.slice A m.work.length c, .slice A2 m.roads.length c2]
  have K1 := wall_rng (fun x => wrngB x.a x.b 0 50) A c m.work _ (h.iw.at_ hB) h.l1 h.m1 68 #[] #[] (enters_of Tryz.func68 (by kernel_rfl) rfl) (fun W x hW hx => wwork_any x.a x.b W)
  rw [show m.work.all (fun x => wrngB x.a x.b 0 50) = true from List.all_eq_true.2 fun x hx => by
    have := ok.wk x hx
    simp only [wrngB, Bool.and_eq_true, decide_eq_true_eq]; omega] at K1
  have K1 := hid K1
  have HB := hid hB
  have HT := hid hT
  have HH := hid h
  have OK := hid ok
  have hw8 := ok.w8
  have hw1 := ok.w1
  have hr20 := ok.r20
  obtain ⟨t0, t1⟩ := hT.c2
  have hn : decide ((8 : Int) < (m.work.length : Int)) = false := by simp; omega
  have hn3 : decide ((20 : Int) < (m.roads.length : Int)) = false := by simp; omega
  have hn2 : ((m.work.length : Int) == 0) = false := beq_eq_false_iff_ne.2 (by omega)
  clear hB hT h ok
  go_enter Tryz.func41, Tryz.ntmps41
  go_wp2_with fail
  refine K1.out.mono ?_
  rintro e w2 ⟨rfl, hb⟩
  have HB2 := hid (HB.out.trans (hb.mono HB.out.size))
  have HT2 := hid (HT.out.keep hb)
  clear hb K1 t0 t1
  obtain ⟨t0, t1⟩ := HT2.out.c2
  have K2 := hid (wroads_ok m A c A2 c2 w2 (HH.out.at_ HB2.out) OK.out)
  go_wp2_with fail
  refine K2.out.mono ?_
  rintro e w3 ⟨rfl, hb⟩
  have HB3 := hid (HB2.out.trans (hb.mono HB2.out.size))
  clear hb K2 t0 t1
  go_wp2
  go_ret
  exact ⟨rfl, HB3.out⟩
end Go.Proofs.YtlnamjhgbdacbaaGreat
/- The atlas of a map with one place and no road. Conditions stand at each theorem. -/
namespace Go.Proofs.YtlnamjhgbdacbaaGreat
open Go.RowKit Go.Shelf

attribute [local go_sem] Oper.semAt_some
set_option maxHeartbeats 400000 in
theorem wnext_any (v0 v1 : Value) (d : Int) (w : World) : Calls Tryz.prog 71 #[.agg #[v0, v1], .int .i64 d] w fun e w' => e = .returned (.func (.func 109) #[] #[.pointer (some ⟨w.heap.size, 0, none⟩), .pointer (some ⟨w.heap.size + 1, 0, none⟩)]) ∧ Below w.heap.size w w' ∧ Blk w' w.heap.size 65 #[v0, v1] ∧ Blk w' (w.heap.size + 1) 3 #[.int .i64 d] := by
  have hB := then_below (below_box (w := w) #[v0, v1] 65) (below_box #[.int .i64 d] 3)
  have h1 := (Blk.new w 65 #[v0, v1]).alloc (.cells #[.int .i64 d] 3)
  have h2 := Blk.new (w.alloc (.cells #[v0, v1] 65)) 3 #[.int .i64 d]
  rw [World.size_alloc] at h2
  have H := hid (And.intro hB (And.intro h1 h2))
  clear hB h1 h2
  go_enter Tryz.func71, Tryz.ntmps71
  go_wp2
  go_ret
  exact ⟨rfl, H.out⟩

set_option maxRecDepth 100000 in
set_option maxHeartbeats 1000000 in
theorem wnext1_none {v0 : Value} {w0 W : World} {Bm Bd l : Nat} (hm : Blk w0 Bm 65 #[v0, .slice none 0 0]) (hb : Below w0.heap.size w0 W) :
    CallsIn (FW none) 0 Tryz.prog 109 (#[.func (.yield l) #[] #[]] ++ #[.pointer (some ⟨Bm, 0, none⟩), .pointer (some ⟨Bd, 0, none⟩)]) W fun e W' => (∃ v, e = .returned v) ∧ Below W.heap.size W W' := by
  obtain ⟨t0, t1⟩ := (hm.keep hb).c2
  clear hm hb
  refine callsIn_of_wp Tryz.func109 rfl trivial ?_ rfl
  simp only [Tryz.ntmps109, List.size_toArray, List.length_cons, List.length_nil, Nat.reduceAdd, Nat.reduceSub, Array.replicate_succ, Array.replicate_zero, List.push_toArray, List.append_toArray, List.nil_append, List.cons_append]
  gi_wp2
  refine wpIn_loop_rounds 1 ?_
  rw [roundsIn_succ]
  gi_wp2
  go_end0
  exact ⟨⟨_, rfl⟩, Below.refl _ _⟩

/-- a range loop over an iterator that yields nothing -/
theorem wpIn_rangeFunc_none {g : Operand} {p q : Tmp} {assign body : Code} {Q : Exit → Act → World → Prop} {a : Act} {w : World} {gf : Nat} {lb : Array Value} (hg : a.eval g = .func (.func gf) #[] lb)
    (eg : ∀ args w, (callFunc gf args).run Tryz.prog w = .ok (.enter gf args) w)
    (hseq : ∀ l W, Below w.heap.size w W → CallsIn (FW none) 0 Tryz.prog gf (#[.func (.yield l) #[] #[]] ++ lb) W fun e W' => (∃ v, e = .returned v) ∧ Below W.heap.size W W')
    (hdone : ∀ (D : Nat) (W : World), w.heap.size ≤ D → Below w.heap.size w W → W.heap[D]? = some (.deferred (some [])) → Q .normal { a with defers := { target := .collected D, args := #[] } :: a.defers } W) :
    (Code.rangeFunc g #[p, q] assign body).wpIn (FW none) 0 Tryz.prog Q a w := by
  refine wpIn_rangeFunc ?_
  intro fn hfn
  obtain ⟨rec, hrec⟩ : ∃ rec : LoopState → Option Code → Loop, rec = fun st pe => { state := st, pending := pe, fn, tmps := a.tmps, params := #[p, q], assign, body, defers := w.heap.size } := ⟨_, rfl⟩
  obtain ⟨W1, hW1⟩ : ∃ W1, (w.alloc (.deferred (some []))).alloc (.loop (rec .ready none)) = W1 := ⟨_, rfl⟩
  have hL1 : W1.heap[w.heap.size + 1]? = some (.loop (rec .ready none)) := by
    rw [← hW1]; have := World.alloc_heap_new (w.alloc (.deferred (some []))) (.loop (rec .ready none)); rwa [World.size_alloc] at this
  have hK1 : W1.heap[w.heap.size]? = some (.deferred (some [])) := by
    rw [← hW1]; exact (Below.heap_alloc _ _ _ (by simp)).trans (World.alloc_heap_new w _)
  have hb1 : Below w.heap.size w W1 := by
    rw [← hW1]; exact ((Below.refl _ w).alloc (Nat.le_refl _) _).alloc (by simp) _
  refine ⟨w.heap.size + 1, [{ target := .collected w.heap.size, args := #[] }], W1, { target := .fn (.func gf) lb, args := #[.func (.yield (w.heap.size + 1)) #[] #[]] }, W1, gf,
    #[.func (.yield (w.heap.size + 1)) #[] #[]] ++ lb, W1, ?_, ?_, ?_, ?_, fun h => (by simp [FW, Fence.wide] at h), ?_⟩
  · rw [← hW1, hrec]; exact run_enterLoop_outer _ _ _ _ _
  · simp only [resolve, hg]
    simp [go_sem]
  · intro f' hf'; exact trivial
  · simp [invoke, go_sem, eg]
  · refine (hseq (w.heap.size + 1) W1 hb1).mono ?_
    rintro e W2 ⟨⟨v, rfl⟩, hb2⟩
    have hl := (hb2.block _ (Array.getElem?_eq_some_iff.1 hL1).1).trans hL1
    have hk := (hb2.block _ (Array.getElem?_eq_some_iff.1 hK1).1).trans hK1
    have hb3 := hb1.trans (hb2.mono hb1.size)
    exact ⟨none, _, by have := run_endLoop (P := Tryz.prog) hl (by rw [hrec]; simp); rw [hrec] at this; exact this, hdone _ _ (Nat.le_refl _) (hb3.grown (grownBy_putObj' W2 (w.heap.size + 1) _) hb3.size (fun k hk => by cases hk; omega)) ((World.putObj_heap_other (by omega)).trans hk)⟩
end Go.Proofs.YtlnamjhgbdacbaaGreat
