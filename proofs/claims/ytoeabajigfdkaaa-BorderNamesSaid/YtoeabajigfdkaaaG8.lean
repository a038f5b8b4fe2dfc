/- The walks and the plain laws of this part of the program, part 8: what each computes. Conditions stand at each theorem. -/
import Derived.Test.YtoeabajigfdkaaaG6
import Derived.Test.YtoeabajigfdkaaaG7
/- connected: whether a new district is. Conditions stand at each theorem. -/
namespace Go.Proofs.Ytoeabajigfdkaaa
open Go.RowKit Go.Shelf

/-- the list in its block, before and behind a store (operation 13) -/
def PhS (zb cap : Nat) (ms : List Int) (k : Nat) (x : Int) (li : Array Bool) (W : World) : Prop := LB W zb cap (if li.getD 13 false = true then ms.set k x else ms)
theorem PhS.other {zb cap k i : Nat} {ms : List Int} {x : Int} {li : Array Bool} {W : World} (h : PhS zb cap ms k x li W) (h1 : i ≠ 13) : PhS zb cap ms k x (li.setIfInBounds i true) W := by
  unfold PhS at *
  rw [getD_set_oth h1]
  exact h
theorem LB.chg_set {W : World} {zb k : Nat} {v : Value} : Chg (fun q => q = zb) W (W.setCell ⟨zb, k, none⟩ v) := (Chg.refl (Z := fun q => q = zb) (A := W)).set rfl v

set_option maxRecDepth 100000 in
set_option maxHeartbeats 4000000 in
theorem connected_any (m : MapD) (A : Option Addr) (c : Nat) (A2 : Option Addr) (c2 : Nat) (A3 : Option Addr) (c3 : Nat) (g b : Nat) (l : Nat → Int) (d : Int) (w : World) (hw : WAt m A c A2 c2 A3 c3 g b w) (ok : OkM m) :
    Calls Try.prog 82 #[.pointer (some ⟨g, 0, none⟩), .agg (liC l), .int .i64 d] w fun e w' => e = .returned (.bool (conB m l d)) ∧ Below w.heap.size w w' := by
  have hs8 := ok.s8
  have hb0 := below_box (w := w) (liC l) 103
  have hl0 := Blk.new w 103 (liC l)
  have hw0 := hw.keep hb0
  obtain ⟨t0, t1, t2, t3, t4⟩ := hw0.blk.c5
  have HS := hid (And.intro hb0 (And.intro hl0 hw0))
  clear hw hb0 hl0 hw0 ok
  go_enter Try.func82, Try.ntmps82
  go_wp2
  clear t0 t1 t2 t3 t4
  go_loopw [7, 18] (fun v i W => ∃ k : Nat, k ≤ m.ss.length ∧ i = .int .i64 k ∧ W.ownsRow (w.heap.size + 1) 3 1 v (mem l d k).length ((mem l d k).map (Value.int .i64)) ∧ Below (w.heap.size + 1) (w.alloc (.cells (liC l) 103)) W) (fun _ i _ => m.ss.length - (intOf i).toNat)
  case atStart => exact ⟨0, Nat.zero_le _, rfl, ⟨rfl, .inl ⟨rfl, rfl⟩⟩, Below.refl _ _⟩
  case round =>
    obtain ⟨k, hk, rfl, ho, hbr⟩ := hrel
    have hbr' : Below (w.alloc (.cells (liC l) 103)).heap.size (w.alloc (.cells (liC l) 103)) wr := by rw [World.size_alloc]; exact hbr
    have hlw := HS.out.2.1.keep hbr'
    have HR := hid (And.intro ho hbr')
    have hsz := hbr.size
    rw [World.size_alloc] at hsz
    have hrw := hsz
    clear hbr hbr' ho
    by_cases hlt : k < m.ss.length
    · have hkI : (k : Int) < (m.ss.length : Int) := by omega
      have hk8 : k < 8 := by omega
      have q1 := hlw.cell k
      rw [liC_get l hk8] at q1
      have hml := mem_len (l := l) (d := d) k
      by_cases he : l k = d
      · have hoB : (l k == d) = true := by simp [he]
        have hst := mem_succ_in he
        have HST := hid hst
        obtain ⟨i0, hi0, hz0, hz1, hz2⟩ := info_parts int_info
        have HO := hid (HR.out.1.alloc (.cells #[.int .i64 (k : Int)] 3))
        clear hst he hlw
        go_wp2_with (at_builtin; refine wpList_append_own_at _ rfl _ _ 22 rfl (w.heap.size + 1) 3 i0 (.int .i64 0) 1 8 Try.underlying22 hi0 hz0 hz1 hz2 rfl (by decide) u7 _ _ rfl HO.out ⟨wr.heap.size, 0, none⟩ 1 1 [.int .i64 (k : Int)] rfl rfl (by intro q u hq; cases q with | zero => simp at hq; subst hq; exact (World.cell?_alloc_new _ _ _ _) | succ q => simp at hq) (by intro u hu; simp at hu; subst hu; rfl) (by simp only [maxLen]; omega) (by omega) (by simp; omega) ?_; intro vo' w5 hown' hgrow _ hfr; have HN := hid (show w5.ownsRow (w.heap.size + 1) 3 1 vo' (mem l d (k + 1)).length ((mem l d (k + 1)).map (Value.int .i64)) ∧ Below (w.heap.size + 1) (w.alloc (.cells (liC l) 103)) w5 from ⟨by rw [HST.out, List.length_append, List.map_append]; exact hown', below_row' ((HR.out.2.trans ((below_box _ _).mono HR.out.2.size)).mono (by simp)) HO.out (Nat.le_refl _) hgrow (by simp; omega)⟩); clear hown' hgrow hfr)
        go_roundw
        case rel => exact ⟨k + 1, by omega, by go_num, HN.out⟩
        case measure => first | (simp [intOf]; done) | (simp [intOf]; omega)
      · have hoB : (l k == d) = false := by simp [he]
        have hst := mem_succ_out he
        have HN := hid (show wr.ownsRow (w.heap.size + 1) 3 1 u7 (mem l d (k + 1)).length ((mem l d (k + 1)).map (Value.int .i64)) ∧ Below (w.heap.size + 1) (w.alloc (.cells (liC l) 103)) wr from ⟨by rw [hst]; exact HR.out.1, HR.out.2.mono (by simp)⟩)
        clear he hst hlw
        go_wp2
        go_roundw
        case rel => exact ⟨k + 1, by omega, by go_num, HN.out⟩
        case measure => first | (simp [intOf]; done) | (simp [intOf]; omega)
    · have hkI : decide ((k : Int) < (m.ss.length : Int)) = false := by simp; omega
      obtain rfl : k = m.ss.length := by omega
      generalize wr = w5 at *
      have hml := mem_len (l := l) (d := d) m.ss.length
      have hnd := mem_nodup l d m.ss.length
      have HBW := hid (HS.out.1.trans (HR.out.2.mono HS.out.1.size))
      have hwW := HS.out.2.2.keep HR.out.2
      have HC := hid (show conB m l d = conL m (mem l d m.ss.length) from rfl)
      have HWW := hid hwW
      clear hlw
      have HIX : ∀ y ∈ mem l d m.ss.length, Ix y := fun y hy => by
        obtain ⟨i, hi, _, e⟩ := mem_iff.1 hy
        unfold Ix; omega
      revert HR hml hnd HC HIX
      generalize mem l d m.ss.length = ms0
      intro HR hml hnd HC HIX
      cases ms0 with
      | nil =>
        rcases HR.out.1.2 with ⟨rfl, _⟩ | ⟨z, cap, cur, rfl, _⟩
        all_goals
          clear hnd hwW HIX
          go_wp2
          go_ret
          exact ⟨by rw [HC.out]; rfl, HBW.out⟩
      | cons f t =>
        have hr := HR.out.1
        obtain ⟨zb, cap, rfl⟩ := Go.ownsRow_succ hr
        obtain ⟨hr1, hr2⟩ := hr.lt zb rfl
        have hLB := lb_of_own hr
        obtain ⟨N, hN⟩ : ∃ N, (f :: t).length = N := ⟨_, rfl⟩
        have hcapn : (f :: t).length ≤ cap ∧ cap ≤ maxLen := by
          rcases hr.2 with ⟨e, _⟩ | ⟨z, cap', cur, e, _, _, h1, h2, _⟩
          · cases e
          · injection e with e1 e2 e3
            subst e3
            exact ⟨h1, h2⟩
        rw [hN] at hcapn
        obtain ⟨hn1, hn2⟩ := hcapn
        unfold maxLen at hn2
        have hngz : g ≠ zb := by
          obtain ⟨arr, ha, _⟩ := hLB
          have := hwW.blk.ne_ (show Blk w5 zb 3 arr from ha) (by decide)
          exact this
        have hnbz : zb ≠ b := by
          obtain ⟨arr, ha, _⟩ := hLB
          exact hwW.mp.ne (show Blk w5 zb 3 arr from ha)
        have hcs := CS.start (m := m) hnd
        have hmr := HIX
        have HL := hid (And.intro hLB (And.intro hcs (And.intro hmr hN)))
        have hN8 : N ≤ 8 := by simp only [List.length_cons] at hN hml; omega
        have hN0 : ((N : Int) == 0) = false := by simp only [List.length_cons] at hN; simp; omega
        have HNE := hid (And.intro hngz hnbz)
        have hN' : t.length + 1 = N := hN
        rw [hN']
        clear hN'
        have HZ := hid (And.intro hr1 hr2)
        clear hr hr1 hr2 hLB hcs hmr hN hml hnd hwW hngz hnbz HR HIX
        go_wp2
        go_loopw [9, 10] (fun r i W => ∃ (next reached : Nat) (ms : List Int), r = .int .i64 (reached : Int) ∧ i = .int .i64 (next : Int) ∧ CS m (f :: t) f ms next reached ∧ LB W zb cap ms ∧ Chg (fun q => q = zb) w5 W) (fun _ i _ => N - (intOf i).toNat)
        case atStart => exact ⟨0, 1, f :: t, rfl, rfl, HL.out.2.1, HL.out.1, Chg.refl⟩
        case round =>
          obtain ⟨next, reached, ms, rfl, rfl, hcs, hlb, hch⟩ := hrel
          have hrl : reached ≤ N := by have := hcs.rl; have := hcs.len; have := HL.out.2.2.2; omega
          have hnr := hcs.nr
          have hr1 := hcs.r1
          have HQ := hid (And.intro hcs (And.intro hlb hch))
          clear hcs hlb hch
          by_cases hlt : next < reached
          · have hkI : (next : Int) < (reached : Int) := by omega
            generalize wr = wo at *
            go_wp2
            go_loopw [9, 11] (fun r i W => ∃ (k reached : Nat) (ms : List Int), r = .int .i64 (reached : Int) ∧ i = .int .i64 (k : Int) ∧ CI m (f :: t) f ms next reached k ∧ LB W zb cap ms ∧ Chg (fun q => q = zb) w5 W) (fun _ i _ => N - (intOf i).toNat)
            case atStart => exact ⟨reached, reached, ms, rfl, rfl, CI.start HQ.out.1 hlt, HQ.out.2.1, HQ.out.2.2⟩
            case round =>
              clear HQ hrl hnr hr1 hlt hkI
              obtain ⟨k, reached, ms, rfl, rfl, hci, hlb, hch⟩ := hrel
              have hml : ms.length = N := by have := hci.len; have := HL.out.2.2.2; omega
              have hkl := hci.kl
              have hrk := hci.rk
              have hnl := hci.lt
              rw [hml] at hkl
              have HML := hid hml
              have HQ := hid (And.intro hci (And.intro hlb hch))
              clear hci hch hml
              by_cases hlt : k < N
              · have hkI : (k : Int) < (N : Int) := by omega
                obtain ⟨x, hx⟩ : ∃ x, ms[next]? = some x := ⟨_, List.getElem?_eq_getElem (by rw [HML.out]; omega)⟩
                obtain ⟨y, hy⟩ : ∃ y, ms[k]? = some y := ⟨_, List.getElem?_eq_getElem (by rw [HML.out]; omega)⟩
                obtain ⟨u, hu⟩ : ∃ u, ms[reached]? = some u := ⟨_, List.getElem?_eq_getElem (by rw [HML.out]; omega)⟩
                have hxm := HL.out.2.2.1 x (HQ.out.1.sub x (List.mem_of_getElem? hx))
                have hym := HL.out.2.2.1 y (HQ.out.1.sub y (List.mem_of_getElem? hy))
                have hlz := hlb.lt
                have hrI : (reached : Int) < (N : Int) := by omega
                have hnI : (next : Int) < (N : Int) := by omega
                have s2 := xt_cell (hlb.cell hx)
                have s3 := xt_cell (hlb.cell hy)
                have hwq := HQ.out.2.2.blk HWW.out.blk HNE.out.1
                have hmq := HWW.out.mp.chg HQ.out.2.2 (fun e => HNE.out.2 e.symm)
                have s1 : ∀ q, (xt wr q).cell? ⟨g, 4, none⟩ = some (.map (some b)) := fun q => by
                  obtain ⟨_, _, _, _, q5⟩ := (hwq.keep (below_xt wr q)).c5
                  exact q5
                cases hmt : meet m x y
                · have s4 : ∀ q, (Instr.lookup 109 (.map (some b)) (.agg #[.int .i64 x, .int .i64 y]) false).run Try.prog (xt wr q) = .ok (.bool false) (xt wr q) := fun q =>
                    jn_look Try.underlying109 (bool_zero _) (hmq.below (below_xt wr q)) hxm hym (r := false) (by simp [hmt])
                  have HNX := hid (HQ.out.1.miss (by rw [HML.out]; exact hlt) hx hy hmt)
                  clear hxm hym hx hy hu hwq hmq hlb hmt
                  go_wp2
                  refine wp_region_quiet_xt (by kernel_rfl) (by kernel_rfl) ?_
                  repeat (go_big_quiet_step (fail))
                  refine wpQuiet_nil ?_
                  intro W3 hw3
                  replace hw3 := of_xt hw3
                  have HW3 := hid (And.intro (HQ.out.2.1.below hw3) (HQ.out.2.2.trans (Chg.of_below hw3)))
                  clear hw3 s1 s2 s3 s4
                  go_wp2
                  go_roundw
                  case rel => exact ⟨k + 1, reached, ms, by go_num, by go_num, HNX.out, HW3.out⟩
                  case measure => first | (simp [intOf]; done) | (simp [intOf]; omega)
                · have s4 : ∀ q, (Instr.lookup 109 (.map (some b)) (.agg #[.int .i64 x, .int .i64 y]) false).run Try.prog (xt wr q) = .ok (.bool true) (xt wr q) := fun q =>
                    jn_look Try.underlying109 (bool_zero _) (hmq.below (below_xt wr q)) hxm hym (r := true) (by simp [hmt])
                  have HNX := hid (HQ.out.1.hit (by rw [HML.out]; exact hlt) hx hy hmt (sw_of hu hy))
                  have HU := hid (And.intro hu hy)
                  clear hxm hym hx hy hu hwq hmq hlb hmt
                  go_wp2
                  refine wp_region_quiet_xt (by kernel_rfl) (by kernel_rfl) ?_
                  repeat (go_big_quiet_step (fail))
                  refine wpQuiet_nil ?_
                  intro W3 hw3
                  replace hw3 := of_xt hw3
                  have HW3 := hid (And.intro (HQ.out.2.1.below hw3) (HQ.out.2.2.trans (Chg.of_below hw3)))
                  clear hw3 s1 s2 s3 s4
                  go_wp2
                  refine (wpIn_wide (n := 0)).1 ?_
                  refine wpIn_region_each 14 (fun i v W' => match i with | 0 => v = .slice (some ⟨zb, 0, none⟩) N cap | 1 => v = .int .i64 (k : Int) | 2 => v = .slice (some ⟨zb, 0, none⟩) N cap | 3 => v = .int .i64 (reached : Int) | 4 => v = .slice (some ⟨zb, 0, none⟩) N cap | 5 => v = .int .i64 (reached : Int) | 6 => v = .pointer (some ⟨zb, reached, none⟩) | 7 => v = .int .i64 u | 8 => v = .slice (some ⟨zb, 0, none⟩) N cap | 9 => v = .int .i64 (k : Int) | 10 => v = .pointer (some ⟨zb, k, none⟩) | 11 => v = .int .i64 y | 12 => v = .pointer (some ⟨zb, k, none⟩) | 13 => ∃ v4, v = v4 ∧ True | _ => True) (Chg (fun q => q = zb)) (PhS zb cap ms k u) (by kernel_rfl) (by kernel_rfl) ?_ (fun h k => h.trans k) ⟨rfl, rfl, rfl, Nat.le_refl _, fun _ _ _ => rfl⟩ (by unfold PhS; rw [getD_replicate_false]; simp only [Bool.false_eq_true, if_false]; exact HW3.out.1) (by kernel_rfl) ?_ ?_
                  · intro i v W1 W2 hb h
                    match i, h with
                    | 0, h => exact h
                    | 1, h => exact h
                    | 2, h => exact h
                    | 3, h => exact h
                    | 4, h => exact h
                    | 5, h => exact h
                    | 6, h => exact h
                    | 7, h => exact h
                    | 8, h => exact h
                    | 9, h => exact h
                    | 10, h => exact h
                    | 11, h => exact h
                    | 12, h => exact h
                    | 13, h =>
                      obtain ⟨v4, rfl, h1⟩ := h
                      exact ⟨_, rfl, trivial⟩
                    | i + 14, h => trivial
                  · refine ⟨?_, ?_, ?_, ?_, ?_, ?_, ?_, ?_, ?_, ?_, ?_, ?_, ?_, ?_, trivial⟩
                    · -- 0
                      intro li a1 W2 hA K hK
                      have e7 := hA.par 7 (by kernel_rfl)
                      refine opStep none 0 rfl rfl (fun c hc => by cases hc) ?_
                      go_simp
                      exact hK _ _ rfl Chg.refl (hA.ph.other (by decide))
                    · -- 1
                      intro li a1 W2 hA K hK
                      have e11 := hA.par 11 (by kernel_rfl)
                      refine opStep none 0 rfl rfl (fun c hc => by cases hc) ?_
                      go_simp
                      exact hK _ _ rfl Chg.refl (hA.ph.other (by decide))
                    · -- 2
                      intro li a1 W2 hA K hK
                      have e7 := hA.par 7 (by kernel_rfl)
                      refine opStep none 0 rfl rfl (fun c hc => by cases hc) ?_
                      go_simp
                      exact hK _ _ rfl Chg.refl (hA.ph.other (by decide))
                    · -- 3
                      intro li a1 W2 hA K hK
                      have e9 := hA.par 9 (by kernel_rfl)
                      refine opStep none 0 rfl rfl (fun c hc => by cases hc) ?_
                      go_simp
                      exact hK _ _ rfl Chg.refl (hA.ph.other (by decide))
                    · -- 4
                      intro li a1 W2 hA K hK
                      have e7 := hA.par 7 (by kernel_rfl)
                      refine opStep none 0 rfl rfl (fun c hc => by cases hc) ?_
                      go_simp
                      exact hK _ _ rfl Chg.refl (hA.ph.other (by decide))
                    · -- 5
                      intro li a1 W2 hA K hK
                      have e9 := hA.par 9 (by kernel_rfl)
                      refine opStep none 0 rfl rfl (fun c hc => by cases hc) ?_
                      go_simp
                      exact hK _ _ rfl Chg.refl (hA.ph.other (by decide))
                    · -- 6
                      intro li a1 W2 hA K hK
                      have e64 : a1.tmps.getD 64 undef = .slice (some ⟨zb, 0, none⟩) N cap := hA.val 4 64 (by kernel_rfl) (by kernel_rfl)
                      have e65 : a1.tmps.getD 65 undef = .int .i64 (reached : Int) := hA.val 5 65 (by kernel_rfl) (by kernel_rfl)
                      refine opStep none 0 rfl rfl (fun c hc => by cases hc) ?_
                      go_simp
                      exact hK _ _ (by first | rfl | exact congrArg (fun q => Value.pointer (some q)) (add_blk _ _)) Chg.refl (hA.ph.other (by decide))
                    · -- 7
                      intro li a1 W2 hA K hK
                      have e66 : a1.tmps.getD 66 undef = .pointer (some ⟨zb, reached, none⟩) := hA.val 6 66 (by kernel_rfl) (by kernel_rfl)
                      have hl13 : li.getD 13 false = false := by
                        cases hl : li.getD 13 false
                        · rfl
                        · have := hA.past hl 7 (by kernel_rfl); rw [hA.new] at this; cases this
                      have hp := hA.ph
                      unfold PhS at hp
                      rw [hl13] at hp
                      simp only [Bool.false_eq_true, if_false] at hp
                      have q1 := hp.cell HU.out.1
                      refine opStep none 0 rfl rfl (fun c hc => by cases hc) ?_
                      go_simp
                      exact hK _ _ rfl Chg.refl (hA.ph.other (by decide))
                    · -- 8
                      intro li a1 W2 hA K hK
                      have e7 := hA.par 7 (by kernel_rfl)
                      refine opStep none 0 rfl rfl (fun c hc => by cases hc) ?_
                      go_simp
                      exact hK _ _ rfl Chg.refl (hA.ph.other (by decide))
                    · -- 9
                      intro li a1 W2 hA K hK
                      have e11 := hA.par 11 (by kernel_rfl)
                      refine opStep none 0 rfl rfl (fun c hc => by cases hc) ?_
                      go_simp
                      exact hK _ _ rfl Chg.refl (hA.ph.other (by decide))
                    · -- 10
                      intro li a1 W2 hA K hK
                      have e68 : a1.tmps.getD 68 undef = .slice (some ⟨zb, 0, none⟩) N cap := hA.val 8 68 (by kernel_rfl) (by kernel_rfl)
                      have e69 : a1.tmps.getD 69 undef = .int .i64 (k : Int) := hA.val 9 69 (by kernel_rfl) (by kernel_rfl)
                      refine opStep none 0 rfl rfl (fun c hc => by cases hc) ?_
                      go_simp
                      exact hK _ _ (by first | rfl | exact congrArg (fun q => Value.pointer (some q)) (add_blk _ _)) Chg.refl (hA.ph.other (by decide))
                    · -- 11
                      intro li a1 W2 hA K hK
                      have e70 : a1.tmps.getD 70 undef = .pointer (some ⟨zb, k, none⟩) := hA.val 10 70 (by kernel_rfl) (by kernel_rfl)
                      have hl13 : li.getD 13 false = false := by
                        cases hl : li.getD 13 false
                        · rfl
                        · have := hA.past hl 11 (by kernel_rfl); rw [hA.new] at this; cases this
                      have hp := hA.ph
                      unfold PhS at hp
                      rw [hl13] at hp
                      simp only [Bool.false_eq_true, if_false] at hp
                      have q1 := hp.cell HU.out.2
                      refine opStep none 0 rfl rfl (fun c hc => by cases hc) ?_
                      go_simp
                      exact hK _ _ rfl Chg.refl (hA.ph.other (by decide))
                    · -- 12
                      intro li a1 W2 hA K hK
                      have e60 : a1.tmps.getD 60 undef = .slice (some ⟨zb, 0, none⟩) N cap := hA.val 0 60 (by kernel_rfl) (by kernel_rfl)
                      have e61 : a1.tmps.getD 61 undef = .int .i64 (k : Int) := hA.val 1 61 (by kernel_rfl) (by kernel_rfl)
                      refine opStep none 0 rfl rfl (fun c hc => by cases hc) ?_
                      go_simp
                      exact hK _ _ (by first | rfl | exact congrArg (fun q => Value.pointer (some q)) (add_blk _ _)) Chg.refl (hA.ph.other (by decide))
                    · -- 13
                      intro li a1 W2 hA K hK
                      have e72 : a1.tmps.getD 72 undef = .pointer (some ⟨zb, k, none⟩) := hA.val 12 72 (by kernel_rfl) (by kernel_rfl)
                      have e67 : a1.tmps.getD 67 undef = .int .i64 u := hA.val 7 67 (by kernel_rfl) (by kernel_rfl)
                      have hp := hA.ph
                      unfold PhS at hp
                      rw [show li.getD 13 false = false from hA.new] at hp
                      simp only [Bool.false_eq_true, if_false] at hp
                      have q0 := hp.cell HU.out.2
                      have q1 := hp.frozen k
                      have q2 := hp.lt
                      refine opStep none 0 rfl rfl (fun c hc => by cases hc) ?_
                      go_simp
                      refine hK undef _ ⟨undef, rfl, trivial⟩ LB.chg_set ?_
                      unfold PhS
                      rw [getD_set_eq (by rw [hA.lsize]; decide)]
                      simp only [if_true]
                      exact hp.set_ _ _
                  · intro li a1 W2 hD
                    have hp := hD.ph
                    unfold PhS at hp
                    rw [hD.all 13 (by decide)] at hp
                    simp only [if_true] at hp
                    have e62 : a1.tmps.getD 62 undef = .slice (some ⟨zb, 0, none⟩) N cap := hD.val 2 62 (by kernel_rfl) (by kernel_rfl)
                    have e63 : a1.tmps.getD 63 undef = .int .i64 (reached : Int) := hD.val 3 63 (by kernel_rfl) (by kernel_rfl)
                    have e71 : a1.tmps.getD 71 undef = .int .i64 y := hD.val 11 71 (by kernel_rfl) (by kernel_rfl)
                    have HF := hid (And.intro (hp.set_ reached y) ((HW3.out.2.trans hD.st).trans (LB.chg_set (k := reached) (v := .int .i64 y))))
                    obtain ⟨hpc, hpv⟩ : ∃ v, W2.cell? ⟨zb, reached, none⟩ = some v := ⟨_, hp.cell (List.getElem?_eq_getElem (by rw [List.length_set, HML.out]; omega))⟩
                    have hpf := hp.frozen reached
                    have hpl := hp.lt
                    have hkp2 := hD.keeps (ds := [60, 61, 62, 63, 64, 65, 66, 67, 68, 69, 70, 71, 72, 73]) (by kernel_rfl)
                    have hds := hD.size
                    have hsz : a1.tmps.size = 80 := hD.size
                    have hdd := hD.defers
                    clear hp
                    refine tail_val (i := 14) (v := .pointer (some ⟨zb, reached, none⟩)) (W' := W2) none 0 rfl rfl rfl (fun c hc => by cases hc) (by go_simp) (by rw [hsz]; decide) ?_
                    intro a3 s3 d3 f3 o3
                    have hkp3 := keeps_then hkp2 o3 (by decide)
                    have e71' := (o3 71 (by decide)).trans e71
                    refine tail_store (i := 15) (W' := W2.setCell ⟨zb, reached, none⟩ (.int .i64 y)) none 0 rfl rfl rfl (fun c hc => by cases hc) (by go_simp) ?_
                    have e := act_mix [60, 61, 62, 63, 64, 65, 66, 67, 68, 69, 70, 71, 72, 73] (s3.trans hds) (d3.trans hdd) (fun i _ hc => hkp3 i hc)
                    generalize (fun i => a3.tmps.getD i undef) = g' at e
                    refine wpListIn_nil ?_
                    rw [e]
                    clear e hD hkp2 hkp3 s3 d3 f3 o3 e62 e63 e71 e71' hds hdd hsz hpc hpv hpf hpl HU HQ HW3
                    simp only [mix, List.contains_cons, List.contains_nil, Nat.reduceAdd, Nat.reduceBEq, Bool.or_false, Bool.or_true, cond_true, cond_false]
                    go_wp2
                    go_roundw
                    case rel => exact ⟨k + 1, reached + 1, _, by go_num, by go_num, HNX.out, HF.out⟩
                    case measure => first | (simp [intOf]; done) | (simp [intOf]; omega)
              · have hkI : decide ((k : Int) < (N : Int)) = false := by simp; omega
                obtain rfl : k = N := by omega
                have HNX := hid (show CS m (f :: t) f ms (next + 1) reached by have q := HQ.out.1; rw [← HML.out] at q; exact q.done)
                clear hlb
                go_wp2
                go_roundw
                case rel => exact ⟨next + 1, reached, ms, by go_num, by go_num, HNX.out, HQ.out.2⟩
                case measure => first | (simp [intOf]; done) | (simp [intOf]; omega)
          · obtain rfl : next = reached := by omega
            have hkI : decide ((next : Int) < (next : Int)) = false := by simp
            have HE := hid (show decide (next = ms.length) = conL m (f :: t) from HQ.out.1.ends)
            have HML := hid (show ms.length = N by have := HQ.out.1.len; have := HL.out.2.2.2; omega)
            have HB := hid (HBW.out.trans (HQ.out.2.2.below (n := w.heap.size) (fun q e => by have := HZ.out.1; omega) HBW.out.size))
            have hEB : ((next : Int) == (N : Int)) = conL m (f :: t) := by
              rw [← HE.out, HML.out]
              by_cases e : next = N
              · simp [e]
              · simp [e]; omega
            have HEB := hid hEB
            clear hEB
            cases hcl : conL m (f :: t)
            all_goals
              have HCL := hid hcl
              rw [hcl] at HEB
              have hEB := HEB.out
              clear hcl
              go_wp2
              go_ret
              exact ⟨by rw [HC.out, HCL.out]; rfl, HB.out⟩
end Go.Proofs.Ytoeabajigfdkaaa
/- Right borders and the best ones, in plain words. No condition. -/
namespace Go.Proofs.Ytoeabajigfdkaaa

/-- whether the first k new districts are right for limits -/
def rightTo (m : MapD) (l : Nat → Int) (lo hi : Int) (k : Nat) : Bool := (List.range k).all fun d => decide (lo ≤ sizeLo m (inD l (d : Int)) m.old.length) && (decide (sizeHi m (inD l (d : Int)) m.old.length ≤ hi) && conB m l (d : Int))
def rightB (m : MapD) (l : Nat → Int) (lo hi : Int) : Bool := rightTo m l lo hi m.nw.toNat
theorem rightTo_succ {m : MapD} {l : Nat → Int} {lo hi : Int} {k : Nat} : rightTo m l lo hi (k + 1) = (rightTo m l lo hi k && (decide (lo ≤ sizeLo m (inD l (k : Int)) m.old.length) && (decide (sizeHi m (inD l (k : Int)) m.old.length ≤ hi) && conB m l (k : Int)))) := by
  simp [rightTo, List.range_succ, List.all_append]
theorem rightTo_false {m : MapD} {l : Nat → Int} {lo hi : Int} {k j : Nat} (hk : k < j) (h : (decide (lo ≤ sizeLo m (inD l (k : Int)) m.old.length) && (decide (sizeHi m (inD l (k : Int)) m.old.length ≤ hi) && conB m l (k : Int))) = false) : rightTo m l lo hi j = false := by
  unfold rightTo
  rw [List.all_eq_false]
  exact ⟨k, List.mem_range.2 hk, by rw [h]; decide⟩
def setL (l : Nat → Int) (s : Nat) (d : Int) : Nat → Int := fun i => if i = s then d else l i
/-- the first borders behind those of the first s streets that move so many streets and are right -/
def mv (m : MapD) (lo hi : Int) : Nat → (Nat → Int) → Nat → Int → Option (Nat → Int)
  | 0, l, _, many => if 0 < many then none else if rightB m l lo hi then some l else none
  | f + 1, l, s, many => if ((f : Int) + 1) < many then none else (List.range m.nw.toNat).findSome? fun d : Nat =>
      if 0 ≤ many - (if (d : Int) = (m.S s).n then 0 else 1) then mv m lo hi f (setL l s (d : Int)) (s + 1) (many - (if (d : Int) = (m.S s).n then 0 else 1)) else none
def zeroL : Nat → Int := fun _ => 0
def bordTo (m : MapD) (lo hi : Int) (k : Nat) : Option (Nat × (Nat → Int)) := (List.range k).findSome? fun j : Nat => (mv m lo hi m.ss.length zeroL 0 (j : Int)).map fun l => (j, l)
def bestB (m : MapD) (lo hi : Int) : Option (Nat × (Nat → Int)) := bordTo m lo hi (m.ss.length + 1)
theorem findSome_succ {β : Type} (f : Nat → Option β) (k : Nat) : (List.range (k + 1)).findSome? f = ((List.range k).findSome? f).or (f k) := by
  rw [List.range_succ, List.findSome?_append]
  cases h : (List.range k).findSome? f <;> simp [List.findSome?]
  cases f k <;> rfl
theorem findSome_more {β : Type} (f : Nat → Option β) {k n : Nat} {b : β} (hk : k ≤ n) (h : (List.range k).findSome? f = some b) : (List.range n).findSome? f = some b := by
  induction n with
  | zero =>
    obtain rfl : k = 0 := by omega
    exact h
  | succ n ih =>
    by_cases e : k = n + 1
    · subst e; exact h
    · rw [findSome_succ, ih (by omega)]; rfl
end Go.Proofs.Ytoeabajigfdkaaa
/- The best borders: they move the fewest streets, and are the smallest of those. In plain words. No condition. -/
namespace Go.Proofs.Ytoeabajigfdkaaa

theorem rightTo_congr {m : MapD} {l l' : Nat → Int} {lo hi : Int} (h : ∀ i, i < m.ss.length → l i = l' i) : ∀ k, rightTo m l lo hi k = rightTo m l' lo hi k
  | 0 => rfl
  | k + 1 => by
    rw [rightTo_succ, rightTo_succ, rightTo_congr h k, sizeLo_congr (inD_congr h), sizeHi_congr (inD_congr h), conB_congr h]
theorem rightB_congr {m : MapD} {l l' : Nat → Int} {lo hi : Int} (h : ∀ i, i < m.ss.length → l i = l' i) : rightB m l lo hi = rightB m l' lo hi := rightTo_congr h _
/-- how many of the first k streets are moved -/
def movN (m : MapD) (l : Nat → Int) (k : Nat) : Int := sumN (fun i => if l i = (m.S i).n then 0 else 1) k
theorem movN_succ {m : MapD} {l : Nat → Int} {k : Nat} : movN m l (k + 1) = movN m l k + (if l k = (m.S k).n then 0 else 1) := rfl
theorem movN_bounds (m : MapD) (l : Nat → Int) (k : Nat) : 0 ≤ movN m l k ∧ movN m l k ≤ k := by
  refine ⟨sumN_nonneg fun i _ => by split <;> omega, ?_⟩
  have := sumN_bound (f := fun i => if l i = (m.S i).n then (0 : Int) else 1) (k := k) (M := 1) fun i _ => by split <;> omega
  unfold movN; omega
theorem movN_congr {m : MapD} {l l' : Nat → Int} {k : Nat} (h : ∀ i, i < k → l i = l' i) : movN m l k = movN m l' k := sumN_congr fun i hi => by rw [h i hi]
theorem movN_mono {m : MapD} {l : Nat → Int} {j k : Nat} (h : j ≤ k) : movN m l j ≤ movN m l k := sumN_mono h fun i _ => by split <;> omega
theorem movN_span {m : MapD} {l : Nat → Int} (s : Nat) : ∀ f : Nat, movN m l (s + f) ≤ movN m l s + f
  | 0 => by simp
  | f + 1 => by
    have := movN_span (m := m) (l := l) s f
    rw [show s + (f + 1) = (s + f) + 1 from rfl, movN_succ]
    split <;> omega
/-- smaller or the same, from street s on -/
def lexle (l l' : Nat → Int) : Nat → Nat → Prop
  | 0, _ => True
  | f + 1, s => l s < l' s ∨ (l s = l' s ∧ lexle l l' f (s + 1))
theorem lexle_refl {l : Nat → Int} : ∀ f s, lexle l l f s
  | 0, _ => trivial
  | f + 1, s => .inr ⟨rfl, lexle_refl f (s + 1)⟩
theorem lexle_anti {l l' : Nat → Int} : ∀ f s, lexle l l' f s → lexle l' l f s → ∀ i, s ≤ i → i < s + f → l i = l' i
  | 0, s, _, _ => fun i h1 h2 => by omega
  | f + 1, s, h, k => fun i h1 h2 => by
    have e : l s = l' s := by
      rcases h with h | h
      · rcases k with k | k
        · omega
        · omega
      · exact h.1
    by_cases hi : i = s
    · rw [hi]; exact e
    · refine lexle_anti f (s + 1) (h.resolve_left (by omega)).2 (k.resolve_left (by omega)).2 i (by omega) (by omega)
theorem lexle_congr {l l' g g' : Nat → Int} : ∀ f s, (∀ i, s ≤ i → i < s + f → l i = g i) → (∀ i, s ≤ i → i < s + f → l' i = g' i) → lexle l l' f s → lexle g g' f s
  | 0, _, _, _, _ => trivial
  | f + 1, s, h, k, e => by
    have h0 := h s (Nat.le_refl _) (by omega)
    have k0 := k s (Nat.le_refl _) (by omega)
    rcases e with e | e
    · exact .inl (by omega)
    · exact .inr ⟨by omega, lexle_congr f (s + 1) (fun i h1 h2 => h i (by omega) (by omega)) (fun i h1 h2 => k i (by omega) (by omega)) e.2⟩
structure Cand (m : MapD) (lo hi : Int) (l0 : Nat → Int) (f s : Nat) (many : Int) (l : Nat → Int) : Prop where
  pre : ∀ i, i < s → l i = l0 i
  inr : ∀ i, s ≤ i → i < s + f → 0 ≤ l i ∧ l i < m.nw
  mov : movN m l (s + f) = movN m l s + many
  rgt : rightB m l lo hi = true
theorem find_some {β : Type} {f : Nat → Option β} : ∀ {k : Nat} {b : β}, (List.range k).findSome? f = some b → ∃ d, d < k ∧ f d = some b ∧ ∀ e, e < d → f e = none
  | 0, b, h => by simp at h
  | k + 1, b, h => by
    rw [findSome_succ] at h
    cases hk : (List.range k).findSome? f with
    | some b' =>
      rw [hk] at h
      cases h
      obtain ⟨d, h1, h2, h3⟩ := find_some hk
      exact ⟨d, by omega, h2, h3⟩
    | none =>
      rw [hk] at h
      refine ⟨k, by omega, h, fun e he => ?_⟩
      rw [List.findSome?_eq_none_iff] at hk
      exact hk e (List.mem_range.2 he)
theorem find_none {β : Type} {f : Nat → Option β} {k : Nat} (h : (List.range k).findSome? f = none) (d : Nat) (hd : d < k) : f d = none := by
  rw [List.findSome?_eq_none_iff] at h
  exact h d (List.mem_range.2 hd)
/-- what a street costs -/
def mc (m : MapD) (s : Nat) (d : Int) : Int := if d = (m.S s).n then 0 else 1
theorem mc_b (m : MapD) (s : Nat) (d : Int) : 0 ≤ mc m s d ∧ mc m s d ≤ 1 := by unfold mc; split <;> omega
theorem Cand.down {m : MapD} {lo hi : Int} {l0 l : Nat → Int} {f s : Nat} {many : Int} (h : Cand m lo hi l0 (f + 1) s many l) : Cand m lo hi (setL l0 s (l s)) f (s + 1) (many - mc m s (l s)) l := by
  refine ⟨fun i hi => ?_, fun i h1 h2 => h.inr i (by omega) (by omega), ?_, h.rgt⟩
  · unfold setL
    by_cases e : i = s
    · rw [if_pos e, e]
    · rw [if_neg e]; exact h.pre i (by omega)
  · have := h.mov
    rw [show s + (f + 1) = s + 1 + f by omega] at this
    rw [this, movN_succ]
    unfold mc
    omega
theorem Cand.up {m : MapD} {lo hi : Int} {l0 l : Nat → Int} {f s : Nat} {many d : Int} (h : Cand m lo hi (setL l0 s d) f (s + 1) (many - mc m s d) l) (hd : 0 ≤ d ∧ d < m.nw) : Cand m lo hi l0 (f + 1) s many l ∧ l s = d := by
  have hs : l s = d := by
    rw [h.pre s (by omega)]; simp [setL]
  refine ⟨⟨fun i hi => ?_, fun i h1 h2 => ?_, ?_, h.rgt⟩, hs⟩
  · rw [h.pre i (by omega)]
    simp [setL, show i ≠ s by omega]
  · by_cases e : i = s
    · subst e; rw [hs]; exact hd
    · exact h.inr i (by omega) (by omega)
  · have := h.mov
    rw [show s + (f + 1) = s + 1 + f by omega, this, movN_succ, hs]
    unfold mc
    omega
theorem mv_zero {m : MapD} {lo hi : Int} {l : Nat → Int} {s : Nat} {many : Int} : mv m lo hi 0 l s many = if 0 < many then none else if rightB m l lo hi then some l else none := rfl
theorem mv_succ {m : MapD} {lo hi : Int} {l : Nat → Int} {f s : Nat} {many : Int} : mv m lo hi (f + 1) l s many = if ((f : Int) + 1) < many then none else (List.range m.nw.toNat).findSome? fun d : Nat =>
      if 0 ≤ many - mc m s (d : Int) then mv m lo hi f (setL l s (d : Int)) (s + 1) (many - mc m s (d : Int)) else none := rfl
theorem mv_none {m : MapD} {lo hi : Int} : ∀ (f s : Nat) (l : Nat → Int) (many : Int), s + f = m.ss.length → 0 ≤ many → mv m lo hi f l s many = none → ∀ g, ¬ Cand m lo hi l f s many g
  | 0, s, l, many, hs, h0, h, g, c => by
    have hm := c.mov
    have hr := c.rgt
    rw [rightB_congr (l' := l) (fun i hi => c.pre i (by omega))] at hr
    rw [mv_zero, if_neg (by simp at hm; omega), hr] at h
    cases h
  | f + 1, s, l, many, hs, h0, h, g, c => by
    have hm := c.mov
    have hsp := movN_span (m := m) (l := g) s (f + 1)
    rw [mv_succ, if_neg (by omega)] at h
    have hb := c.inr s (Nat.le_refl _) (by omega)
    have h1 := find_none h (g s).toNat (by omega)
    have e : ((g s).toNat : Int) = g s := by omega
    have c' := c.down
    have hm' := c'.mov
    have hmn := movN_mono (m := m) (l := g) (j := s + 1) (k := s + 1 + f) (by omega)
    rw [e, if_pos (by omega)] at h1
    exact mv_none f (s + 1) _ _ (by omega) (by omega) h1 g c'
theorem mv_some {m : MapD} {lo hi : Int} : ∀ (f s : Nat) (l : Nat → Int) (many : Int) (g : Nat → Int), s + f = m.ss.length → 0 ≤ many → mv m lo hi f l s many = some g →
    Cand m lo hi l f s many g ∧ ∀ g', Cand m lo hi l f s many g' → lexle g g' f s
  | 0, s, l, many, g, hs, h0, h => by
    rw [mv_zero] at h
    split at h
    · cases h
    · split at h
      · cases h
        rename_i hr
        exact ⟨⟨fun _ _ => rfl, fun i h1 h2 => by omega, by simp; omega, hr⟩, fun _ _ => trivial⟩
      · cases h
  | f + 1, s, l, many, g, hs, h0, h => by
    rw [mv_succ] at h
    split at h
    · cases h
    · obtain ⟨d, hd, h1, h2⟩ := find_some h
      by_cases hc : 0 ≤ many - mc m s (d : Int)
      · rw [if_pos hc] at h1
        obtain ⟨a, b⟩ := mv_some f (s + 1) _ _ g (by omega) hc h1
        obtain ⟨a', hgs⟩ := a.up (by omega)
        refine ⟨a', fun g' c' => ?_⟩
        have hb := c'.inr s (Nat.le_refl _) (by omega)
        have e : ((g' s).toNat : Int) = g' s := by omega
        have cd := c'.down
        rcases Int.lt_trichotomy (g' s) (d : Int) with hlt | heq | hgt
        · exfalso
          have h3 := h2 (g' s).toNat (by omega)
          have hm' := cd.mov
          have hmn := movN_mono (m := m) (l := g') (j := s + 1) (k := s + 1 + f) (by omega)
          rw [e, if_pos (by omega)] at h3
          exact mv_none f (s + 1) _ _ (by omega) (by omega) h3 g' cd
        · rw [heq] at cd
          exact .inr ⟨by rw [hgs, heq], b g' cd⟩
        · exact .inl (by rw [hgs]; exact hgt)
      · rw [if_neg hc] at h1
        cases h1
/-- borders of a map that are right -/
def RightAll (m : MapD) (lo hi : Int) (l : Nat → Int) : Prop := (∀ i, i < m.ss.length → 0 ≤ l i ∧ l i < m.nw) ∧ rightB m l lo hi = true
theorem RightAll.cand {m : MapD} {lo hi : Int} {l : Nat → Int} (h : RightAll m lo hi l) : Cand m lo hi zeroL m.ss.length 0 (movN m l m.ss.length) l :=
  ⟨fun i hi => by omega, fun i _ hi => h.1 i (by omega), by simp [movN, sumN], h.2⟩
theorem Cand.all {m : MapD} {lo hi : Int} {l : Nat → Int} {many : Int} (h : Cand m lo hi zeroL m.ss.length 0 many l) : RightAll m lo hi l ∧ movN m l m.ss.length = many := by
  refine ⟨⟨fun i hi => h.inr i (Nat.zero_le _) (by omega), h.rgt⟩, ?_⟩
  have := h.mov
  simpa [movN, sumN] using this
theorem best_some_iff {m : MapD} {lo hi : Int} {j : Nat} {l : Nat → Int} (h : bestB m lo hi = some (j, l)) :
    RightAll m lo hi l ∧ movN m l m.ss.length = j ∧ ∀ l', RightAll m lo hi l' → (j : Int) < movN m l' m.ss.length ∨ ((j : Int) = movN m l' m.ss.length ∧ lexle l l' m.ss.length 0) := by
  obtain ⟨d, _, h1, h2⟩ := find_some (show (List.range (m.ss.length + 1)).findSome? _ = some (j, l) from h)
  rw [Option.map_eq_some_iff] at h1
  obtain ⟨g, h1, e⟩ := h1
  cases e
  obtain ⟨a, b⟩ := mv_some m.ss.length 0 zeroL _ l (by omega) (by omega) h1
  obtain ⟨a1, a2⟩ := a.all
  refine ⟨a1, a2, fun l' hr => ?_⟩
  have c := hr.cand
  have hb := movN_bounds m l' m.ss.length
  rcases Int.lt_trichotomy (movN m l' m.ss.length) (j : Int) with hlt | heq | hgt
  · exfalso
    have h3 := h2 (movN m l' m.ss.length).toNat (by omega)
    rw [Option.map_eq_none_iff] at h3
    rw [show (((movN m l' m.ss.length).toNat : Nat) : Int) = movN m l' m.ss.length by omega] at h3
    exact mv_none m.ss.length 0 zeroL _ (by omega) hb.1 h3 l' c
  · rw [heq] at c
    exact .inr ⟨heq.symm, b l' c⟩
  · exact .inl hgt
theorem best_none_iff {m : MapD} {lo hi : Int} (h : bestB m lo hi = none) (l : Nat → Int) : ¬ RightAll m lo hi l := fun hr => by
  have hb := movN_bounds m l m.ss.length
  have h3 := find_none (show (List.range (m.ss.length + 1)).findSome? _ = none from h) (movN m l m.ss.length).toNat (by omega)
  rw [Option.map_eq_none_iff, show (((movN m l m.ss.length).toNat : Nat) : Int) = movN m l m.ss.length by omega] at h3
  exact mv_none m.ss.length 0 zeroL _ (by omega) hb.1 h3 l hr.cand
theorem bestB_le {m : MapD} {lo hi : Int} {j : Nat} {l : Nat → Int} (h : bestB m lo hi = some (j, l)) : j ≤ m.ss.length := by
  obtain ⟨_, h2, _⟩ := best_some_iff h
  have := movN_bounds m l m.ss.length
  omega
/-- numbers of borders -/
def numF (N : Int) (l : Nat → Int) : Nat → Nat → Int
  | 0, _ => 0
  | f + 1, s => l s * N ^ f + numF N l f (s + 1)
theorem numF_b {N : Int} (hN : 1 ≤ N) {l : Nat → Int} : ∀ f s, (∀ i, s ≤ i → i < s + f → 0 ≤ l i ∧ l i < N) → 0 ≤ numF N l f s ∧ numF N l f s < N ^ f
  | 0, s, _ => by simp [numF]
  | f + 1, s, h => by
    obtain ⟨h1, h2⟩ := h s (Nat.le_refl _) (by omega)
    obtain ⟨h3, h4⟩ := numF_b hN f (s + 1) fun i a b => h i (by omega) (by omega)
    have hp : 0 < N ^ f := Int.pow_pos (by omega)
    have e : N ^ (f + 1) = N ^ f * N := Int.pow_succ N f
    have h5 : 0 ≤ l s * N ^ f := Int.mul_nonneg h1 (by omega)
    have h6 : l s * N ^ f ≤ (N - 1) * N ^ f := Int.mul_le_mul_of_nonneg_right (by omega) (by omega)
    have h7 : (N - 1) * N ^ f = N ^ f * N - N ^ f := by rw [Int.sub_mul, Int.mul_comm N]; simp
    show 0 ≤ l s * N ^ f + numF N l f (s + 1) ∧ l s * N ^ f + numF N l f (s + 1) < N ^ (f + 1)
    rw [e]
    omega
theorem lexle_of_num {N : Int} (hN : 1 ≤ N) {l l' : Nat → Int} : ∀ f s, (∀ i, s ≤ i → i < s + f → 0 ≤ l i ∧ l i < N) → (∀ i, s ≤ i → i < s + f → 0 ≤ l' i ∧ l' i < N) → numF N l f s ≤ numF N l' f s → lexle l l' f s
  | 0, _, _, _, _ => trivial
  | f + 1, s, h, k, hn => by
    have b1 := numF_b hN f (s + 1) fun i a b => h i (by omega) (by omega)
    have b2 := numF_b hN f (s + 1) fun i a b => k i (by omega) (by omega)
    have hp : 0 < N ^ f := Int.pow_pos (by omega)
    have e1 : numF N l (f + 1) s = l s * N ^ f + numF N l f (s + 1) := rfl
    have e2 : numF N l' (f + 1) s = l' s * N ^ f + numF N l' f (s + 1) := rfl
    rw [e1, e2] at hn
    rcases Int.lt_trichotomy (l s) (l' s) with hlt | heq | hgt
    · exact .inl hlt
    · exact .inr ⟨heq, lexle_of_num hN f (s + 1) (fun i a b => h i (by omega) (by omega)) (fun i a b => k i (by omega) (by omega)) (by rw [heq] at hn; omega)⟩
    · exfalso
      have h6 : (l' s + 1) * N ^ f ≤ l s * N ^ f := Int.mul_le_mul_of_nonneg_right (by omega) (by omega)
      rw [Int.add_mul, Int.one_mul] at h6
      omega
end Go.Proofs.Ytoeabajigfdkaaa
/- right: whether borders are right for limits. Conditions stand at each theorem. -/
namespace Go.Proofs.Ytoeabajigfdkaaa
open Go.RowKit Go.Shelf

set_option maxRecDepth 100000 in
set_option maxHeartbeats 4000000 in
theorem right_any (m : MapD) (A : Option Addr) (c : Nat) (A2 : Option Addr) (c2 : Nat) (A3 : Option Addr) (c3 : Nat) (g b : Nat) (l : Nat → Int) (lo hi : Int) (w : World) (hw : WAt m A c A2 c2 A3 c3 g b w) (h : MIn m A c A2 c2 A3 c3 w) (ok : OkM m) :
    Calls Try.prog 72 #[.pointer (some ⟨g, 0, none⟩), .agg (liC l), .agg #[.int .i64 lo, .int .i64 hi]] w fun e w' => e = .returned (.bool (rightB m l lo hi)) ∧ Below w.heap.size w w' := by
  have hd4 := ok.d4
  have hn1 := ok.n1
  have hn4 := ok.n4
  have hb0 := (below_box (w := w) (liC l) 103).alloc (below_box (w := w) (liC l) 103).size (.cells #[.int .i64 lo, .int .i64 hi] 49)
  have hl0 := (Blk.new w 103 (liC l)).alloc (.cells #[.int .i64 lo, .int .i64 hi] 49)
  have hr0 := Blk.new (w.alloc (.cells (liC l) 103)) 49 #[.int .i64 lo, .int .i64 hi]
  rw [World.size_alloc] at hr0
  have hw0 := hw.keep hb0
  have hh0 := h.at_ hb0
  obtain ⟨t0, t1, t2, t3, t4⟩ := hw0.blk.c5
  have HS := hid (And.intro hb0 (And.intro hl0 (And.intro hr0 (And.intro hw0 hh0))))
  have OK := hid ok
  clear hw hb0 hl0 hw0 ok hh0 hr0 h
  obtain ⟨N, hN⟩ : ∃ N, m.nw.toNat = N := ⟨_, rfl⟩
  have hNI : m.nw = (N : Int) := by omega
  have HN := hid (And.intro hN hNI)
  have hN4 : N ≤ 4 := by omega
  rw [show rightB m l lo hi = rightTo m l lo hi N by unfold rightB; rw [hN]]
  rw [hNI] at t1
  clear hN hNI hn1 hn4
  go_enter Try.func72, Try.ntmps72
  go_wp2
  clear t0 t1 t2 t3 t4
  generalize hW1 : ((w.alloc (.cells (liC l) 103)).alloc (.cells #[.int .i64 lo, .int .i64 hi] 49)) = w1 at *
  go_loopw [14] (fun i W => ∃ k : Nat, k ≤ N ∧ i = .int .i64 k ∧ rightTo m l lo hi k = true ∧ Below w1.heap.size w1 W) (fun i _ => N - (intOf i).toNat)
  case atStart => exact ⟨0, Nat.zero_le _, rfl, rfl, by rw [← hW1]; exact Below.refl _ _⟩
  case round =>
    clear hW1
    obtain ⟨k, hk, rfl, hrt, hbr⟩ := hrel
    have HR := hid (And.intro hrt hbr)
    clear hrt hbr
    by_cases hlt : k < N
    · have hkI : (k : Int) < (N : Int) := by omega
      have hkB : (k : Int) < m.nw := by have := HN.out.2; omega
      have hwr := HS.out.2.2.2.1.keep HR.out.2
      have HW := hid (And.intro hwr (And.intro (HS.out.2.2.2.2.at_ HR.out.2) (And.intro (HS.out.2.1.keep HR.out.2) (HS.out.2.2.1.keep HR.out.2))))
      have HSZ := hid (fun (W : World) (hW : Below wr.heap.size wr W) => bsize_any m l (k : Int) A c A2 c2 A3 c3 W (HW.out.2.1.at_ hW) OK.out)
      have HSS := hid (@rightTo_succ m l lo hi k)
      have HFF := hid (fun h => @rightTo_false m l lo hi k N hlt h)
      have HCN := hid (fun (W : World) (hW : Below wr.heap.size wr W) => connected_any m A c A2 c2 A3 c3 g b l (k : Int) W (HW.out.1.keep hW) OK.out)
      generalize sizeLo m (inD l (k : Int)) m.old.length = P at HSZ HSS HFF
      generalize sizeHi m (inD l (k : Int)) m.old.length = Q at HSZ HSS HFF
      generalize conB m l (k : Int) = cc at HSS HFF HCN
      clear hwr
      go_wp2
      refine (wpIn_wide (n := 0)).1 ?_
      refine wpIn_region_each 8 (fun i v W' => match i with | 0 => v = .pointer (some ⟨g, 0, none⟩) | 1 => v = .pointer (some ⟨g, 0, none⟩) | 2 => v = .pointer (some ⟨g, 0, none⟩) | 3 => v = .agg #[.slice A m.old.length c, .int .i64 m.nw, .slice A2 m.ss.length c2, .slice A3 m.js.length c3] | 4 => v = .agg (liC l) | 5 => v = .int .i64 (k : Int) | 6 => v = .agg #[.int .i64 P, .int .i64 Q] | 7 => ∃ gl, v = .pointer (some ⟨gl, 0, none⟩) ∧ wr.heap.size ≤ gl ∧ Blk W' gl 49 #[.int .i64 0, .int .i64 0] | _ => True) (fun A B => Below A.heap.size A B) (fun _ _ => True) (by kernel_rfl) (by kernel_rfl) ?_ (fun h k => h.trans (k.mono h.size)) ⟨rfl, rfl, rfl, Nat.le_refl _, fun _ _ => rfl⟩ trivial (by kernel_rfl) ?_ ?_
      · intro i v W1 W2 hb h
        match i, h with
        | 0, h => exact h
        | 1, h => exact h
        | 2, h => exact h
        | 3, h => exact h
        | 4, h => exact h
        | 5, h => exact h
        | 6, h => exact h
        | 7, h =>
          obtain ⟨gl, rfl, h1⟩ := h
          exact ⟨_, rfl, h1.1, h1.2.keep hb⟩
        | i + 8, h => trivial
      · refine ⟨?_, ?_, ?_, ?_, ?_, ?_, ?_, ?_, trivial⟩
        · -- 0
          intro li a1 W2 hA K hK
          have e0 := hA.par 0 (by kernel_rfl)
          refine opStep none 0 rfl rfl (fun c hc => by cases hc) ?_
          go_simp
          exact hK _ _ rfl (Below.refl _ _) trivial
        · -- 1
          intro li a1 W2 hA K hK
          have e17 : a1.tmps.getD 17 undef = .pointer (some ⟨g, 0, none⟩) := hA.val 0 17 (by kernel_rfl) (by kernel_rfl)
          refine opStep none 0 rfl rfl (fun c hc => by cases hc) ?_
          go_simp
          exact hK _ _ rfl (Below.refl _ _) trivial
        · -- 2
          intro li a1 W2 hA K hK
          have e18 : a1.tmps.getD 18 undef = .pointer (some ⟨g, 0, none⟩) := hA.val 1 18 (by kernel_rfl) (by kernel_rfl)
          refine opStep none 0 rfl rfl (fun c hc => by cases hc) ?_
          go_simp
          exact hK _ _ rfl (Below.refl _ _) trivial
        · -- 3
          intro li a1 W2 hA K hK
          have e19 : a1.tmps.getD 19 undef = .pointer (some ⟨g, 0, none⟩) := hA.val 2 19 (by kernel_rfl) (by kernel_rfl)
          obtain ⟨q1, q2, q3, q4, _⟩ := (HW.out.1.blk.keep hA.st).c5
          refine opStep none 0 rfl rfl (fun c hc => by cases hc) ?_
          go_simp
          exact hK _ _ rfl (Below.refl _ _) trivial
        · -- 4
          intro li a1 W2 hA K hK
          have e4 := hA.par 4 (by kernel_rfl)
          obtain ⟨q1, q2, q3, q4, q5, q6, q7, q8⟩ := Blk.c8 (show Blk W2 w.heap.size 103 #[_, _, _, _, _, _, _, _] from HW.out.2.2.1.keep hA.st)
          refine opStep none 0 rfl rfl (fun c hc => by cases hc) ?_
          go_simp
          exact hK _ _ rfl (Below.refl _ _) trivial
        · -- 5
          intro li a1 W2 hA K hK
          have e7 := hA.par 7 (by kernel_rfl)
          refine opStep none 0 rfl rfl (fun c hc => by cases hc) ?_
          go_simp
          exact hK _ _ rfl (Below.refl _ _) trivial
        · -- 6
          intro li a1 W2 hA K hK
          have e20 : a1.tmps.getD 20 undef = .agg #[.slice A m.old.length c, .int .i64 m.nw, .slice A2 m.ss.length c2, .slice A3 m.js.length c3] := hA.val 3 20 (by kernel_rfl) (by kernel_rfl)
          have e21 : a1.tmps.getD 21 undef = .agg (liC l) := hA.val 4 21 (by kernel_rfl) (by kernel_rfl)
          have e22 : a1.tmps.getD 22 undef = .int .i64 (k : Int) := hA.val 5 22 (by kernel_rfl) (by kernel_rfl)
          refine opStep none 0 rfl rfl (fun c hc => by cases hc) ?_
          go_simp
          refine (HSZ.out W2 hA.st).mono ?_
          rintro e W3 ⟨rfl, hb3⟩
          exact hK _ _ rfl hb3 trivial
        · -- 7
          intro li a1 W2 hA K hK
          refine opStep none 0 rfl rfl (fun c hc => by cases hc) ?_
          go_simp
          exact hK _ _ ⟨_, rfl, hA.st.size, Blk.new _ _ _⟩ ((Below.refl _ _).alloc (Nat.le_refl _) _) trivial
      · intro li a1 W2 hD
        obtain ⟨gl, e8, hgl, hbl⟩ := hD.val 7 8 (by kernel_rfl) (by kernel_rfl)
        have e23 : a1.tmps.getD 23 undef = .agg #[.int .i64 P, .int .i64 Q] := hD.val 6 23 (by kernel_rfl) (by kernel_rfl)
        have hst := hD.st
        have f0 := hbl.frozen 0
        have f1 := hbl.frozen 1
        have fl := hbl.lt
        obtain ⟨d0, d1⟩ := hbl.c2
        have hkp2 := hD.keeps (ds := [17, 18, 19, 20, 21, 22, 23, 8]) (by kernel_rfl)
        have hds := hD.size
        have hdd := hD.defers
        have hb5 := (hst.setCell (p := ⟨gl, 0, none⟩) (by show wr.heap.size ≤ gl; exact hgl) (.int .i64 P)).setCell (p := ⟨gl, 1, none⟩) (by show wr.heap.size ≤ gl; exact hgl) (.int .i64 Q)
        have hbl5 : Blk ((W2.setCell ⟨gl, 0, none⟩ (.int .i64 P)).setCell ⟨gl, 1, none⟩ (.int .i64 Q)) gl 49 #[.int .i64 P, .int .i64 Q] := (hbl.set_ 0 _).set_ 1 _
        have H5 := hid (And.intro hb5 hbl5)
        refine tail_store (i := 8) (W' := (W2.setCell ⟨gl, 0, none⟩ (.int .i64 P)).setCell ⟨gl, 1, none⟩ (.int .i64 Q)) none 0 rfl rfl rfl (fun c hc => by cases hc) (by clear hst hb5 hbl5 hbl hgl; go_simp) ?_
        generalize ((W2.setCell ⟨gl, 0, none⟩ (.int .i64 P)).setCell ⟨gl, 1, none⟩ (.int .i64 Q)) = w5 at H5
        have e := act_mix [17, 18, 19, 20, 21, 22, 23, 8] hds hdd (fun i _ hc => hkp2 i hc)
        have hg8 : (fun i => a1.tmps.getD i undef) 8 = .pointer (some ⟨gl, 0, none⟩) := e8
        generalize (fun i => a1.tmps.getD i undef) = g' at e hg8
        refine wpListIn_nil ?_
        rw [e]
        clear e hD hkp2 e23 e8 hds hdd f0 f1 fl d0 d1 hb5 hbl5 hbl hst hgl
        simp only [mix, List.contains_cons, List.contains_nil, Nat.reduceAdd, Nat.reduceBEq, Bool.or_false, Bool.or_true, cond_true, cond_false, hg8]
        clear hg8
        obtain ⟨p0, p1⟩ := H5.out.2.c2
        obtain ⟨r0, r1⟩ := (HW.out.2.2.2.keep H5.out.1).c2
        have HB5 := hid (HR.out.2.trans (H5.out.1.mono HR.out.2.size))
        by_cases h1 : P < lo
        · have HFX := hid (HFF.out (by rw [decide_eq_false (by omega)]; rfl))
          have h1B : decide (P < lo) = true := by simp [h1]
          clear h1
          go_wp2
          go_ret
          exact ⟨by rw [HFX.out]; rfl, HS.out.1.trans (HB5.out.mono HS.out.1.size)⟩
        · have h1B : decide (P < lo) = false := by simp; omega
          by_cases h2 : hi < Q
          · have HFX := hid (HFF.out (by rw [decide_eq_false (p := Q ≤ hi) (by omega)]; cases decide (lo ≤ P) <;> rfl))
            have h2B : decide (hi < Q) = true := by simp [h2]
            have h2C : decide (Q > hi) = true := by simp [h2]
            clear h1 h2
            go_wp2
            go_ret
            exact ⟨by rw [HFX.out]; rfl, HS.out.1.trans (HB5.out.mono HS.out.1.size)⟩
          · have h2B : decide (hi < Q) = false := by simp; omega
            have h2C : decide (Q > hi) = false := by simp; omega
            have HSX := hid (show rightTo m l lo hi (k + 1) = cc by rw [HSS.out, HR.out.1, decide_eq_true (show lo ≤ P by omega), decide_eq_true (show Q ≤ hi by omega)]; rfl)
            have HFX := hid (fun (h : cc = false) => HFF.out (by rw [h]; cases decide (lo ≤ P) <;> cases decide (Q ≤ hi) <;> rfl))
            have HCC := hid (HCN.out w5 H5.out.1)
            obtain ⟨s0, s1, s2, s3, s4, s5, s6, s7⟩ := Blk.c8 (show Blk w5 w.heap.size 103 #[_, _, _, _, _, _, _, _] from HW.out.2.2.1.keep H5.out.1)
            clear h1 h2
            cases cc
            · have HFY := hid (HFX.out rfl)
              go_wp2_with fail
              refine HCC.out.mono ?_
              rintro e w6 ⟨rfl, hb6⟩
              go_wp2
              go_ret
              exact ⟨by rw [HFY.out]; rfl, HS.out.1.trans ((HB5.out.trans (hb6.mono HB5.out.size)).mono HS.out.1.size)⟩
            · go_wp2_with fail
              refine HCC.out.mono ?_
              rintro e w6 ⟨rfl, hb6⟩
              have HB6 := hid (HB5.out.trans (hb6.mono HB5.out.size))
              clear hb6
              go_wp2
              go_roundw
              case rel => exact ⟨k + 1, by omega, by go_num, HSX.out, HB6.out⟩
              case measure => first | (simp [intOf]; done) | (simp [intOf]; omega)
    · have hkI : decide ((k : Int) < (N : Int)) = false := by simp; omega
      obtain rfl : k = N := by omega
      have HB5 := hid (HS.out.1.trans (HR.out.2.mono HS.out.1.size))
      go_wp2
      go_ret
      exact ⟨by rw [HR.out.1]; rfl, HB5.out⟩
end Go.Proofs.Ytoeabajigfdkaaa
/- asked, list, Apart. Conditions stand at each theorem. -/
namespace Go.Proofs.Ytoeabajigfdkaaa
open Go.RowKit Go.Shelf

/-- the number of the error of a map with limits -/
def askE (m : MapD) (lo hi : Int) : Int := if chkM m = 0 then (if rngOk lo hi 40000 = true then cstM m else 2) else chkM m
theorem ask_ok {m : MapD} {lo hi : Int} (h : askE m lo hi = 0) : chkM m = 0 ∧ rngOk lo hi 40000 = true ∧ cstM m = 0 := by
  unfold askE at h
  by_cases hc : chkM m = 0
  · rw [if_pos hc] at h
    by_cases hr : rngOk lo hi 40000 = true
    · rw [if_pos hr] at h; exact ⟨hc, hr, h⟩
    · rw [if_neg hr] at h; cases h
  · rw [if_neg hc] at h; exact absurd h hc
set_option maxRecDepth 100000 in
set_option maxHeartbeats 2000000 in
theorem asked_bad (m : MapD) (A : Option Addr) (c : Nat) (A2 : Option Addr) (c2 : Nat) (A3 : Option Addr) (c3 : Nat) (lo hi : Int) (w : World) (h : MIn m A c A2 c2 A3 c3 w) (he : askE m lo hi ≠ 0) :
    Calls Try.prog 70 #[.agg #[.slice A m.old.length c, .int .i64 m.nw, .slice A2 m.ss.length c2, .slice A3 m.js.length c3], .agg #[.int .i64 lo, .int .i64 hi]] w fun e w' => e = .returned (.tuple #[.pointer none, .int .i64 (askE m lo hi)]) ∧ Below w.heap.size w w' := by
  have hb0 := (below_box (w := w) #[.slice A m.old.length c, .int .i64 m.nw, .slice A2 m.ss.length c2, .slice A3 m.js.length c3] 34).alloc (below_box (w := w) #[.slice A m.old.length c, .int .i64 m.nw, .slice A2 m.ss.length c2, .slice A3 m.js.length c3] 34).size (.cells #[.int .i64 lo, .int .i64 hi] 49)
  have hT := (Blk.new w 34 #[.slice A m.old.length c, .int .i64 m.nw, .slice A2 m.ss.length c2, .slice A3 m.js.length c3]).alloc (.cells #[.int .i64 lo, .int .i64 hi] 49)
  have hR := Blk.new (w.alloc (.cells #[.slice A m.old.length c, .int .i64 m.nw, .slice A2 m.ss.length c2, .slice A3 m.js.length c3] 34)) 49 #[.int .i64 lo, .int .i64 hi]
  rw [World.size_alloc] at hR
  have KC := hid (checkm_any m A c A2 c2 A3 c3 _ (h.at_ hb0))
  have HS := hid (And.intro hb0 (And.intro hT (And.intro hR (h.at_ hb0))))
  obtain ⟨t0, t1, t2, t3⟩ := hT.c4
  clear hb0 hT hR h
  by_cases hc : chkM m = 0
  · have HC := hid hc
    rw [hc] at KC
    by_cases hr : rngOk lo hi 40000 = true
    · have hx : askE m lo hi = cstM m := by unfold askE; rw [if_pos hc, if_pos hr]
      rw [hx] at he ⊢
      have HR := hid hr
      clear hc hr hx
      have HK := hid (fun W hW => consist_any m A c A2 c2 A3 c3 W (HS.out.2.2.2.at_ hW))
      have hne : (cstM m != 0) = true := by simpa using he
      clear he
      generalize cstM m = z at HK hne ⊢
      go_enter Try.func70, Try.ntmps70
      go_wp2_with fail
      refine KC.out.mono ?_
      rintro e w2 ⟨rfl, hb⟩
      have HB2 := hid hb
      obtain ⟨r0, r1⟩ := (HS.out.2.2.1.keep hb).c2
      clear t0 t1 t2 t3
      obtain ⟨t0, t1, t2, t3⟩ := (HS.out.2.1.keep hb).c4
      clear hb KC
      have KI := hid (binside_any lo hi 40000 w2)
      rw [HR.out] at KI
      go_wp2_with fail
      refine KI.out.mono ?_
      rintro e w3 ⟨rfl, hb⟩
      have HB3 := hid (HB2.out.trans (hb.mono HB2.out.size))
      clear t0 t1 t2 t3 hb KI r0 r1
      obtain ⟨t0, t1, t2, t3⟩ := (HS.out.2.1.keep HB3.out).c4
      have KK := hid (HK.out w3 HB3.out)
      go_wp2_with fail
      refine KK.out.mono ?_
      rintro e w4 ⟨rfl, hb⟩
      have HB4 := hid (HB3.out.trans (hb.mono HB3.out.size))
      clear t0 t1 t2 t3 hb KK
      go_wp2
      go_ret2
      exact ⟨rfl, HS.out.1.trans (HB4.out.mono HS.out.1.size)⟩
    · have hx : askE m lo hi = 2 := by unfold askE; rw [if_pos hc, if_neg hr]
      have hr' : rngOk lo hi 40000 = false := by simpa using hr
      rw [hx]
      have HR := hid hr'
      clear hc hr hx hr' he
      go_enter Try.func70, Try.ntmps70
      go_wp2_with fail
      refine KC.out.mono ?_
      rintro e w2 ⟨rfl, hb⟩
      have HB2 := hid hb
      obtain ⟨r0, r1⟩ := (HS.out.2.2.1.keep hb).c2
      clear hb KC t0 t1 t2 t3
      have KI := hid (binside_any lo hi 40000 w2)
      rw [HR.out] at KI
      go_wp2_with fail
      refine KI.out.mono ?_
      rintro e w3 ⟨rfl, hb⟩
      have HB3 := hid (HB2.out.trans (hb.mono HB2.out.size))
      clear hb KI r0 r1
      go_wp2
      go_ret2
      exact ⟨rfl, HS.out.1.trans (HB3.out.mono HS.out.1.size)⟩
  · have hx : askE m lo hi = chkM m := by unfold askE; rw [if_neg hc]
    have hne : (chkM m != 0) = true := by simpa using hc
    rw [hx]
    clear hx hc he
    generalize chkM m = z at KC hne ⊢
    go_enter Try.func70, Try.ntmps70
    go_wp2_with fail
    refine KC.out.mono ?_
    rintro e w2 ⟨rfl, hb⟩
    have HB2 := hid hb
    clear hb KC t0 t1 t2 t3
    go_wp2
    go_ret2
    exact ⟨rfl, HS.out.1.trans (HB2.out.mono HS.out.1.size)⟩
set_option maxRecDepth 100000 in
set_option maxHeartbeats 2000000 in
theorem asked_ok (m : MapD) (A : Option Addr) (c : Nat) (A2 : Option Addr) (c2 : Nat) (A3 : Option Addr) (c3 : Nat) (lo hi : Int) (w : World) (h : MIn m A c A2 c2 A3 c3 w) (he : askE m lo hi = 0) :
    Calls Try.prog 70 #[.agg #[.slice A m.old.length c, .int .i64 m.nw, .slice A2 m.ss.length c2, .slice A3 m.js.length c3], .agg #[.int .i64 lo, .int .i64 hi]] w fun e w' => ∃ g b, e = .returned (.tuple #[.pointer (some ⟨g, 0, none⟩), .int .i64 0]) ∧ w.heap.size ≤ g ∧ w.heap.size ≤ b ∧ WAt m A c A2 c2 A3 c3 g b w' ∧ Below w.heap.size w w' := by
  have hb0 := (below_box (w := w) #[.slice A m.old.length c, .int .i64 m.nw, .slice A2 m.ss.length c2, .slice A3 m.js.length c3] 34).alloc (below_box (w := w) #[.slice A m.old.length c, .int .i64 m.nw, .slice A2 m.ss.length c2, .slice A3 m.js.length c3] 34).size (.cells #[.int .i64 lo, .int .i64 hi] 49)
  have hT := (Blk.new w 34 #[.slice A m.old.length c, .int .i64 m.nw, .slice A2 m.ss.length c2, .slice A3 m.js.length c3]).alloc (.cells #[.int .i64 lo, .int .i64 hi] 49)
  have hR := Blk.new (w.alloc (.cells #[.slice A m.old.length c, .int .i64 m.nw, .slice A2 m.ss.length c2, .slice A3 m.js.length c3] 34)) 49 #[.int .i64 lo, .int .i64 hi]
  rw [World.size_alloc] at hR
  have KC := hid (checkm_any m A c A2 c2 A3 c3 _ (h.at_ hb0))
  have HS := hid (And.intro hb0 (And.intro hT (And.intro hR (h.at_ hb0))))
  obtain ⟨t0, t1, t2, t3⟩ := hT.c4
  clear hb0 hT hR h
  obtain ⟨hc, hr, hz⟩ := ask_ok he
  rw [hc] at KC
  have HR := hid hr
  have HZ := hid hz
  have OK := hid (chk_okm hc)
  clear hc hr hz he
  have HK := hid (fun W hW => consist_any m A c A2 c2 A3 c3 W (HS.out.2.2.2.at_ hW))
  have HWK := hid (fun W hW => bwork_any m A c A2 c2 A3 c3 W (HS.out.2.2.2.at_ hW) OK.out)
  rw [HZ.out] at HK
  go_enter Try.func70, Try.ntmps70
  go_wp2_with fail
  refine KC.out.mono ?_
  rintro e w2 ⟨rfl, hb⟩
  have HB2 := hid hb
  obtain ⟨r0, r1⟩ := (HS.out.2.2.1.keep hb).c2
  clear t0 t1 t2 t3
  obtain ⟨t0, t1, t2, t3⟩ := (HS.out.2.1.keep hb).c4
  clear hb KC
  have KI := hid (binside_any lo hi 40000 w2)
  rw [HR.out] at KI
  go_wp2_with fail
  refine KI.out.mono ?_
  rintro e w3 ⟨rfl, hb⟩
  have HB3 := hid (HB2.out.trans (hb.mono HB2.out.size))
  clear t0 t1 t2 t3 hb KI r0 r1
  obtain ⟨t0, t1, t2, t3⟩ := (HS.out.2.1.keep HB3.out).c4
  have KK := hid (HK.out w3 HB3.out)
  go_wp2_with fail
  refine KK.out.mono ?_
  rintro e w4 ⟨rfl, hb⟩
  have HB4 := hid (HB3.out.trans (hb.mono HB3.out.size))
  clear t0 t1 t2 t3 hb KK
  obtain ⟨t0, t1, t2, t3⟩ := (HS.out.2.1.keep HB4.out).c4
  have KW := hid (HWK.out w4 HB4.out)
  go_wp2_with fail
  refine KW.out.mono ?_
  rintro e w5 ⟨g, b, rfl, h1, h2, h3, hb⟩
  have hb5 := HS.out.1.trans ((HB4.out.trans (hb.mono HB4.out.size)).mono HS.out.1.size)
  have hs5 := HS.out.1.size
  have hs6 := HB4.out.size
  have HF := hid (show w.heap.size ≤ g ∧ w.heap.size ≤ b ∧ WAt m A c A2 c2 A3 c3 g b w5 ∧ Below w.heap.size w w5 from ⟨by omega, by omega, h3, hb5⟩)
  clear t0 t1 t2 t3 hb KW h1 h2 h3 hb5 hs5 hs6
  go_wp2
  go_ret2
  exact ⟨g, b, rfl, HF.out⟩

/-- borders as a list -/
def lst (m : MapD) (l : Nat → Int) : List Int := (List.range m.ss.length).map l
theorem lst_len (m : MapD) (l : Nat → Int) : (lst m l).length = m.ss.length := by simp [lst]
theorem lst_get {m : MapD} {l : Nat → Int} {i : Nat} (h : i < m.ss.length) : (lst m l)[i]? = some (l i) := by simp [lst, h]
theorem lst_congr {m : MapD} {l l' : Nat → Int} (h : ∀ i, i < m.ss.length → l i = l' i) : lst m l = lst m l' := by
  unfold lst
  exact List.map_congr_left fun i hi => h i (List.mem_range.1 hi)
set_option maxRecDepth 100000 in
set_option maxHeartbeats 2000000 in
theorem blist_any (m : MapD) (A : Option Addr) (c : Nat) (A2 : Option Addr) (c2 : Nat) (A3 : Option Addr) (c3 : Nat) (g b : Nat) (l : Nat → Int) (w : World) (hw : WAt m A c A2 c2 A3 c3 g b w) (h8 : m.ss.length ≤ 8) :
    Calls Try.prog 73 #[.pointer (some ⟨g, 0, none⟩), .agg (liC l)] w (GivesInts (lst m l) w) := by
  have hb0 := below_box (w := w) (liC l) 103
  have hl0 := Blk.new w 103 (liC l)
  have hw0 := hw.keep hb0
  obtain ⟨t0, t1, t2, t3, t4⟩ := hw0.blk.c5
  have KC := clone_any (some ⟨w.heap.size, 0, none⟩) 8 (lst m l) (w.alloc (.cells (liC l) 103)) (fun k x hk => by
    have hk' : k < m.ss.length := by have := (List.getElem?_eq_some_iff.1 hk).1; rwa [lst_len] at this
    rw [lst_get hk'] at hk
    cases hk
    refine ⟨_, rfl, by simp, ?_⟩
    rw [add_blk, hl0.cell, liC_get l (by omega)]) (fun e => by cases e) (by rw [lst_len]; omega)
  rw [lst_len] at KC
  have KC := hid KC
  have HS := hid hb0
  have h8I : (m.ss.length : Int) ≤ 8 := by omega
  clear hw hb0 hl0 hw0
  go_enter Try.func73, Try.ntmps73
  go_wp2_with fail
  refine KC.out.mono ?_
  rintro e w2 ⟨A5, c5, rfl, q1, q2, q3, q4, q5, hb⟩
  have HF := hid (show GivesInts (lst m l) w (.returned (.slice A5 (lst m l).length c5)) w2 from ⟨A5, c5, rfl, q1, q2, q3, fun a e => by obtain ⟨x1, x2⟩ := q4 a e; rw [World.size_alloc] at x1; exact ⟨by omega, x2⟩, q5, HS.out.trans (hb.mono HS.out.size)⟩)
  clear t0 t1 t2 t3 t4 q1 q2 q3 q4 q5 hb KC
  go_wp2
  go_ret
  exact HF.out

/-- the new districts that are not connected -/
def apTo (m : MapD) (k : Nat) : List Int := ((List.range k).filter fun d : Nat => !conB m (ownL m) (d : Int)).map fun d : Nat => (d : Int)
def apL (m : MapD) : List Int := apTo m m.nw.toNat
theorem apTo_in {m : MapD} {k : Nat} (h : conB m (ownL m) (k : Int) = false) : apTo m (k + 1) = apTo m k ++ [(k : Int)] := by simp [apTo, List.range_succ, h]
theorem apTo_out {m : MapD} {k : Nat} (h : conB m (ownL m) (k : Int) = true) : apTo m (k + 1) = apTo m k := by simp [apTo, List.range_succ, h]
theorem apTo_len (m : MapD) (k : Nat) : (apTo m k).length ≤ k := by
  have := List.length_filter_le (fun d : Nat => !conB m (ownL m) (d : Int)) (List.range k)
  simp [apTo] at this ⊢
  exact this
set_option maxRecDepth 100000 in
set_option maxHeartbeats 2000000 in
theorem apart_any (m : MapD) (A : Option Addr) (c : Nat) (A2 : Option Addr) (c2 : Nat) (A3 : Option Addr) (c3 : Nat) (w : World) (h : MIn m A c A2 c2 A3 c3 w) :
    Calls Try.prog 32 #[.agg #[.slice A m.old.length c, .int .i64 m.nw, .slice A2 m.ss.length c2, .slice A3 m.js.length c3]] w fun e w' => if chkM m ≠ 0 then e = .returned (.tuple #[.slice none 0 0, .int .i64 (chkM m)]) ∧ Below w.heap.size w w' else ∃ A c, e = .returned (.tuple #[.slice A (apL m).length c, .int .i64 0]) ∧ IsInts w' w'.heap.size A (apL m) ∧ (apL m).length ≤ c ∧ c ≤ maxLen ∧ Below w.heap.size w w' := by
  have hB := below_box (w := w) #[.slice A m.old.length c, .int .i64 m.nw, .slice A2 m.ss.length c2, .slice A3 m.js.length c3] 34
  have hT := Blk.new w 34 #[.slice A m.old.length c, .int .i64 m.nw, .slice A2 m.ss.length c2, .slice A3 m.js.length c3]
  obtain ⟨t0, t1, t2, t3⟩ := hT.c4
  have HH := hid (h.at_ hB)
  have HB := hid hB
  have HT := hid hT
  have KC := hid (checkm_any m A c A2 c2 A3 c3 _ (h.at_ hB))
  clear h hB hT
  by_cases hc : chkM m = 0
  · simp only [hc, ne_eq, not_true_eq_false, if_false]
    rw [hc] at KC
    have OK := hid (chk_okm hc)
    have hs8 := OK.out.s8
    have hn1 := OK.out.n1
    have hn4 := OK.out.n4
    obtain ⟨N, hN⟩ : ∃ N, m.nw.toNat = N := ⟨_, rfl⟩
    have hNI : m.nw = (N : Int) := by omega
    have HN := hid (And.intro hN hNI)
    have hN4 : N ≤ 4 := by omega
    clear hc hN hn1 hn4 hNI
    go_enter Try.func32, Try.ntmps32
    go_wp2_with fail
    refine KC.out.mono ?_
    rintro e w2 ⟨rfl, hb⟩
    have HB2 := hid (HB.out.trans (hb.mono HB.out.size))
    have HT2 := hid (HT.out.keep hb)
    have HH2 := hid (HH.out.at_ hb)
    have KW := hid (bwork_any m A c A2 c2 A3 c3 w2 HH2.out OK.out)
    clear t0 t1 t2 t3 hb KC
    obtain ⟨t0, t1, t2, t3⟩ := HT2.out.c4
    go_wp2_with fail
    refine KW.out.mono ?_
    rintro e w3 ⟨g, b, rfl, _, _, h3, hb⟩
    have HB3 := hid (HB2.out.trans (hb.mono HB2.out.size))
    have HT3 := hid (HT2.out.keep hb)
    have HH3 := hid (HH2.out.at_ hb)
    have HW3 := hid h3
    clear t0 t1 t2 t3 hb KW h3
    obtain ⟨t0, t1, t2, t3⟩ := HT3.out.c4
    rw [HN.out.2] at t1
    go_wp2
    clear t0 t1 t2 t3
    go_loopw [6, 17] (fun v i W => ∃ k : Nat, k ≤ N ∧ i = .int .i64 k ∧ W.ownsRow w3.heap.size 3 1 v (apTo m k).length ((apTo m k).map (Value.int .i64)) ∧ Below w3.heap.size w3 W) (fun _ i _ => N - (intOf i).toNat)
    case atStart => exact ⟨0, Nat.zero_le _, rfl, ⟨rfl, .inl ⟨rfl, rfl⟩⟩, Below.refl _ _⟩
    case round =>
      obtain ⟨k, hk, rfl, ho, hbr⟩ := hrel
      have HR := hid (And.intro ho hbr)
      clear ho hbr
      by_cases hlt : k < N
      · have hkI : (k : Int) < (N : Int) := by omega
        obtain ⟨t0, t1, t2, t3⟩ := (HT3.out.keep HR.out.2).c4
        have hml := apTo_len m k
        have hsz := HR.out.2.size
        have KO := hid (bown_any m A c A2 c2 A3 c3 wr (HH3.out.at_ HR.out.2) hs8)
        go_wp2_with fail
        refine KO.out.mono ?_
        rintro e w4 ⟨rfl, hb⟩
        have KN := connected_any m A c A2 c2 A3 c3 g b (ownL m) (k : Int) w4 (HW3.out.keep (HR.out.2.trans (hb.mono HR.out.2.size))) OK.out
        have HB4 := hid hb
        clear t0 t1 t2 t3 hb KO
        cases hcb : conB m (ownL m) (k : Int)
        · have HST := hid (apTo_in hcb)
          rw [hcb] at KN
          have KN := hid KN
          clear hcb
          go_wp2_with fail
          refine KN.out.mono ?_
          rintro e w5 ⟨rfl, hb⟩
          have hb5 := HB4.out.trans (hb.mono HB4.out.size)
          have ho5 := row_kept (vo := .slice none 0 0) HR.out.1 (grown_of_below hb5 _) (.inl rfl)
          have HB5 := hid (HR.out.2.trans (hb5.mono HR.out.2.size))
          have hs5 := HB5.out.size
          have HO := hid (ho5.alloc (.cells #[.int .i64 (k : Int)] 3))
          obtain ⟨i0, hi0, hz0, hz1, hz2⟩ := info_parts int_info
          clear hb hb5 ho5 KN
          go_wp2_with (at_builtin; refine wpList_append_own_at _ rfl _ _ 22 rfl w3.heap.size 3 i0 (.int .i64 0) 1 8 Try.underlying22 hi0 hz0 hz1 hz2 rfl (by decide) u6 _ _ rfl HO.out ⟨w5.heap.size, 0, none⟩ 1 1 [.int .i64 (k : Int)] rfl rfl (by intro q u hq; cases q with | zero => simp at hq; subst hq; exact (World.cell?_alloc_new _ _ _ _) | succ q => simp at hq) (by intro u hu; simp at hu; subst hu; rfl) (by simp only [maxLen]; omega) (by omega) (by simp; omega) ?_; intro vo' w6 hown' hgrow _ hfr; have HNX := hid (show w6.ownsRow w3.heap.size 3 1 vo' (apTo m (k + 1)).length ((apTo m (k + 1)).map (Value.int .i64)) ∧ Below w3.heap.size w3 w6 from ⟨by rw [HST.out, List.length_append, List.map_append]; exact hown', below_row' (HB5.out.trans ((below_box _ _).mono HB5.out.size)) HO.out (Nat.le_refl _) hgrow (by simp; omega)⟩); clear hown' hgrow hfr)
          go_roundw
          case rel => exact ⟨k + 1, by omega, by go_num, HNX.out⟩
          case measure => first | (simp [intOf]; done) | (simp [intOf]; omega)
        · have HST := hid (apTo_out hcb)
          rw [hcb] at KN
          have KN := hid KN
          clear hcb
          go_wp2_with fail
          refine KN.out.mono ?_
          rintro e w5 ⟨rfl, hb⟩
          have hb5 := HB4.out.trans (hb.mono HB4.out.size)
          have HNX := hid (show w5.ownsRow w3.heap.size 3 1 u6 (apTo m (k + 1)).length ((apTo m (k + 1)).map (Value.int .i64)) ∧ Below w3.heap.size w3 w5 from ⟨by rw [HST.out]; exact row_kept (vo := .slice none 0 0) HR.out.1 (grown_of_below hb5 _) (.inl rfl), HR.out.2.trans (hb5.mono HR.out.2.size)⟩)
          clear hb hb5 KN
          go_wp2
          go_roundw
          case rel => exact ⟨k + 1, by omega, by go_num, HNX.out⟩
          case measure => first | (simp [intOf]; done) | (simp [intOf]; omega)
      · have hkI : decide ((k : Int) < (N : Int)) = false := by simp; omega
        obtain rfl : k = N := by omega
        obtain ⟨A7, c7, e7, r1, r2, r3, _, _⟩ := own_ints rfl HR.out.1
        have hol : apL m = apTo m k := by unfold apL; rw [HN.out.1]
        subst e7
        have HFIN := hid (show ∃ A c, Ending.returned (.tuple #[.slice A7 (apTo m k).length c7, .int .i64 0]) = .returned (.tuple #[.slice A (apL m).length c, .int .i64 0]) ∧ IsInts wr wr.heap.size A (apL m) ∧ (apL m).length ≤ c ∧ c ≤ maxLen ∧ Below w.heap.size w wr from ⟨A7, c7, by rw [hol], by rw [hol]; exact r3, by rw [hol]; exact r1, r2, HB3.out.trans (HR.out.2.mono HB3.out.size)⟩)
        clear r1 r2 r3 hol HR
        go_wp2
        go_ret2
        exact HFIN.out
  · have hne : (chkM m != 0) = true := by simp [hc]
    simp only [ne_eq, hc, not_false_eq_true, if_true]
    obtain ⟨z, hz⟩ : ∃ z, chkM m = z := ⟨_, rfl⟩
    rw [hz] at KC hne ⊢
    clear hc hz
    go_enter Try.func32, Try.ntmps32
    go_wp2_with fail
    refine KC.out.mono ?_
    rintro e wc ⟨rfl, hb⟩
    have HBC := hid (HB.out.trans (hb.mono HB.out.size))
    clear hb KC t0 t1 t2 t3
    go_wp2
    go_ret2
    exact ⟨rfl, HBC.out⟩
end Go.Proofs.Ytoeabajigfdkaaa
