/- The walks and the plain laws of this part of the program, part 7: what each computes. Conditions stand at each theorem. -/
import Derived.RangeFuncBox
import Derived.StillTailTactics
import Derived.Deep.OwnRows
import Derived.Test.YtlnamjhgbdacbaaGreatG1
import Derived.Test.YtlnamjhgbdacbaaGreatG2
import Derived.Test.YtlnamjhgbdacbaaGreatG5
import Derived.Test.YtlnamjhgbdacbaaGreatG6
/- The order of Divide's parts: the sort, walked. -/
namespace Go.Proofs.YtlnamjhgbdacbaaGreat
open Go.RowKit

theorem grown_put (W : World) (p : Addr) (u : Value) : W.grownBy (W.setCell p u) (some p.block) := ⟨rfl, rfl, rfl, by simp, fun k _ hn => Below.heap_setCell W p u k (fun e => hn (by rw [e]))⟩
/-- an element moves to the front while its key is greater -/
def sink (key : Nat → Int) : Nat → List Nat → List Nat
  | 0, l => l
  | j + 1, l => if key (l.getD j 0) < key (l.getD (j + 1) 0) then sink key j ((l.set (j + 1) (l.getD j 0)).set j (l.getD (j + 1) 0)) else l
def insTo (key : Nat → Int) (l : List Nat) : Nat → List Nat
  | 0 => l
  | i + 1 => sink key i (insTo key l i)
theorem sink_len (key : Nat → Int) : ∀ (j : Nat) (l : List Nat), (sink key j l).length = l.length
  | 0, _ => rfl
  | j + 1, l => by
    unfold sink
    split
    · rw [sink_len key j]; simp
    · rfl
theorem insTo_len (key : Nat → Int) (l : List Nat) : ∀ i, (insTo key l i).length = l.length
  | 0 => rfl
  | i + 1 => by rw [insTo, sink_len, insTo_len key l i]
theorem sink_all {P : Nat → Prop} (key : Nat → Int) : ∀ (j : Nat) (l : List Nat), j < l.length → (∀ x ∈ l, P x) → ∀ x ∈ sink key j l, P x
  | 0, _, _, h => h
  | j + 1, l, hj, h => by
    unfold sink
    split
    · refine sink_all key j _ (by simp; omega) fun x hx => ?_
      have g : ∀ i, i < l.length → P (l.getD i 0) := fun i hi => by
        rw [show l.getD i 0 = l[i] by simp [List.getD, List.getElem?_eq_getElem hi]]
        exact h _ (List.getElem_mem hi)
      rcases List.mem_or_eq_of_mem_set hx with hx | rfl
      · rcases List.mem_or_eq_of_mem_set hx with hx | rfl
        · exact h x hx
        · exact g j (by omega)
      · exact g (j + 1) hj
    · exact h
theorem insTo_all {P : Nat → Prop} (key : Nat → Int) (l : List Nat) (h : ∀ x ∈ l, P x) : ∀ i, i ≤ l.length → ∀ x ∈ insTo key l i, P x
  | 0, _ => h
  | i + 1, hi => sink_all key i _ (by rw [insTo_len]; omega) (insTo_all key l h i (by omega))

/-- an array that begins with these numbers -/
def NB (W : World) (g m : Nat) (l : List Nat) : Prop := LB W g m (l.map Int.ofNat)
section
variable {W W' : World} {g m : Nat} {l : List Nat}
theorem NB.cell (h : NB W g m l) {k x : Nat} (hk : l[k]? = some x) : W.cell? ⟨g, k, none⟩ = some (.int .i64 (x : Int)) := by
  obtain ⟨arr, hb, hs, hc⟩ := h
  rw [cell_of_row W g k arr 3 (0, 0) hb]
  exact hc k x (by rw [List.getElem?_map, hk]; rfl)
theorem NB.lt (h : NB W g m l) : g < W.heap.size := LB.lt h
theorem NB.frozen (h : NB W g m l) (k : Nat) : W.frozen? ⟨g, k, none⟩ = false := by
  obtain ⟨arr, hb, hs, hc⟩ := h
  exact Blk.frozen (t := 3) (cs := arr) hb k
theorem NB.set_ (h : NB W g m l) (k x : Nat) : NB (W.setCell ⟨g, k, none⟩ (.int .i64 (x : Int))) g m (l.set k x) := by
  obtain ⟨arr, hb, hs, hc⟩ := h
  refine ⟨_, Blk.set_ (t := 3) (cs := arr) hb k _, by simpa using hs, fun j y hj => ?_⟩
  rw [List.getElem?_map, List.getElem?_set] at hj
  rw [Array.getElem?_setIfInBounds]
  by_cases e : k = j
  · rw [if_pos e] at hj ⊢
    split at hj
    · rename_i hl
      simp at hj
      have := hc j l[j] (by simp [List.getElem?_eq_getElem (show j < l.length by omega)])
      have := (Array.getElem?_eq_some_iff.1 this).1
      rw [if_pos (by omega), hj]
    · cases hj
  · rw [if_neg e] at hj ⊢
    exact hc j y (by rw [List.getElem?_map]; exact hj)
theorem NB.below (h : NB W g m l) (hb : Below W.heap.size W W') : NB W' g m l := LB.below h hb
end
def InsPh (g m : Nat) (l l' : List Nat) (li : Array Bool) (W : World) : Prop := NB W g m (if li.getD 15 false = true then l' else l)
theorem insPh_other {g m i : Nat} {l l' : List Nat} {li : Array Bool} {W : World} (h : InsPh g m l l' li W) (hi : i ≠ 15) : InsPh g m l l' (li.setIfInBounds i true) W := by unfold InsPh; rw [getD_set_oth hi]; exact h

/-- the sorted array -/
def GivesSort (g m : Nat) (l : List Nat) (w : World) (e : Ending) (w' : World) : Prop := (∃ v, e = .returned v) ∧ NB w' g m l ∧ w.grownBy w' (some g)

set_option maxRecDepth 100000 in
set_option maxHeartbeats 4000000 in
theorem ins_any {g m cap : Nat} (key : Nat → Int) (l : List Nat) (Bc : Nat) (w : World) (h : NB w g m l) (hl : l.length ≤ 100) (hl1 : 1 ≤ l.length) (hx : ∀ x ∈ l, x < l.length)
    (hcmp : ∀ (x y : Nat) (W : World), x < l.length → y < l.length → w.grownBy W (some g) → Calls Tryz.prog 86 #[.int .i64 (x : Int), .int .i64 (y : Int), .pointer (some ⟨Bc, 0, none⟩)] W fun e W' => e = .returned (.int .i64 (key y - key x)) ∧ Below W.heap.size W W') :
    Calls Tryz.prog 124 #[.slice (some ⟨g, 0, none⟩) l.length cap, .int .i64 0, .int .i64 (l.length : Int), .func (.func 86) #[] #[.pointer (some ⟨Bc, 0, none⟩)]] w (GivesSort g m (insTo key l l.length) w) := by
  have H0 := hid (show NB w g m (insTo key l 1) ∧ w.grownBy w (some g) from ⟨h, rfl, rfl, rfl, Nat.le_refl _, fun _ _ _ => rfl⟩)
  have HC := hid hcmp
  have HX := hid hx
  clear h hcmp hx
  go_enter Tryz.func124, Tryz.ntmps124
  go_wp2
  go_loopw [8] (fun i wr => ∃ k : Nat, 1 ≤ k ∧ k ≤ l.length ∧ i = .int .i64 k ∧ NB wr g m (insTo key l k) ∧ w.grownBy wr (some g)) (fun i _ => l.length - (intOf i).toNat)
  case atStart => exact ⟨1, Nat.le_refl _, by omega, rfl, H0.out⟩
  case round =>
    obtain ⟨k, hk1, hk, rfl, hn, hg⟩ := hrel
    clear H0
    by_cases hlt : k < l.length
    · have hkI : (k : Int) < (l.length : Int) := by omega
      have HN := hid (And.intro hn hg)
      clear hn hg
      go_wp2
      obtain ⟨wo, rfl⟩ : ∃ wo : World, wo = wr := ⟨_, rfl⟩
      go_loopw [9] (fun i wr => ∃ (j : Nat) (s : List Nat), j ≤ k ∧ i = .int .i64 j ∧ s.length = l.length ∧ (∀ x ∈ s, x < l.length) ∧ sink key j s = insTo key l (k + 1) ∧ NB wr g m s ∧ w.grownBy wr (some g)) (fun i _ => (intOf i).toNat)
      case atStart => exact ⟨k, insTo key l k, Nat.le_refl _, rfl, insTo_len _ _ _, insTo_all key l HX.out k hk, rfl, HN.out.1, HN.out.2⟩
      case round =>
        obtain ⟨j, s, hj, rfl, hs1, hs2, hs3, hnb, hgr⟩ := hrel
        have HS := hid (And.intro hs1 (And.intro hs2 (And.intro hs3 (And.intro hnb hgr))))
        cases j with
        | zero =>
          clear hs1 hs2 hs3 hnb hgr
          go_wp2
          refine wp_region_quiet_xt (by kernel_rfl) (by kernel_rfl) ?_
          repeat (go_big_quiet_step (fail))
          refine wpQuiet_nil ?_
          intro W2 hw2
          replace hw2 := of_xt hw2
          obtain ⟨hs1, hs2, hs3, hnb, hgr⟩ := HS.out
          have HF := hid (show NB W2 g m (insTo key l (k + 1)) ∧ w.grownBy W2 (some g) from ⟨by rw [← hs3]; exact hnb.below hw2, grown_same hgr (grown_of_below hw2 _)⟩)
          clear hs1 hs2 hs3 hnb hgr hw2
          go_wp2
          go_roundw
          case rel => exact ⟨k + 1, by omega, by omega, by go_num, HF.out⟩
          case measure => first | (simp [intOf]; done) | (simp [intOf]; omega)
        | succ j =>
          have hjl : j + 1 < l.length := by omega
          obtain ⟨x, hsj⟩ : ∃ x, s[j]? = some x := ⟨_, List.getElem?_eq_getElem (by omega)⟩
          obtain ⟨y, hsj1⟩ : ∃ y, s[j + 1]? = some y := ⟨_, List.getElem?_eq_getElem (by omega)⟩
          have hxl := hs2 x (List.mem_of_getElem? hsj)
          have hyl := hs2 y (List.mem_of_getElem? hsj1)
          have q1 := xt_cell (hnb.cell hsj)
          have q2 := xt_cell (hnb.cell hsj1)
          have HJ := hid (And.intro hsj hsj1)
          have hj0 : (0 : Int) < (j : Int) + 1 := by omega
          have hjI : (j : Int) + 1 < (l.length : Int) := by omega
          have hjI2 : (j : Int) < (l.length : Int) := by omega
          have hcall := hid (fun q => HC.out y x (xt wr q) hyl hxl (grown_same hgr (grown_of_below (below_xt wr q) _)))
          clear hs1 hs2 hs3 hnb hgr hsj hsj1
          rw [show ((j + 1 : Nat) : Int) = (j : Int) + 1 by omega]
          go_wp2
          refine wp_region_quiet_xt (by kernel_rfl) (by kernel_rfl) ?_
          repeat (go_big_quiet_step ((go_at_call 86; exact Calls.xt (hcall.out _))))
          refine wpQuiet_nil ?_
          intro W2 hw2
          replace hw2 := of_xt hw2
          have HW := hid hw2
          clear hw2 q1 q2 hcall
          by_cases hlt2 : key x < key y
          · have hd : decide (key x - key y < 0) = true := by simp; omega
            have HK := hid hlt2
            simp only [hd]
            clear hlt2 hd
            go_wp2
            have HP := hid (show NB W2 g m s ∧ w.grownBy W2 (some g) from ⟨HS.out.2.2.2.1.below HW.out, grown_same HS.out.2.2.2.2 (grown_of_below HW.out _)⟩)
            obtain ⟨hsj, hsj1⟩ := HJ.out
            have hjI : (j : Int) + 1 < (l.length : Int) := by omega
            have hjI2 : (j : Int) < (l.length : Int) := by omega
            refine (wpIn_wide (n := 0)).1 ?_
            refine wpIn_region_each 16 (fun i v _ => match i with | 0 => v = .slice (some ⟨g, 0, none⟩) l.length cap | 1 => v = .int .i64 ((j : Int) + 1) | 2 => v = .slice (some ⟨g, 0, none⟩) l.length cap | 3 => v = .int .i64 ((j : Int) + 1) | 4 => v = .int .i64 (j : Int) | 5 => v = .slice (some ⟨g, 0, none⟩) l.length cap | 6 => v = .int .i64 ((j : Int) + 1) | 7 => v = .int .i64 (j : Int) | 8 => v = .pointer (some ⟨g, j, none⟩) | 9 => v = .int .i64 (x : Int) | 10 => v = .slice (some ⟨g, 0, none⟩) l.length cap | 11 => v = .int .i64 ((j : Int) + 1) | 12 => v = .pointer (some ⟨g, j + 1, none⟩) | 13 => v = .int .i64 (y : Int) | 14 => v = .pointer (some ⟨g, j + 1, none⟩) | _ => True) (fun A B => A.grownBy B (some g)) (InsPh g m s (s.set (j + 1) x)) (by kernel_rfl) (by kernel_rfl) ?_ (fun h k => grown_same h k) ⟨rfl, rfl, rfl, Nat.le_refl _, fun _ _ _ => rfl⟩ (by unfold InsPh; rw [getD_replicate_false, if_neg (by decide)]; exact HP.out.1) (by kernel_rfl) ?_ ?_
            · intro i v _ _ _ h; exact h
            · refine ⟨?_, ?_, ?_, ?_, ?_, ?_, ?_, ?_, ?_, ?_, ?_, ?_, ?_, ?_, ?_, ?_, trivial⟩
              · -- 0
                intro li a1 W2 hA K hK
                have e0 := hA.par 0 (by kernel_rfl)
                refine opStep none 0 rfl rfl (fun c hc => by cases hc) ?_
                go_simp
                exact hK _ _ rfl (grown_of_below (Below.refl _ _) _) (insPh_other hA.ph (by decide))
              · -- 1
                intro li a1 W2 hA K hK
                have e9 := hA.par 9 (by kernel_rfl)
                refine opStep none 0 rfl rfl (fun c hc => by cases hc) ?_
                go_simp
                exact hK _ _ rfl (grown_of_below (Below.refl _ _) _) (insPh_other hA.ph (by decide))
              · -- 2
                intro li a1 W2 hA K hK
                have e0 := hA.par 0 (by kernel_rfl)
                refine opStep none 0 rfl rfl (fun c hc => by cases hc) ?_
                go_simp
                exact hK _ _ rfl (grown_of_below (Below.refl _ _) _) (insPh_other hA.ph (by decide))
              · -- 3
                intro li a1 W2 hA K hK
                have e9 := hA.par 9 (by kernel_rfl)
                refine opStep none 0 rfl rfl (fun c hc => by cases hc) ?_
                go_simp
                exact hK _ _ rfl (grown_of_below (Below.refl _ _) _) (insPh_other hA.ph (by decide))
              · -- 4
                intro li a1 W2 hA K hK
                have e40 : a1.tmps.getD 40 undef = .int .i64 ((j : Int) + 1) := hA.val 3 40 (by kernel_rfl) (by kernel_rfl)
                have hw : IntKind.i64.wrap (j : Int) = (j : Int) := by rw [IntKind.wrap_i64]; omega
                refine opStep none 0 rfl rfl (fun c hc => by cases hc) ?_
                go_simp
                exact hK _ _ (by first | rfl | exact congrArg (Value.int .i64) hw | exact congrArg (Value.int .i64) (by omega)) (grown_of_below (Below.refl _ _) _) (insPh_other hA.ph (by decide))
              · -- 5
                intro li a1 W2 hA K hK
                have e0 := hA.par 0 (by kernel_rfl)
                refine opStep none 0 rfl rfl (fun c hc => by cases hc) ?_
                go_simp
                exact hK _ _ rfl (grown_of_below (Below.refl _ _) _) (insPh_other hA.ph (by decide))
              · -- 6
                intro li a1 W2 hA K hK
                have e9 := hA.par 9 (by kernel_rfl)
                refine opStep none 0 rfl rfl (fun c hc => by cases hc) ?_
                go_simp
                exact hK _ _ rfl (grown_of_below (Below.refl _ _) _) (insPh_other hA.ph (by decide))
              · -- 7
                intro li a1 W2 hA K hK
                have e43 : a1.tmps.getD 43 undef = .int .i64 ((j : Int) + 1) := hA.val 6 43 (by kernel_rfl) (by kernel_rfl)
                have hw : IntKind.i64.wrap (j : Int) = (j : Int) := by rw [IntKind.wrap_i64]; omega
                refine opStep none 0 rfl rfl (fun c hc => by cases hc) ?_
                go_simp
                exact hK _ _ (by first | rfl | exact congrArg (Value.int .i64) hw | exact congrArg (Value.int .i64) (by omega)) (grown_of_below (Below.refl _ _) _) (insPh_other hA.ph (by decide))
              · -- 8
                intro li a1 W2 hA K hK
                have e42 : a1.tmps.getD 42 undef = .slice (some ⟨g, 0, none⟩) l.length cap := hA.val 5 42 (by kernel_rfl) (by kernel_rfl)
                have e44 : a1.tmps.getD 44 undef = .int .i64 (j : Int) := hA.val 7 44 (by kernel_rfl) (by kernel_rfl)
                refine opStep none 0 rfl rfl (fun c hc => by cases hc) ?_
                go_simp
                exact hK _ _ rfl (grown_of_below (Below.refl _ _) _) (insPh_other hA.ph (by decide))
              · -- 9
                intro li a1 W2 hA K hK
                have e45 : a1.tmps.getD 45 undef = .pointer (some ⟨g, j, none⟩) := hA.val 8 45 (by kernel_rfl) (by kernel_rfl)
                have hnl : li.getD 15 false = false := by
                  cases hl' : li.getD 15 false
                  · rfl
                  · have := hA.past hl' 9 (by kernel_rfl); rw [hA.new] at this; cases this
                have hb2 : NB W2 g m s := by have := hA.ph; unfold InsPh at this; rwa [hnl, if_neg (by decide)] at this
                have q1 := hb2.cell hsj
                refine opStep none 0 rfl rfl (fun c hc => by cases hc) ?_
                go_simp
                exact hK _ _ rfl (grown_of_below (Below.refl _ _) _) (insPh_other hA.ph (by decide))
              · -- 10
                intro li a1 W2 hA K hK
                have e0 := hA.par 0 (by kernel_rfl)
                refine opStep none 0 rfl rfl (fun c hc => by cases hc) ?_
                go_simp
                exact hK _ _ rfl (grown_of_below (Below.refl _ _) _) (insPh_other hA.ph (by decide))
              · -- 11
                intro li a1 W2 hA K hK
                have e9 := hA.par 9 (by kernel_rfl)
                refine opStep none 0 rfl rfl (fun c hc => by cases hc) ?_
                go_simp
                exact hK _ _ rfl (grown_of_below (Below.refl _ _) _) (insPh_other hA.ph (by decide))
              · -- 12
                intro li a1 W2 hA K hK
                have e47 : a1.tmps.getD 47 undef = .slice (some ⟨g, 0, none⟩) l.length cap := hA.val 10 47 (by kernel_rfl) (by kernel_rfl)
                have e48 : a1.tmps.getD 48 undef = .int .i64 ((j : Int) + 1) := hA.val 11 48 (by kernel_rfl) (by kernel_rfl)
                refine opStep none 0 rfl rfl (fun c hc => by cases hc) ?_
                go_simp
                exact hK _ _ rfl (grown_of_below (Below.refl _ _) _) (insPh_other hA.ph (by decide))
              · -- 13
                intro li a1 W2 hA K hK
                have e49 : a1.tmps.getD 49 undef = .pointer (some ⟨g, j + 1, none⟩) := hA.val 12 49 (by kernel_rfl) (by kernel_rfl)
                have hnl : li.getD 15 false = false := by
                  cases hl' : li.getD 15 false
                  · rfl
                  · have := hA.past hl' 13 (by kernel_rfl); rw [hA.new] at this; cases this
                have hb2 : NB W2 g m s := by have := hA.ph; unfold InsPh at this; rwa [hnl, if_neg (by decide)] at this
                have q1 := hb2.cell hsj1
                refine opStep none 0 rfl rfl (fun c hc => by cases hc) ?_
                go_simp
                exact hK _ _ rfl (grown_of_below (Below.refl _ _) _) (insPh_other hA.ph (by decide))
              · -- 14
                intro li a1 W2 hA K hK
                have e37 : a1.tmps.getD 37 undef = .slice (some ⟨g, 0, none⟩) l.length cap := hA.val 0 37 (by kernel_rfl) (by kernel_rfl)
                have e38 : a1.tmps.getD 38 undef = .int .i64 ((j : Int) + 1) := hA.val 1 38 (by kernel_rfl) (by kernel_rfl)
                refine opStep none 0 rfl rfl (fun c hc => by cases hc) ?_
                go_simp
                exact hK _ _ rfl (grown_of_below (Below.refl _ _) _) (insPh_other hA.ph (by decide))
              · -- 15
                intro li a1 W2 hA K hK
                have e51 : a1.tmps.getD 51 undef = .pointer (some ⟨g, j + 1, none⟩) := hA.val 14 51 (by kernel_rfl) (by kernel_rfl)
                have e46 : a1.tmps.getD 46 undef = .int .i64 (x : Int) := hA.val 9 46 (by kernel_rfl) (by kernel_rfl)
                have hb2 : NB W2 g m s := by have := hA.ph; unfold InsPh at this; rwa [hA.new, if_neg (by decide)] at this
                have q1 := hb2.cell hsj1
                have q2 := hb2.frozen (j + 1)
                have q3 := hb2.lt
                refine opStep none 0 rfl rfl (fun c hc => by cases hc) ?_
                go_simp
                exact hK undef _ trivial (grown_put W2 ⟨g, j + 1, none⟩ _) (by unfold InsPh; rw [getD_set_eq (by rw [hA.lsize]; decide), if_pos rfl]; exact hb2.set_ (j + 1) x)
            · intro li a1 W3 hD
              have e39 : a1.tmps.getD 39 undef = .slice (some ⟨g, 0, none⟩) l.length cap := hD.val 2 39 (by kernel_rfl) (by kernel_rfl)
              have e41 : a1.tmps.getD 41 undef = .int .i64 (j : Int) := hD.val 4 41 (by kernel_rfl) (by kernel_rfl)
              have e50 : a1.tmps.getD 50 undef = .int .i64 (y : Int) := hD.val 13 50 (by kernel_rfl) (by kernel_rfl)
              have hb2 : NB W3 g m (s.set (j + 1) x) := by have := hD.ph; unfold InsPh at this; rwa [hD.all 15 (by decide), if_pos rfl] at this
              have hgr := grown_same HP.out.2 hD.st
              have hkp := hD.keeps (ds := [37, 38, 39, 40, 41, 42, 43, 44, 45, 46, 47, 48, 49, 50, 51, 52]) (by kernel_rfl)
              have hds := hD.size
              have hs53 : a1.tmps.size = 53 := hD.size
              have hdd := hD.defers
              clear hD
              refine tail_val (i := 16) (v := .pointer (some ⟨g, j, none⟩)) (W' := W3) none 0 rfl rfl rfl (fun c hc => by cases hc) (by go_simp) (by rw [hs53]; decide) ?_
              intro a2 s2 d2 f2 o2
              have hkp2 := keeps_then hkp o2 (by decide)
              have e50' := (o2 50 (by decide)).trans e50
              have q1 := hb2.cell (k := j) (x := x) (by rw [List.getElem?_set_ne (by omega)]; exact hsj)
              have q2 := hb2.frozen j
              have q3 := hb2.lt
              refine tail_store (i := 17) (W' := W3.setCell ⟨g, j, none⟩ (.int .i64 (y : Int))) none 0 rfl rfl rfl (fun c hc => by cases hc) (by go_simp) ?_
              have hb3 := hb2.set_ j y
              have hgj : s.getD j 0 = x := by simp [List.getD, hsj]
              have hgj1 : s.getD (j + 1) 0 = y := by simp [List.getD, hsj1]
              obtain ⟨hs1, hs2, hs3, _, _⟩ := HS.out
              have hsk : sink key j ((s.set (j + 1) x).set j y) = insTo key l (k + 1) := by
                rw [← hs3, sink, hgj, hgj1, if_pos HK.out]
              have hmem : ∀ z ∈ (s.set (j + 1) x).set j y, z < l.length := by
                intro z hz
                rcases List.mem_or_eq_of_mem_set hz with hz | rfl
                · rcases List.mem_or_eq_of_mem_set hz with hz | rfl
                  · exact hs2 z hz
                  · exact hs2 _ (List.mem_of_getElem? hsj)
                · exact hs2 _ (List.mem_of_getElem? hsj1)
              have HN := hid (show ((s.set (j + 1) x).set j y).length = l.length ∧ (∀ z ∈ (s.set (j + 1) x).set j y, z < l.length) ∧ sink key j ((s.set (j + 1) x).set j y) = insTo key l (k + 1) ∧ NB (W3.setCell ⟨g, j, none⟩ (.int .i64 (y : Int))) g m ((s.set (j + 1) x).set j y) ∧ w.grownBy (W3.setCell ⟨g, j, none⟩ (.int .i64 (y : Int))) (some g) from
                ⟨by simp [hs1], hmem, hsk, hb3, grown_same hgr (grown_put W3 ⟨g, j, none⟩ _)⟩)
              have e := act_mix [37, 38, 39, 40, 41, 42, 43, 44, 45, 46, 47, 48, 49, 50, 51, 52] (s2.trans hds) (d2.trans hdd) (fun i _ hc => hkp2 i hc)
              clear hb2 hb3 hgj hgj1 hsk hmem hkp hkp2 q1 q2 q3 e39 e41 e50 e50' s2 d2 f2 o2 hds hs53 hdd hgr hs1 hs2 hs3 hsj hsj1 HS HP HJ HK HW hjI hjI2
              generalize W3.setCell ⟨g, j, none⟩ (.int .i64 (y : Int)) = W4 at *
              generalize (fun i => a2.tmps.getD i undef) = g' at e
              refine wpListIn_nil ?_
              rw [e]
              clear e a1 a2 li
              simp only [mix, List.contains_cons, List.contains_nil, Nat.reduceAdd, Nat.reduceBEq, Bool.or_false, Bool.or_true, cond_true, cond_false]
              go_wp2
              go_roundw
              case rel => exact ⟨j, _, by omega, (by first | rfl | exact congrArg (Value.int .i64) (by omega)), HN.out⟩
              case measure => first | (simp [intOf]; done) | (simp [intOf]; omega)
          · have hd : decide (key x - key y < 0) = false := by simp; omega
            have HK := hid hlt2
            simp only [hd]
            clear hlt2 hd
            obtain ⟨hs1, hs2, hs3, hnb, hgr⟩ := HS.out
            have hgj : s.getD j 0 = x := by simp [List.getD, HJ.out.1]
            have hgj1 : s.getD (j + 1) 0 = y := by simp [List.getD, HJ.out.2]
            have HF := hid (show NB W2 g m (insTo key l (k + 1)) ∧ w.grownBy W2 (some g) from ⟨by rw [← hs3, sink, hgj, hgj1, if_neg HK.out]; exact hnb.below HW.out, grown_same hgr (grown_of_below HW.out _)⟩)
            clear hs1 hs2 hs3 hnb hgr hgj hgj1 HS HJ HK HW
            go_wp2
            go_roundw
            case rel => exact ⟨k + 1, by omega, by omega, by go_num, HF.out⟩
            case measure => first | (simp [intOf]; done) | (simp [intOf]; omega)
    · have hkI : decide ((k : Int) < (l.length : Int)) = false := by simp; omega
      obtain rfl : k = l.length := by omega
      have HF := hid (And.intro hn hg)
      clear hn hg
      go_wp2
      go_end0
      exact ⟨⟨_, rfl⟩, HF.out⟩
end Go.Proofs.YtlnamjhgbdacbaaGreat
/- The order of Divide's parts: the sort, whole. -/
namespace Go.Proofs.YtlnamjhgbdacbaaGreat
open Go.RowKit

set_option maxRecDepth 100000 in
set_option maxHeartbeats 1000000 in
theorem stable_any {g m cap : Nat} (key : Nat → Int) (l : List Nat) (Bc : Nat) (w : World) (h : NB w g m l) (hl : l.length ≤ 12) (hl1 : 1 ≤ l.length) (hx : ∀ x ∈ l, x < l.length)
    (hcmp : ∀ (x y : Nat) (W : World), x < l.length → y < l.length → w.grownBy W (some g) → Calls Tryz.prog 86 #[.int .i64 (x : Int), .int .i64 (y : Int), .pointer (some ⟨Bc, 0, none⟩)] W fun e W' => e = .returned (.int .i64 (key y - key x)) ∧ Below W.heap.size W W') :
    Calls Tryz.prog 114 #[.slice (some ⟨g, 0, none⟩) l.length cap, .int .i64 (l.length : Int), .func (.func 86) #[] #[.pointer (some ⟨Bc, 0, none⟩)]] w (GivesSort g m (insTo key l l.length) w) := by
  have K := hid (ins_any (cap := cap) key l Bc w h (by omega) hl1 hx hcmp)
  clear h hx hcmp
  have h1 : decide ((20 : Int) ≤ (l.length : Int)) = false := by simp; omega
  have h2 : decide ((20 : Int) < (l.length : Int)) = false := by simp; omega
  go_enter Tryz.func114, Tryz.ntmps114
  go_wp2
  go_loop [7, 8] (fun a b => a = .int .i64 0 ∧ b = .int .i64 20) (fun _ _ => 0)
  case atStart => exact ⟨rfl, rfl⟩
  case round =>
    obtain ⟨rfl, rfl⟩ := hrel
    go_wp2_with (go_at_call 124; refine (K.out).mono ?_; rintro e w2 ⟨⟨v, rfl⟩, hn, hg⟩; have HF := hid (And.intro hn hg); clear hn hg)
    go_loop [6] (fun a => a = .int .i64 20) (fun _ => 0)
    case atStart => rfl
    case round =>
      subst hrel
      go_wp2
      go_end0
      exact ⟨⟨_, rfl⟩, HF.out⟩
set_option maxRecDepth 10000 in
set_option maxHeartbeats 1000000 in
theorem sort_any {g m cap : Nat} (key : Nat → Int) (l : List Nat) (Bc : Nat) (w : World) (h : NB w g m l) (hl : l.length ≤ 12) (hl1 : 1 ≤ l.length) (hx : ∀ x ∈ l, x < l.length)
    (hcmp : ∀ (x y : Nat) (W : World), x < l.length → y < l.length → w.grownBy W (some g) → Calls Tryz.prog 86 #[.int .i64 (x : Int), .int .i64 (y : Int), .pointer (some ⟨Bc, 0, none⟩)] W fun e W' => e = .returned (.int .i64 (key y - key x)) ∧ Below W.heap.size W W') :
    Calls Tryz.prog 85 #[.slice (some ⟨g, 0, none⟩) l.length cap, .func (.func 86) #[] #[.pointer (some ⟨Bc, 0, none⟩)]] w (GivesSort g m (insTo key l l.length) w) := by
  have K := hid (stable_any (cap := cap) key l Bc w h hl hl1 hx hcmp)
  clear h hx hcmp
  go_enter Tryz.func85, Tryz.ntmps85
  go_wp2_with (go_at_call 114; refine (K.out).mono ?_; rintro e w2 ⟨⟨v, rfl⟩, hn, hg⟩; have HF := hid (And.intro hn hg); clear hn hg)
  go_end0
  exact ⟨⟨_, rfl⟩, HF.out⟩
end Go.Proofs.YtlnamjhgbdacbaaGreat
/- Divide: what it computes; where it is an error. -/
namespace Go.Proofs.YtlnamjhgbdacbaaGreat
open Go.RowKit Go.Shelf

/-- the error of weights and a total -/
def divE (ws : List Int) (whole : Int) : Int :=
  if 12 < ws.length then 3 else if !(ws.all fun x => withinB x 0 10000) || !withinB whole 0 100000 then 2 else if ws.sum == 0 then 7 else 0
def baseOf (whole sum : Int) (ws : List Int) : List Int := ws.map fun x => whole * x / sum
def orderOf (whole sum : Int) (ws : List Int) : List Nat := insTo (restOf whole sum ws) (List.range ws.length) ws.length
def leftOf (whole sum : Int) (ws : List Int) : Nat := (whole - (baseOf whole sum ws).sum).toNat
def bump (out : List Int) (i : Nat) : List Int := out.set i (out.getD i 0 + 1)
def bumpTo (whole sum : Int) (ws : List Int) (j : Nat) : List Int := ((orderOf whole sum ws).take j).foldl bump (baseOf whole sum ws)
/-- the parts of a total -/
def divOf (ws : List Int) (whole : Int) : List Int := bumpTo whole ws.sum ws (leftOf whole ws.sum ws)
theorem bumpTo_succ {whole sum : Int} {ws : List Int} {j i : Nat} (h : (orderOf whole sum ws)[j]? = some i) : bumpTo whole sum ws (j + 1) = bump (bumpTo whole sum ws j) i := by
  obtain ⟨hj, rfl⟩ := List.getElem?_eq_some_iff.1 h
  unfold bumpTo
  rw [List.take_succ_eq_append_getElem hj, List.foldl_append]; rfl
theorem bump_len (out : List Int) (i : Nat) : (bump out i).length = out.length := by simp [bump]
theorem bumpTo_len (whole sum : Int) (ws : List Int) (j : Nat) : (bumpTo whole sum ws j).length = ws.length := by
  unfold bumpTo
  have : ∀ (l : List Nat) (o : List Int), (l.foldl bump o).length = o.length := by
    intro l
    induction l with
    | nil => intro o; rfl
    | cons i l ih => intro o; rw [List.foldl_cons, ih, bump_len]
  rw [this]; simp [baseOf]
theorem order_len (whole sum : Int) (ws : List Int) : (orderOf whole sum ws).length = ws.length := by unfold orderOf; rw [insTo_len, List.length_range]
theorem order_lt (whole sum : Int) (ws : List Int) : ∀ i ∈ orderOf whole sum ws, i < ws.length := by
  unfold orderOf
  exact insTo_all (P := fun i => i < ws.length) _ _ (fun x hx => List.mem_range.1 hx) _ (by rw [List.length_range]; exact Nat.le_refl _)

/-- what is given out ahead of the order -/
theorem base_bounds {whole sum : Int} {ws : List Int} (h0 : 0 ≤ whole) (hs : 1 ≤ sum) (hx : ∀ x ∈ ws, 0 ≤ x) : ∀ y ∈ baseOf whole sum ws, 0 ≤ y := by
  intro y hy
  obtain ⟨x, hx', rfl⟩ := List.mem_map.1 hy
  exact Int.ediv_nonneg (Int.mul_nonneg h0 (hx x hx')) (by omega)
theorem sum_le_mul {whole sum : Int} (hs : 1 ≤ sum) : ∀ (ws : List Int), (baseOf whole sum ws).sum * sum ≤ whole * ws.sum ∧ whole * ws.sum < (baseOf whole sum ws).sum * sum + ws.length * sum ∨ ws = []
  | [] => .inr rfl
  | x :: ws => by
    have e1 : (baseOf whole sum (x :: ws)).sum = whole * x / sum + (baseOf whole sum ws).sum := by simp [baseOf]
    have e2 : (x :: ws).sum = x + ws.sum := by simp
    have h1 := Int.mul_ediv_add_emod (whole * x) sum
    have h2 := Int.emod_nonneg (whole * x) (show sum ≠ 0 by omega)
    have h3 := Int.emod_lt_of_pos (whole * x) (show 0 < sum by omega)
    have h4 : sum * (whole * x / sum) = whole * x / sum * sum := Int.mul_comm _ _
    refine .inl ?_
    rw [e1, e2, Int.add_mul, Int.mul_add, List.length_cons, Int.natCast_add, Int.add_mul]
    rcases sum_le_mul (whole := whole) hs ws with ⟨a, b⟩ | rfl
    · constructor
      · omega
      · simp only [Int.natCast_one, Int.one_mul]; omega
    · simp [baseOf]; omega
/-- how much the order gets: less than there are parts -/
theorem left_bounds {whole : Int} {ws : List Int} (hs : 1 ≤ ws.sum) (h0 : ws ≠ []) : 0 ≤ whole - (baseOf whole ws.sum ws).sum ∧ whole - (baseOf whole ws.sum ws).sum < ws.length := by
  rcases sum_le_mul (whole := whole) hs ws with ⟨a, b⟩ | h
  · constructor
    · have : (baseOf whole ws.sum ws).sum ≤ whole := Int.le_of_mul_le_mul_right a (by omega)
      omega
    · rw [← Int.add_mul] at b
      have : whole < (baseOf whole ws.sum ws).sum + ws.length := Int.lt_of_mul_lt_mul_right b (by omega)
      omega
  · exact absurd h h0
/-- when the first parts are given out -/
theorem base_part {whole : Int} {ws : List Int} (h0 : 0 ≤ whole) (hs : 1 ≤ ws.sum) (hx : ∀ x ∈ ws, 0 ≤ x) (k : Nat) : 0 ≤ ((baseOf whole ws.sum ws).take k).sum ∧ ((baseOf whole ws.sum ws).take k).sum ≤ (baseOf whole ws.sum ws).sum := by
  have hb := base_bounds h0 hs hx
  generalize baseOf whole ws.sum ws = l at *
  have hsn : ∀ l : List Int, (∀ y ∈ l, 0 ≤ y) → 0 ≤ l.sum := by
    intro l
    induction l with
    | nil => intro _; simp
    | cons y l ih => intro h; rw [List.sum_cons]; have := ih (fun z hz => h z (List.mem_cons_of_mem _ hz)); have := h y (by simp); omega
  refine ⟨hsn _ fun y hy => hb y (List.mem_of_mem_take hy), ?_⟩
  have : (l.take k).sum + (l.drop k).sum = l.sum := by rw [← List.sum_append, List.take_append_drop]
  have := hsn (l.drop k) fun y hy => hb y (List.mem_of_mem_drop hy)
  omega
theorem wsum_bound {ws : List Int} (hx : ∀ x ∈ ws, 0 ≤ x ∧ x ≤ 10000) : 0 ≤ ws.sum ∧ ws.sum ≤ 10000 * ws.length := by
  induction ws with
  | nil => simp
  | cons x ws ih =>
    have := ih (fun y hy => hx y (List.mem_cons_of_mem _ hy))
    have := hx x (by simp)
    rw [List.sum_cons, List.length_cons]
    omega

set_option maxRecDepth 100000 in
set_option maxHeartbeats 1000000 in
theorem divide_bad (A : Option Addr) (c : Nat) (ws : List Int) (whole : Int) (w : World) (h : IsInts w w.heap.size A ws) (hl : ws.length ≤ c) (hm : c ≤ maxLen) (he : divE ws whole ≠ 0) :
    Calls Tryz.prog 57 #[.slice A ws.length c, .int .i64 whole] w fun e w' => e = .returned (.tuple #[.slice none 0 0, .int .i64 (divE ws whole)]) ∧ Below w.heap.size w w' := by
  unfold maxLen at hm
  have hB : Below w.heap.size w ((w.alloc (.cells #[.slice A ws.length c] 22)).alloc (.cells #[.int .i64 whole] 3)) := ((Below.refl _ _).alloc (Nat.le_refl _) _).alloc (by simp) _
  have K := hid (fun W (hW : Below w.heap.size w W) => all_int (fun x => withinB x 0 10000) A c ws W (h.at_ hW) hl (by unfold maxLen; exact hm) 82 #[] #[] (enters_of Tryz.func82 (by kernel_rfl) rfl)
    (fun W' x hW' hx => Calls.same_below (isCell_any x W')))
  have KB := hid hB
  have KI := hid h
  unfold divE at he ⊢
  by_cases h1 : 12 < ws.length
  · have h1I : (12 : Int) < (ws.length : Int) := by omega
    rw [if_pos h1]
    clear h he h1 hB
    go_enter Tryz.func57, Tryz.ntmps57
    go_wp2
    exact bodyPost_ret (v := .tuple #[.slice none 0 0, .int .i64 3]) (by simp [results, Tryz.results57, go_sem]) rfl ⟨rfl, KB.out⟩
  rw [if_neg h1] at he ⊢
  have h1I : decide ((12 : Int) < (ws.length : Int)) = false := by simp; omega
  cases ha : (ws.all fun x => withinB x 0 10000)
  · rw [ha] at he
    have KA := hid ha
    simp only [Bool.not_false, Bool.true_or, if_true]
    clear h he ha hB
    go_enter Tryz.func57, Tryz.ntmps57
    go_wp2_with fail
    refine (K.out _ KB.out).mono ?_
    rintro e w2 ⟨rfl, hb2⟩
    rw [KA.out]
    go_wp2
    exact bodyPost_ret (v := .tuple #[.slice none 0 0, .int .i64 2]) (by simp [results, Tryz.results57, go_sem]) rfl ⟨rfl, KB.out.trans (hb2.mono KB.out.size)⟩
  · rw [ha] at he
    have KA := hid ha
    have KW := hid (fun W => within_any whole 0 100000 W)
    have hx : ∀ x ∈ ws, 0 ≤ x ∧ x ≤ 10000 := fun x hx => by simpa [withinB] using List.all_eq_true.1 ha x hx
    cases hb : withinB whole 0 100000
    · rw [hb] at he
      have KD := hid hb
      simp only [Bool.not_true, Bool.not_false, Bool.or_true, if_true]
      clear h he ha hb hx hB
      go_enter Tryz.func57, Tryz.ntmps57
      go_wp2_with fail
      refine (K.out _ KB.out).mono ?_
      rintro e w2 ⟨rfl, hb2⟩
      rw [KA.out]
      have hB2 := (Blk.new (w.alloc (.cells #[.slice A ws.length c] 22)) 3 #[.int .i64 whole]).keep hb2
      rw [World.size_alloc] at hB2
      have q1 := hB2.c1
      have q2 := hB2.lt
      go_wp2_with fail
      refine (KW.out _).mono ?_
      rintro e w3 ⟨rfl, rfl⟩
      rw [KD.out]
      go_wp2
      exact bodyPost_ret (v := .tuple #[.slice none 0 0, .int .i64 2]) (by simp [results, Tryz.results57, go_sem]) rfl ⟨rfl, KB.out.trans (hb2.mono KB.out.size)⟩
    · rw [hb] at he
      have KD := hid hb
      simp only [Bool.not_true, Bool.or_self, Bool.false_eq_true, if_false] at he ⊢
      cases hs : (ws.sum == 0)
      · rw [hs] at he; exact absurd rfl he
      · have KS := hid hs
        have hsum : ws.sum = 0 := by simpa using hs
        simp only [if_true]
        have KT := hid (fun W (hW : Below w.heap.size w W) => total_any A c ws W (h.at_ hW) (by omega) (fun x hx' => by have := hx x hx'; omega))
        rw [hsum] at KT
        clear h he ha hb hx hs hsum hB
        go_enter Tryz.func57, Tryz.ntmps57
        go_wp2_with fail
        refine (K.out _ KB.out).mono ?_
        rintro e w2 ⟨rfl, hb2⟩
        rw [KA.out]
        have hB2 := (Blk.new (w.alloc (.cells #[.slice A ws.length c] 22)) 3 #[.int .i64 whole]).keep hb2
        have hB3 := ((Blk.new w 22 #[.slice A ws.length c]).alloc (.cells #[.int .i64 whole] 3)).keep hb2
        rw [World.size_alloc] at hB2
        have q1 := hB2.c1
        have q2 := hB2.lt
        have q3 := hB3.c1
        have q4 := hB3.lt
        go_wp2_with fail
        refine (KW.out _).mono ?_
        rintro e w3 ⟨rfl, rfl⟩
        rw [KD.out]
        have hb02 := KB.out.trans (hb2.mono KB.out.size)
        have HB2 := hid hb02
        clear hb2 hb02 hB2 hB3
        go_wp2_with fail
        refine (KT.out _ HB2.out).mono ?_
        rintro e w3 ⟨rfl, rfl⟩
        go_wp2
        exact bodyPost_ret (v := .tuple #[.slice none 0 0, .int .i64 7]) (by simp [results, Tryz.results57, go_sem]) rfl ⟨rfl, HB2.out.alloc HB2.out.size _⟩
end Go.Proofs.YtlnamjhgbdacbaaGreat
/- Divide, walked: the parts ahead of the order. -/
namespace Go.Proofs.YtlnamjhgbdacbaaGreat
open Go.RowKit Go.Shelf

theorem div_ok {ws : List Int} {whole : Int} (h : divE ws whole = 0) : DOk whole ws.sum ws ∧ ws ≠ [] ∧ (ws.all fun x => withinB x 0 10000) = true ∧ withinB whole 0 100000 = true := by
  unfold divE at h
  by_cases h1 : 12 < ws.length
  · rw [if_pos h1] at h; cases h
  rw [if_neg h1] at h
  cases ha : (ws.all fun x => withinB x 0 10000)
  · rw [ha] at h; simp at h
  cases hb : withinB whole 0 100000
  · rw [ha, hb] at h; simp at h
  rw [ha, hb] at h
  cases hs : (ws.sum == 0)
  · have hx : ∀ x ∈ ws, 0 ≤ x ∧ x ≤ 10000 := fun x hx => by simpa [withinB] using List.all_eq_true.1 ha x hx
    have hw : 0 ≤ whole ∧ whole ≤ 100000 := by simpa [withinB] using hb
    have hsb := wsum_bound hx
    have hs' : ws.sum ≠ 0 := by simpa using hs
    exact ⟨⟨hw.1, hw.2, by omega, by omega, hx, by omega⟩, (fun e => by rw [e] at hs'; simp at hs'), rfl, rfl⟩
  · rw [hs] at h; simp at h
/-- when k parts are reckoned -/
structure DivI (whole : Int) (A : Option Addr) (c : Nat) (ws : List Int) (w : World) (Bs k : Nat) (vo vr : Value) (W : World) : Prop where
  mem : DMem (w.heap.size + 1) w.heap.size Bs whole ws.sum A c ws w.heap.size W
  o : W.ownsRow (Bs + 1) 3 1 vo k (((baseOf whole ws.sum ws).take k).map (Value.int .i64))
  r : W.ownsRow (Bs + 1) 3 1 vr k (((List.range ws.length).take k).map fun (i : Nat) => Value.int .i64 (i : Int))
  ne : vo.ownBlock = none ∨ vo.ownBlock ≠ vr.ownBlock
  below : Below w.heap.size w W
  lt : w.heap.size + 1 < Bs
theorem DMem.row {Bw Bl Bs : Nat} {whole sum : Int} {A : Option Addr} {c : Nat} {ws : List Int} {n base e size m : Nat} {v : Value} {vs : List Value} {W W' : World} (h : DMem Bw Bl Bs whole sum A c ws n W) (ho : W.ownsRow base e size v m vs) (hg : W.grownBy W' v.ownBlock) (h1 : Bw < base) (h2 : Bl < base) (h3 : Bs < base) (h4 : n ≤ base) : DMem Bw Bl Bs whole sum A c ws n W' :=
  h.keep (Z := fun q => v.ownBlock = some q) (W' := W') ⟨hg.os, hg.tape, hg.output, hg.size, fun i cs t fr hi hn => (hg.block i (Array.getElem?_eq_some_iff.1 hi).1 (fun e => hn e.symm)).trans hi⟩ (fun e => by have := ho.lt _ e; omega) (fun e => by have := ho.lt _ e; omega) (fun e => by have := ho.lt _ e; omega) (fun k e => by have := ho.lt _ e; omega)
theorem below_row' {B base e size n : Nat} {v : Value} {vs : List Value} {A W W' : World} (h : Below B A W) (ho : W.ownsRow base e size v n vs) (hb : B ≤ base) (hg : W.grownBy W' v.ownBlock) (hB : B ≤ W.heap.size) : Below B A W' := h.grown hg hB (fun k hk => by have := ho.lt k hk; omega)
theorem map_take_succ {α : Type} (f : α → Value) {l : List α} {k : Nat} {x : α} (h : l[k]? = some x) : (l.take k).map f ++ [f x] = (l.take (k + 1)).map f := by
  obtain ⟨hk, rfl⟩ := List.getElem?_eq_some_iff.1 h
  rw [List.take_succ_eq_append_getElem hk, List.map_append]; rfl

theorem row_kept {W W' : World} {base e size m : Nat} {vo vr : Value} {vs : List Value} (hr : W.ownsRow base e size vr m vs) (hg : W.grownBy W' vo.ownBlock) (hne : vo.ownBlock = none ∨ vo.ownBlock ≠ vr.ownBlock) : W'.ownsRow base e size vr m vs := by
  refine hr.kept hg ?_
  rcases hne with h | h
  · rw [h]
    cases hv : vr.ownBlock with
    | none => exact .inl rfl
    | some g => exact .inr (by simp)
  · exact .inr fun e => h e.symm
theorem lb_of_own {W : World} {base g n cap : Nat} {xs : List Int} (h : W.ownsRow base 3 1 (.slice (some ⟨g, 0, none⟩) n cap) n (xs.map (Value.int .i64))) : LB W g cap xs := by
  rcases h.2 with ⟨e, _⟩ | ⟨g', cap', cur, e, hb, hg, h1, h2, h3, h4⟩
  · cases e
  · injection e with e1 e2 e3
    injection e1 with e1
    injection e1 with e1
    subst e1 e3
    refine ⟨cur, hg, by omega, fun k x hk => ?_⟩
    have : (cur.toList.take (n * 1))[k]? = some (Value.int .i64 x) := by rw [h4, List.getElem?_map, hk]; rfl
    rw [List.getElem?_take] at this
    split at this
    · simpa using this
    · cases this
theorem LB.set_ {W : World} {g m : Nat} {l : List Int} (h : LB W g m l) (k : Nat) (x : Int) : LB (W.setCell ⟨g, k, none⟩ (.int .i64 x)) g m (l.set k x) := by
  obtain ⟨arr, hb, hs, hc⟩ := h
  refine ⟨_, Blk.set_ (t := 3) (cs := arr) hb k _, by simpa using hs, fun j y hj => ?_⟩
  rw [List.getElem?_set] at hj
  rw [Array.getElem?_setIfInBounds]
  by_cases e : k = j
  · rw [if_pos e] at hj ⊢
    split at hj
    · rename_i hl
      simp at hj
      have := hc j l[j] (List.getElem?_eq_getElem (show j < l.length by omega))
      have := (Array.getElem?_eq_some_iff.1 this).1
      rw [if_pos (by omega), hj]
    · cases hj
  · rw [if_neg e] at hj ⊢
    exact hc j y hj
theorem LB.cell {W : World} {g m k : Nat} {l : List Int} {x : Int} (h : LB W g m l) (hk : l[k]? = some x) : W.cell? ⟨g, k, none⟩ = some (.int .i64 x) := by
  obtain ⟨arr, hb, hs, hc⟩ := h
  rw [cell_of_row W g k arr 3 (0, 0) hb]
  exact hc k x hk
theorem LB.frozen {W : World} {g m : Nat} {l : List Int} (h : LB W g m l) (k : Nat) : W.frozen? ⟨g, k, none⟩ = false := by
  obtain ⟨arr, hb, hs, hc⟩ := h
  exact Blk.frozen (t := 3) (cs := arr) hb k
theorem LB.other {W W' : World} {g m z : Nat} {l : List Int} (h : LB W g m l) (hg : W.grownBy W' (some z)) (hz : z ≠ g) : LB W' g m l := by
  have hl := h.lt
  obtain ⟨arr, hb, hs, hc⟩ := h
  exact ⟨arr, (hg.block g hl (fun e => by cases e; exact hz rfl)).trans hb, hs, hc⟩
theorem bumpTo_bound {whole sum : Int} {ws : List Int} (ok : DOk whole sum ws) : ∀ (j : Nat), j ≤ ws.length → ∀ y ∈ bumpTo whole sum ws j, 0 ≤ y ∧ y ≤ 1000000000 + (j : Int)
  | 0, _ => by
    intro y hy
    have : bumpTo whole sum ws 0 = baseOf whole sum ws := rfl
    rw [this] at hy
    obtain ⟨x, hx, rfl⟩ := List.mem_map.1 hy
    have hb := ok.x x hx
    have hm := mul_bound ok.w0 ok.w1 hb.1 hb.2
    have hs := ok.s0
    have h1 : 0 ≤ whole * x / sum := Int.ediv_nonneg hm.1 (by omega)
    have h2 : whole * x / sum ≤ whole * x := Int.ediv_le_self _ hm.1
    omega
  | j + 1, hj => by
    intro y hy
    have ih := bumpTo_bound ok j (by omega)
    have hol := order_len whole sum ws
    rw [bumpTo_succ (List.getElem?_eq_getElem (by omega : j < (orderOf whole sum ws).length))] at hy
    have hi := order_lt whole sum ws _ (List.getElem_mem (by omega : j < (orderOf whole sum ws).length))
    generalize (orderOf whole sum ws)[j]'(by omega) = i at *
    unfold bump at hy
    have hbl := bumpTo_len whole sum ws j
    rcases List.mem_or_eq_of_mem_set hy with hy | rfl
    · have := ih y hy; omega
    · have hg : (bumpTo whole sum ws j).getD i 0 = (bumpTo whole sum ws j)[i]'(by omega) := by simp [List.getD, List.getElem?_eq_getElem (show i < (bumpTo whole sum ws j).length by omega)]
      rw [hg]
      have := ih _ (List.getElem_mem (show i < (bumpTo whole sum ws j).length by omega))
      omega
/-- the parts, in memory of their own -/
def GivesDiv (ws : List Int) (whole : Int) (w : World) (e : Ending) (w' : World) : Prop :=
  ∃ A c, e = .returned (.tuple #[.slice A ws.length c, .int .i64 0]) ∧ IsInts w' w'.heap.size A (divOf ws whole) ∧ ws.length ≤ c ∧ c ≤ maxLen ∧ (A = none → c = 0) ∧ (∀ a, A = some a → w.heap.size ≤ a.block) ∧ Below w.heap.size w w'

set_option maxRecDepth 100000 in
set_option maxHeartbeats 4000000 in
theorem divide_ok (A : Option Addr) (c : Nat) (ws : List Int) (whole : Int) (w : World) (h : IsInts w w.heap.size A ws) (hl : ws.length ≤ c) (hm : c ≤ maxLen) (he : divE ws whole = 0) :
    Calls Tryz.prog 57 #[.slice A ws.length c, .int .i64 whole] w (GivesDiv ws whole w) := by
  unfold maxLen at hm
  obtain ⟨ok, hne, ha, hb⟩ := div_ok he
  have hB : Below w.heap.size w ((w.alloc (.cells #[.slice A ws.length c] 22)).alloc (.cells #[.int .i64 whole] 3)) := ((Below.refl _ _).alloc (Nat.le_refl _) _).alloc (by simp) _
  have K := hid (fun W (hW : Below w.heap.size w W) => all_int (fun x => withinB x 0 10000) A c ws W (h.at_ hW) hl (by unfold maxLen; exact hm) 82 #[] #[] (enters_of Tryz.func82 (by kernel_rfl) rfl)
    (fun W' x hW' hx => Calls.same_below (isCell_any x W')))
  have KB := hid hB
  have KI := hid h
  have KA := hid ha
  have KD := hid hb
  have KW := hid (fun W => within_any whole 0 100000 W)
  have KT := hid (fun W (hW : Below w.heap.size w W) => total_any A c ws W (h.at_ hW) (by have := ok.l; omega) (fun x hx' => by have := ok.x x hx'; omega))
  have hl12 := ok.l
  have hs0 := ok.s0
  have hs1 := ok.s1
  have hw0 := ok.w0
  have hw1 := ok.w1
  have h1I : decide ((12 : Int) < (ws.length : Int)) = false := by simp; omega
  have hsz : (ws.sum == 0) = false := by simp; omega
  have OK := hid (And.intro ok hne)
  clear h ha hb hB ok he hne
  go_enter Tryz.func57, Tryz.ntmps57
  go_wp2_with fail
  refine (K.out _ KB.out).mono ?_
  rintro e w2 ⟨rfl, hb2⟩
  rw [KA.out]
  have hB2 := (Blk.new (w.alloc (.cells #[.slice A ws.length c] 22)) 3 #[.int .i64 whole]).keep hb2
  have hB3 := ((Blk.new w 22 #[.slice A ws.length c]).alloc (.cells #[.int .i64 whole] 3)).keep hb2
  rw [World.size_alloc] at hB2
  have q1 := hB2.c1
  have q2 := hB2.lt
  have q3 := hB3.c1
  have q4 := hB3.lt
  go_wp2_with fail
  refine (KW.out _).mono ?_
  rintro e w3 ⟨rfl, rfl⟩
  rw [KD.out]
  have HB2 := hid (And.intro (KB.out.trans (hb2.mono KB.out.size)) (And.intro hB2 hB3))
  clear hb2 hB2 hB3
  go_wp2_with fail
  refine (KT.out _ HB2.out.1).mono ?_
  rintro e w3 ⟨rfl, rfl⟩
  go_wp2
  refine gen (p := Code.wp _ _ _ _) (fun W => DivI whole A c ws w w2.heap.size 0 (.slice none 0 0) (.slice none 0 0) W) ?_ ?_
  · have hba := (Below.refl w2.heap.size w2).alloc (Nat.le_refl _) (.cells #[.int .i64 ws.sum] 3)
    obtain ⟨g1, g2, g3⟩ := HB2.out
    exact ⟨⟨g2.keep hba, g3.keep hba, Blk.new _ _ _, KI.out.below (g1.trans (hba.mono g1.size)), by have := g1.size; simp; omega⟩, World.ownsRow_nil _ _ _ _, World.ownsRow_nil _ _ _ _, .inl rfl, g1.trans (hba.mono g1.size), q2⟩
  intro W1 hI1
  have HI := hid hI1
  clear hI1 HB2 K KB KI KA KD KW KT q1 q2 q3 q4
  generalize w2.heap.size = Bs at *
  go_loopw [7, 8, 9, 35] (fun vo vr l i wr => ∃ k : Nat, k ≤ ws.length ∧ i = .int .i64 k ∧ l = .int .i64 (whole - ((baseOf whole ws.sum ws).take k).sum) ∧ DivI whole A c ws w Bs k vo vr wr) (fun _ _ _ i _ => ws.length - (intOf i).toNat)
  case atStart => exact ⟨0, Nat.zero_le _, rfl, by simp, HI.out⟩
  case round =>
    obtain ⟨k, hk, rfl, rfl, hi⟩ := hrel
    clear HI
    have hbp := base_part (whole := whole) (ws := ws) hw0 hs0 (fun x hx => (OK.out.1.x x hx).1)
    by_cases hlt : k < ws.length
    · have hkI : (k : Int) < (ws.length : Int) := by omega
      obtain ⟨a, rfl, hab, hac⟩ := hi.mem.iw k ws[k] (List.getElem?_eq_getElem hlt)
      have hx := OK.out.1.x ws[k] (List.getElem_mem hlt)
      have hbk : (baseOf whole ws.sum ws)[k]? = some (whole * ws[k] / ws.sum) := by simp [baseOf, List.getElem?_eq_getElem hlt]
      have hm1 := mul_bound hw0 hw1 hx.1 hx.2
      have hbp0 := hbp k
      have hbp1 := hbp (k + 1)
      have hbq := left_bounds (whole := whole) hs0 OK.out.2
      have hsk : ((baseOf whole ws.sum ws).take (k + 1)).sum = ((baseOf whole ws.sum ws).take k).sum + whole * ws[k] / ws.sum := by
        obtain ⟨hk', e⟩ := List.getElem?_eq_some_iff.1 hbk
        rw [List.take_succ_eq_append_getElem hk', List.sum_append, e]; simp
      generalize ws[k] = x at *
      obtain ⟨y, hy⟩ : ∃ y, y = whole * x := ⟨_, rfl⟩
      have hwr : IntKind.i64.wrap (whole * x) = y := by rw [IntKind.wrap_i64, ← hy]; omega
      rw [← hy] at hbk hsk hm1
      clear hy hbp
      obtain ⟨hm1, hm2⟩ := hm1
      have hq0 : 0 ≤ y / ws.sum := Int.ediv_nonneg hm1 (by omega)
      obtain ⟨q, hq⟩ : ∃ q, q = y / ws.sum := ⟨_, rfl⟩
      have c1 := hi.mem.bw.c1
      have c3 := hi.mem.bs.c1
      obtain ⟨i0, hi0, hz0, hz1, hz2⟩ := info_parts int_info
      have HO := hid (hi.o.alloc (.cells #[.int .i64 (y / ws.sum)] 3))
      have HH := hid hi
      have HK := hid (And.intro hbk hsk)
      have hba : Below w.heap.size w (wr.alloc (.cells #[.int .i64 (y / ws.sum)] 3)) := hi.below.alloc hi.below.size _
      have hbl := hi.mem.bs.lt
      clear hi hab hbk hsk hq
      have hwrs := HH.out.below.size
      go_wp2_with (first | (at_builtin; refine wpList_append_own_at _ rfl (.tmp 40) (.tmp 46) 22 rfl (Bs + 1) 3 i0 (.int .i64 0) 1 8 Tryz.underlying22 hi0 hz0 hz1 hz2 rfl (by decide) u7 k _ rfl HO.out ⟨wr.heap.size, 0, none⟩ 1 1 [.int .i64 (y / ws.sum)] rfl rfl (by intro q u hq; cases q with | zero => simp at hq; subst hq; exact (World.cell?_alloc_new _ _ _ _) | succ q => simp at hq) (by intro u hu; simp at hu; subst hu; rfl) (by simp only [maxLen]; omega) (by omega) (by simp; omega) ?_; intro vo' w5 hown' hgrow _ hfr; have HR5 := hid ((row_kept (HH.out.r.alloc _) hgrow HH.out.ne).alloc (.cells #[.int .i64 (k : Int)] 3)); have hs5 := hgrow.size; rw [World.size_alloc] at hs5; have HQ5 := hid (And.intro hown' (And.intro hgrow hfr)); clear hown' hgrow hfr) | (at_builtin; refine wpList_append_own_at _ rfl (.tmp 48) (.tmp 50) 22 rfl (Bs + 1) 3 i0 (.int .i64 0) 1 8 Tryz.underlying22 hi0 hz0 hz1 hz2 rfl (by decide) u8 k _ rfl HR5.out ⟨w5.heap.size, 0, none⟩ 1 1 [.int .i64 (k : Int)] rfl rfl (by intro q u hq; cases q with | zero => simp at hq; subst hq; exact (World.cell?_alloc_new _ _ _ _) | succ q => simp at hq) (by intro u hu; simp at hu; subst hu; rfl) (by simp only [maxLen]; omega) (by omega) (by simp; omega) ?_; intro vr' w7 hown2 hgrow2 _ hfr2; have HQ7 := hid (And.intro hown2 (And.intro hgrow2 hfr2)); clear hown2 hgrow2 hfr2))
      obtain ⟨hbk, hsk⟩ := HK.out
      obtain ⟨ho5, hg5, hf5⟩ := HQ5.out
      obtain ⟨hr7, hg7, hf7⟩ := HQ7.out
      obtain ⟨g, cap, rfl⟩ := Go.ownsRow_succ ho5
      rw [map_take_succ (Value.int .i64) hbk] at ho5
      have hrk : (List.range ws.length)[k]? = some k := by simp [hlt]
      rw [map_take_succ (fun (i : Nat) => Value.int .i64 (i : Int)) hrk] at hr7
      have hne5 : u8.ownBlock = none ∨ u8.ownBlock ≠ some g := by
        rcases hf5 with h | h
        · rcases HH.out.ne with h' | h'
          · rw [h'] at h; cases h
          · exact .inr fun e => h' (h.symm.trans e.symm)
        · injection h with h
          simp only [World.size_alloc] at h
          refine .inr fun e => ?_
          have := (HH.out.r.lt _ e).2
          omega
      have ho7 := row_kept (ho5.alloc (.cells #[.int .i64 (k : Int)] 3)) hg7 hne5
      have hs5g := (ho5.lt g rfl).2
      have hne7 : Value.ownBlock (.slice (some ⟨g, 0, none⟩) (k + 1) cap) ≠ vr'.ownBlock := by
        intro e
        rcases hf7 with h | h
        · rw [h] at e
          rcases hne5 with h' | h'
          · rw [h'] at e; cases e
          · exact h' e.symm
        · rw [h] at e
          injection e with e
          simp only [World.size_alloc] at e
          omega
      have hm5 := ((HH.out.mem.below ((Below.refl _ _).alloc (Nat.le_refl _) (.cells #[.int .i64 (y / ws.sum)] 3))).row (HH.out.o.alloc _) hg5 (by have := HH.out.lt; omega) (by have := HH.out.lt; omega) (by omega) (by have := HH.out.lt; omega))
      have hm7 := ((hm5.below ((Below.refl _ _).alloc (Nat.le_refl _) (.cells #[.int .i64 (k : Int)] 3))).row (HR5.out) hg7 (by have := HH.out.lt; omega) (by have := HH.out.lt; omega) (by omega) (by have := HH.out.lt; omega))
      have hb5 := below_row' (HH.out.below.alloc HH.out.below.size (.cells #[.int .i64 (y / ws.sum)] 3)) (HH.out.o.alloc _) (by have := HH.out.lt; omega) hg5 (by simp; omega)
      have hb7 := below_row' (hb5.alloc hb5.size (.cells #[.int .i64 (k : Int)] 3)) (HR5.out) (by have := HH.out.lt; omega) hg7 (by simp; have := hb5.size; omega)
      have HN := hid (show DivI whole (some a) c ws w Bs (k + 1) (.slice (some ⟨g, 0, none⟩) (k + 1) cap) vr' w7 from ⟨hm7, ho7, hr7, .inr hne7, hb7, HH.out.lt⟩)
      have c7 : w7.cell? ⟨g, k, none⟩ = some (.int .i64 (y / ws.sum)) := by
        have := ho7.cells (g := g) rfl k (.int .i64 (y / ws.sum)) (by
          rw [List.getElem?_map, List.getElem?_take, if_pos (by omega), hbk]; rfl)
        rwa [show (⟨g, 0, none⟩ : Addr).add k = ⟨g, k, none⟩ by unfold Addr.add; split <;> simp_all] at this
      have hsk' := hsk
      have hwl : IntKind.i64.wrap (whole - ((baseOf whole ws.sum ws).take k).sum - y / ws.sum) = whole - ((baseOf whole ws.sum ws).take (k + 1)).sum := by rw [IntKind.wrap_i64, hsk']; omega
      have HSK := hid hsk
      clear hbk hsk hsk' ho5 hg5 hf5 hr7 hg7 hf7 hrk hne5 ho7 hs5g hne7 hm5 hm7 hb5 hb7 HQ5 HQ7 HR5 HO HH HK c1 c3 hba hac
      have hk1 : (k : Int) < ((k + 1 : Nat) : Int) := by omega
      have hk2 : (k : Int) < (k : Int) + 1 := by omega
      go_simp
      go_wp2
      go_roundw
      case rel => exact ⟨k + 1, by omega, by go_num, (by first | rfl | exact congrArg (Value.int .i64) (by rw [HSK.out]; omega)), HN.out⟩
      case measure => first | (simp [intOf]; done) | (simp [intOf]; omega)
    · have hkI : decide ((k : Int) < (ws.length : Int)) = false := by simp; omega
      obtain rfl : k = ws.length := by omega
      have hn1 : 1 ≤ ws.length := by
        cases ws with
        | nil => exact absurd rfl OK.out.2
        | cons x l => simp
      have hbq := left_bounds (whole := whole) hs0 OK.out.2
      have hshape : ∀ {v : Value} {vs : List Value}, wr.ownsRow (Bs + 1) 3 1 v ws.length vs → ∃ g cap, v = .slice (some ⟨g, 0, none⟩) ws.length cap := by
        intro v vs hv
        obtain ⟨n', hn'⟩ : ∃ n', ws.length = n' + 1 := ⟨ws.length - 1, by omega⟩
        rw [hn'] at hv ⊢
        exact Go.ownsRow_succ hv
      obtain ⟨go, co, rfl⟩ := hshape hi.o
      obtain ⟨gr, cr, rfl⟩ := hshape hi.r
      obtain ⟨lf, hlf⟩ : ∃ lf : Nat, whole - (baseOf whole ws.sum ws).sum = (lf : Int) := ⟨leftOf whole ws.sum ws, by unfold leftOf; omega⟩
      have hbl : (baseOf whole ws.sum ws).length = ws.length := by simp [baseOf]
      rw [show (baseOf whole ws.sum ws).take ws.length = baseOf whole ws.sum ws by rw [← hbl, List.take_length], hlf]
      rw [hlf] at hbq
      have HLF := hid (show leftOf whole ws.sum ws = lf by unfold leftOf; omega)
      have HH := hid hi
      clear hi hbp hshape hlf hbl
      have KSORT := hid (show Calls Tryz.prog 85 #[.slice (some ⟨gr, 0, none⟩) ws.length cr, .func (.func 86) #[] #[.pointer (some ⟨wr.heap.size, 0, none⟩)]]
          (wr.alloc (.cells #[.func (.func 84) #[] #[.pointer (some ⟨w.heap.size + 1, 0, none⟩), .pointer (some ⟨w.heap.size, 0, none⟩), .pointer (some ⟨Bs, 0, none⟩)]] 168))
          (GivesSort gr cr (orderOf whole ws.sum ws) _) from by
        have hba := (Below.refl wr.heap.size wr).alloc (Nat.le_refl _) (.cells #[.func (.func 84) #[] #[.pointer (some ⟨w.heap.size + 1, 0, none⟩), .pointer (some ⟨w.heap.size, 0, none⟩), .pointer (some ⟨Bs, 0, none⟩)]] 168)
        have hr := HH.out.r
        rw [show (List.range ws.length).take ws.length = List.range ws.length by rw [List.take_of_length_le]; simp] at hr
        have hnb : NB wr gr cr (List.range ws.length) := by
          unfold NB
          refine lb_of_own (base := Bs + 1) (n := ws.length) ?_
          rw [List.map_map]
          exact hr
        have hlt := HH.out.lt
        have hgr := HH.out.r.lt gr rfl
        have := sort_any (cap := cr) (restOf whole ws.sum ws) (List.range ws.length) wr.heap.size _ (hnb.below hba) (by simp; omega) (by simp; omega) (fun x hx => by simpa using hx) (fun x y W hx hy hg => by
          simp only [List.length_range] at hx hy
          have hk : Keep (fun q => q = gr) _ W := Keep.of_grown hg rfl
          exact cmp_any OK.out.1 x y hx hy ((HH.out.mem.below hba).keep hk (by omega) (by omega) (by omega) (fun q hq => by omega)) (hk.blk (Blk.new _ _ _) (by omega)))
        simp only [List.length_range] at this
        exact this)
      have HLS := hid (show Bs + 1 ≤ go ∧ go < wr.heap.size ∧ Bs + 1 ≤ gr ∧ gr < wr.heap.size ∧ go ≠ gr from ⟨(HH.out.o.lt go rfl).1, (HH.out.o.lt go rfl).2, (HH.out.r.lt gr rfl).1, (HH.out.r.lt gr rfl).2, by
        rcases HH.out.ne with h | h
        · cases h
        · exact fun e => h (by rw [e]; rfl)⟩)
      have hcoo : ws.length ≤ co ∧ co ≤ maxLen := by
        rcases HH.out.o.2 with ⟨e, _⟩ | ⟨g', cap', cur, e, _, _, h1, h2, _⟩
        · cases e
        · injection e with _ _ e3; subst e3; exact ⟨h1, h2⟩
      have hcrr : ws.length ≤ cr := by
        rcases HH.out.r.2 with ⟨e, _⟩ | ⟨g', cap', cur, e, _, _, h1, h2, _⟩
        · cases e
        · injection e with _ _ e3; subst e3; exact h1
      obtain ⟨hbq1, hbq2⟩ := hbq
      have hlcr : (lf : Int) ≤ (cr : Int) := by omega
      go_wp2_with fail
      refine KSORT.out.mono ?_
      rintro e w5 ⟨⟨v, rfl⟩, hns, hgs⟩
      have HF5 := hid (show LB w5 go co (bumpTo whole ws.sum ws 0) ∧ NB w5 gr cr (orderOf whole ws.sum ws) ∧ Below w.heap.size w w5 from by
        have ho := HH.out.o
        have hbl : (baseOf whole ws.sum ws).length = ws.length := by simp [baseOf]
        rw [show (baseOf whole ws.sum ws).take ws.length = baseOf whole ws.sum ws by rw [← hbl, List.take_length]] at ho
        have hba := (Below.refl wr.heap.size wr).alloc (Nat.le_refl _) (.cells #[.func (.func 84) #[] #[.pointer (some ⟨w.heap.size + 1, 0, none⟩), .pointer (some ⟨w.heap.size, 0, none⟩), .pointer (some ⟨Bs, 0, none⟩)]] 168)
        obtain ⟨z1, z2, z3, z4, z5⟩ := HLS.out
        have hlt := HH.out.lt
        have hbs := HH.out.below.size
        exact ⟨((lb_of_own ho).below hba).other hgs (fun e => z5 e.symm), hns, (HH.out.below.trans (hba.mono hbs)).grown hgs (by simp; omega) (fun k hk => by cases hk; omega)⟩)
      have hlen12 : ws.length ≤ 12 := hl12
      have HBS := hid HH.out.lt
      clear hns hgs KSORT HH
      go_wp2
      go_loopw [67] (fun i wr => ∃ j : Nat, j ≤ lf ∧ i = .int .i64 j ∧ LB wr go co (bumpTo whole ws.sum ws j) ∧ NB wr gr cr (orderOf whole ws.sum ws) ∧ Below w.heap.size w wr) (fun i _ => lf - (intOf i).toNat)
      case atStart => exact ⟨0, Nat.zero_le _, rfl, HF5.out⟩
      case round =>
        obtain ⟨j, hj, rfl, hlb, hnb, hbe⟩ := hrel
        clear HF5
        by_cases hlt : j < lf
        · have hjI : (j : Int) < (lf : Int) := by omega
          have hol := order_len whole ws.sum ws
          obtain ⟨i, hi⟩ : ∃ i, (orderOf whole ws.sum ws)[j]? = some i := ⟨_, List.getElem?_eq_getElem (by omega)⟩
          have hil := order_lt whole ws.sum ws i (List.mem_of_getElem? hi)
          have hbl := bumpTo_len whole ws.sum ws j
          obtain ⟨y, hy⟩ : ∃ y, (bumpTo whole ws.sum ws j)[i]? = some y := ⟨_, List.getElem?_eq_getElem (by omega)⟩
          have hyb := bumpTo_bound OK.out.1 j (by omega) y (List.mem_of_getElem? hy)
          have c1 := hnb.cell hi
          have c2 := hlb.cell hy
          have f2 := hlb.frozen i
          have l2 := hlb.lt
          have hiI : (i : Int) < (ws.length : Int) := by omega
          have HN := hid (show LB (wr.setCell ⟨go, i, none⟩ (.int .i64 (y + 1))) go co (bumpTo whole ws.sum ws (j + 1)) ∧ NB (wr.setCell ⟨go, i, none⟩ (.int .i64 (y + 1))) gr cr (orderOf whole ws.sum ws) ∧ Below w.heap.size w (wr.setCell ⟨go, i, none⟩ (.int .i64 (y + 1))) from by
            obtain ⟨z1, z2, z3, z4, z5⟩ := HLS.out
            have := hlb.set_ i (y + 1)
            refine ⟨by rw [bumpTo_succ hi, bump, show (bumpTo whole ws.sum ws j).getD i 0 = y by simp [List.getD, hy]]; exact this, LB.other hnb (grown_put _ ⟨go, i, none⟩ _) z5, hbe.setCell (p := ⟨go, i, none⟩) (by show w.heap.size ≤ go; have := HBS.out; omega) _⟩)
          clear hlb hnb hbe hol hi hil hbl hy
          go_wp2
          go_roundw
          case rel => exact ⟨j + 1, by omega, by go_num, HN.out⟩
          case measure => first | (simp [intOf]; done) | (simp [intOf]; omega)
        · have hjI : decide ((j : Int) < (lf : Int)) = false := by simp; omega
          obtain rfl : j = lf := by omega
          have HN := hid (And.intro hlb hbe)
          clear hlb hnb hbe
          go_wp2
          refine bodyPost_ret (v := .tuple #[.slice (some ⟨go, 0, none⟩) ws.length co, .int .i64 0]) (by simp [results, Tryz.results57, go_sem]) rfl ?_
          obtain ⟨z1, z2, z3, z4, z5⟩ := HLS.out
          refine ⟨_, _, rfl, ?_, hcoo.1, hcoo.2, (fun e => by cases e), (fun a e => by cases e; show w.heap.size ≤ go; have := HBS.out; omega), HN.out.2⟩
          unfold divOf
          rw [HLF.out]
          exact HN.out.1.ints HN.out.1.lt

theorem divide_any (A : Option Addr) (c : Nat) (ws : List Int) (whole : Int) (w : World) (h : IsInts w w.heap.size A ws) (hl : ws.length ≤ c) (hm : c ≤ maxLen) :
    Calls Tryz.prog 57 #[.slice A ws.length c, .int .i64 whole] w fun e w' => if divE ws whole ≠ 0 then e = .returned (.tuple #[.slice none 0 0, .int .i64 (divE ws whole)]) ∧ Below w.heap.size w w' else GivesDiv ws whole w e w' := by
  by_cases he : divE ws whole = 0
  · refine (divide_ok A c ws whole w h hl hm he).mono fun e w' h => ?_
    rw [if_neg (by simp [he])]; exact h
  · refine (divide_bad A c ws whole w h hl hm he).mono fun e w' h => ?_
    rw [if_pos he]; exact h
end Go.Proofs.YtlnamjhgbdacbaaGreat
/- Learn: the counts of which a number can be a neighbour, for every base and number. -/
namespace Go.Proofs.YtlnamjhgbdacbaaGreat
open Go.RowKit Go.Shelf

set_option maxRecDepth 100000 in
set_option maxHeartbeats 1000000 in
theorem learn_any (b n : Int) (w : World) : Calls Tryz.prog 11 #[.int .i64 b, .int .i64 n] w fun e w' =>
    e = .returned (if withinB b 2 100 = false then .tuple #[.agg #[.int .i64 0, .int .i64 0], .int .i64 1] else if withinB n 0 10100 = false ∨ n % b ≠ 0 then .tuple #[.agg #[.int .i64 0, .int .i64 0], .int .i64 2] else
      .tuple #[.agg #[.int .i64 (max 0 (n - b + 1)), .int .i64 (n + b - 1)], .int .i64 0]) ∧ Below w.heap.size w w' := by
  have K1 := hid (fun W => isBase_any b W)
  have K2 := hid (fun W => isNumber_any n W)
  cases h1 : withinB b 2 100
  · rw [h1] at K1
    simp only [if_true]
    go_enter Tryz.func11, Tryz.ntmps11
    go_wp2_with fail
    refine (K1.out _).mono ?_
    rintro e w2 ⟨rfl, rfl⟩
    go_wp2
    exact bodyPost_ret (v := .tuple #[.agg #[.int .i64 0, .int .i64 0], .int .i64 1]) (by simp [results, Tryz.results11, go_sem]) rfl ⟨rfl, (Below.refl _ _).alloc (Nat.le_refl _) _⟩
  · rw [h1] at K1
    have hb : 2 ≤ b ∧ b ≤ 100 := by simpa [withinB] using h1
    cases h2 : withinB n 0 10100
    · rw [h2] at K2
      simp only [Bool.true_eq_false, if_false, true_or, if_true]
      clear h1 h2
      go_enter Tryz.func11, Tryz.ntmps11
      go_wp2_with fail
      refine (K1.out _).mono ?_
      rintro e w2 ⟨rfl, rfl⟩
      go_wp2_with fail
      refine (K2.out _).mono ?_
      rintro e w2 ⟨rfl, rfl⟩
      go_wp2
      exact bodyPost_ret (v := .tuple #[.agg #[.int .i64 0, .int .i64 0], .int .i64 2]) (by simp [results, Tryz.results11, go_sem]) rfl ⟨rfl, (Below.refl _ _).alloc (Nat.le_refl _) _⟩
    · rw [h2] at K2
      have hn : 0 ≤ n ∧ n ≤ 10100 := by simpa [withinB] using h2
      simp only [Bool.true_eq_false, if_false, false_or]
      clear h1 h2
      by_cases h3 : n % b = 0
      · rw [if_neg (by simp [h3])]
        have h4 : (n % b != 0) = false := by simp [h3]
        clear h3
        go_enter Tryz.func11, Tryz.ntmps11
        go_wp2_with fail
        refine (K1.out _).mono ?_
        rintro e w2 ⟨rfl, rfl⟩
        go_wp2_with fail
        refine (K2.out _).mono ?_
        rintro e w2 ⟨rfl, rfl⟩
        go_wp2
        all_goals
          refine bodyPost_ret (v := .tuple #[.agg #[.int .i64 (max 0 (n - b + 1)), .int .i64 (n + b - 1)], .int .i64 0]) (by simp [results, Tryz.results11, go_sem]; try omega) rfl ⟨rfl, ?_⟩
          exact (Below.refl _ _).alloc (Nat.le_refl _) _
      · rw [if_pos (by simp [h3])]
        have h4 : (n % b != 0) = true := by simp [h3]
        clear h3
        go_enter Tryz.func11, Tryz.ntmps11
        go_wp2_with fail
        refine (K1.out _).mono ?_
        rintro e w2 ⟨rfl, rfl⟩
        go_wp2_with fail
        refine (K2.out _).mono ?_
        rintro e w2 ⟨rfl, rfl⟩
        go_wp2
        exact bodyPost_ret (v := .tuple #[.agg #[.int .i64 0, .int .i64 0], .int .i64 2]) (by simp [results, Tryz.results11, go_sem]) rfl ⟨rfl, (Below.refl _ _).alloc (Nat.le_refl _) _⟩
end Go.Proofs.YtlnamjhgbdacbaaGreat
/- The chapter's examples, which each statement checks last of all: they hold. -/
namespace Go.Proofs.YtlnamjhgbdacbaaGreat
open Go.RowKit Go.Shelf

def fourC : List (List Int) := [[3, 4], [6, 2]]
theorem two_cells {W : World} {g t : Nat} {u v : Value} (h : Blk W g t #[u, v]) : W.cell? ((⟨g, 0, none⟩ : Addr).add 0) = some u ∧ W.cell? ((⟨g, 0, none⟩ : Addr).add 1) = some v := by
  rw [add_blk, add_blk]; exact h.c2
theorem ints_two {W : World} {g : Nat} {x y : Int} (h : Blk W g 3 #[.int .i64 x, .int .i64 y]) : IsInts W W.heap.size (some ⟨g, 0, none⟩) [x, y] := ints_of_two h
/-- two rows of two numbers -/
theorem rows_two {W : World} {g g1 g2 : Nat} {x y u v : Int} (h1 : Blk W g1 3 #[.int .i64 x, .int .i64 y]) (h2 : Blk W g2 3 #[.int .i64 u, .int .i64 v]) (h : Blk W g 22 #[.slice (some ⟨g1, 0, none⟩) 2 2, .slice (some ⟨g2, 0, none⟩) 2 2]) : IsRows W W.heap.size (some ⟨g, 0, none⟩) [[x, y], [u, v]] := by
  intro r xs hr
  match r, hr with
  | 0, hr =>
    simp at hr; subst hr
    exact ⟨_, some ⟨g1, 0, none⟩, 2, rfl, h.lt, (two_cells h).1, Nat.le_refl _, by simp [maxLen], ints_of_two h1⟩
  | 1, hr =>
    simp at hr; subst hr
    exact ⟨_, some ⟨g2, 0, none⟩, 2, rfl, h.lt, (two_cells h).2, Nat.le_refl _, by simp [maxLen], ints_of_two h2⟩
  | r + 2, hr => simp at hr
theorem ints_three {W : World} {g : Nat} {x y z : Int} (h : Blk W g 3 #[.int .i64 x, .int .i64 y, .int .i64 z]) : IsInts W W.heap.size (some ⟨g, 0, none⟩) [x, y, z] := by
  intro k u hk
  refine ⟨_, rfl, h.lt, ?_⟩
  rw [add_blk, h.cell]
  match k, hk with
  | 0, hk => simp at hk; simp [hk]
  | 1, hk => simp at hk; simp [hk]
  | 2, hk => simp at hk; simp [hk]
  | k + 3, hk => simp at hk

/-- the chapter's table -/
def GivesFour (A : Option Addr) (c : Nat) (fs : List Fx) (w : World) (e : Ending) (w' : World) : Prop :=
  ∃ g, e = .returned (.agg #[.int .i64 5, .slice (some ⟨g, 0, none⟩) fourC.length 2, .slice A fs.length c]) ∧ TIn (some ⟨g, 0, none⟩) 2 fourC A c fs w' ∧ Below w.heap.size w w'
theorem four_chk : chkE 5 fourC [] = 0 := by decide +kernel
theorem four_ways : (spec 5 fourC [] fourC.length zeroS).ways = 4 := by decide +kernel
theorem four_change : (spec 5 fourC [] fourC.length zeroS).change = 6 := by decide +kernel
theorem four_best : bestOf 5 fourC [] fourC.length zeroS = [[5, 5], [5, 0]] := by decide +kernel
theorem four_span : spanOf 5 fourC [] = [[(0, 5), (0, 5)], [(5, 10), (0, 5)]] := by decide +kernel
theorem three_div : divE [3, 2, 2] 10 = 0 ∧ divOf [3, 2, 2] 10 = [4, 3, 3] := by decide +kernel
end Go.Proofs.YtlnamjhgbdacbaaGreat
/- awake: the chapter's examples hold. -/
namespace Go.Proofs.YtlnamjhgbdacbaaGreat
open Go.RowKit Go.Shelf

def GivesB4 (w : World) (e : Ending) (w' : World) : Prop := ∃ A c, e = .returned (.tuple #[.slice A 2 c, .int .i64 6, .int .i64 0]) ∧ IsRows w' w'.heap.size A [[5, 5], [5, 0]] ∧ Below w.heap.size w w'
theorem best_four {A A2 : Option Addr} {c c2 : Nat} {w : World} (h : TIn A c fourC A2 c2 [] w) : Calls Tryz.prog 10 #[.agg #[.int .i64 5, .slice A fourC.length c, .slice A2 ([] : List Fx).length c2]] w (GivesB4 w) := by
  refine (best_any 5 A c fourC A2 c2 [] w h).mono fun e w' h' => ?_
  rw [if_neg (by simp [four_chk]), if_neg (by rw [four_ways]; decide)] at h'
  obtain ⟨A', c', he, h1, _, _, _, _, h2⟩ := h'
  rw [four_change] at he
  rw [four_best] at h1
  exact ⟨A', c', he, h1, h2⟩
theorem ways_four {A A2 : Option Addr} {c c2 : Nat} {w : World} (h : TIn A c fourC A2 c2 [] w) : Calls Tryz.prog 21 #[.agg #[.int .i64 5, .slice A fourC.length c, .slice A2 ([] : List Fx).length c2]] w fun e w' => e = .returned (.tuple #[.int .i64 4, .int .i64 0]) ∧ Below w.heap.size w w' := by
  refine (ways_any 5 A c fourC A2 c2 [] w h).mono fun e w' h' => ?_
  rw [if_pos four_chk, four_ways] at h'
  exact h'
def GivesD3 (w : World) (e : Ending) (w' : World) : Prop := ∃ A c, e = .returned (.tuple #[.slice A 3 c, .int .i64 0]) ∧ IsInts w' w'.heap.size A [4, 3, 3] ∧ 3 ≤ c ∧ c ≤ maxLen ∧ Below w.heap.size w w'
theorem div_three {A : Option Addr} {w : World} (h : IsInts w w.heap.size A [3, 2, 2]) : Calls Tryz.prog 57 #[.slice A 3 3, .int .i64 10] w (GivesD3 w) := by
  refine (divide_any A 3 [3, 2, 2] 10 w h (by decide) (by decide)).mono fun e w' h' => ?_
  rw [if_neg (by simp [three_div.1])] at h'
  obtain ⟨A', c', he, h1, h2, h3, _, _, h4⟩ := h'
  rw [three_div.2] at h1
  exact ⟨A', c', he, h1, h2, h3, h4⟩
theorem learn_five (w : World) : Calls Tryz.prog 11 #[.int .i64 5, .int .i64 10] w fun e w' => e = .returned (.tuple #[.agg #[.int .i64 6, .int .i64 14], .int .i64 0]) ∧ Below w.heap.size w w' := by
  refine (learn_any 5 10 w).mono fun e w' h' => ?_
  rw [if_neg (by decide), if_neg (by decide)] at h'
  exact h'

end Go.Proofs.YtlnamjhgbdacbaaGreat
/- The reference: small tests of numbers. -/
namespace Go.Proofs.YtlnamjhgbdacbaaGreat
open Go.RowKit Go.Shelf

/-- whether a number is a neighbour of another one -/
def nbrB (b n m : Int) : Bool := (n.tmod b == 0) && withinB (n - m) (1 - b) (b - 1)
end Go.Proofs.YtlnamjhgbdacbaaGreat
/- The reference's error of a table: it is the program's. -/
namespace Go.Proofs.YtlnamjhgbdacbaaGreat
open Go.RowKit Go.Shelf

/-- what decides the error -/
theorem chk_lim {b : Int} {cs : List (List Int)} {fs : List Fx} (h : 5 < cs.length ∨ 10 < fs.length) : chkE b cs fs = 3 := by
  unfold chkE
  rw [if_pos]
  simp only [Bool.or_eq_true, decide_eq_true_eq]
  omega
theorem chk_wide {b : Int} {cs : List (List Int)} {fs : List Fx} {r : Nat} {xs : List Int} (h : cs[r]? = some xs) (h2 : 4 < xs.length) : chkE b cs fs = 3 := by
  unfold chkE
  rw [if_pos]
  have : cs.all narrowB = false := by
    rw [List.all_eq_false]
    exact ⟨xs, List.mem_of_getElem? h, by simp [narrowB]; omega⟩
  simp [this]
/-- the table is small enough -/
structure Lim (cs : List (List Int)) (fs : List Fx) : Prop where
  l : cs.length ≤ 5
  f : fs.length ≤ 10
  r : ∀ xs ∈ cs, xs.length ≤ 4
theorem chk_else {b : Int} {cs : List (List Int)} {fs : List Fx} (h : Lim cs fs) : chkE b cs fs = if !withinB b 2 100 || ((colsOf cs : Int) == 0) || !cs.all (rowB (colsOf cs) 10000) || !fs.all (fixOkB cs.length (colsOf cs)) then 1 else 0 := by
  unfold chkE
  rw [if_neg]
  have h1 : decide (5 < (cs.length : Int)) = false := by have := h.l; simp; omega
  have h2 : cs.all narrowB = true := List.all_eq_true.2 fun xs hx => by have := h.r xs hx; simp [narrowB]; omega
  have h3 : decide (10 < (fs.length : Int)) = false := by have := h.f; simp; omega
  rw [h1, h2, h3]; simp
theorem chk_base {b : Int} {cs : List (List Int)} {fs : List Fx} (h : Lim cs fs) (hb : withinB b 2 100 = false) : chkE b cs fs = 1 := by rw [chk_else h, hb]; rfl
theorem chk_cols {b : Int} {cs : List (List Int)} {fs : List Fx} (h : Lim cs fs) (hb : colsOf cs = 0) : chkE b cs fs = 1 := by rw [chk_else h, hb]; simp
theorem chk_row {b : Int} {cs : List (List Int)} {fs : List Fx} {r : Nat} {xs : List Int} (h : Lim cs fs) (hr : cs[r]? = some xs) (hb : rowB (colsOf cs) 10000 xs = false) : chkE b cs fs = 1 := by
  rw [chk_else h, if_pos]
  have : cs.all (rowB (colsOf cs) 10000) = false := by
    rw [List.all_eq_false]
    exact ⟨xs, List.mem_of_getElem? hr, by simp [hb]⟩
  simp [this]
theorem chk_fix {b : Int} {cs : List (List Int)} {fs : List Fx} {i : Nat} {f : Fx} (h : Lim cs fs) (hr : fs[i]? = some f) (hb : fixOkB cs.length (colsOf cs) f = false) : chkE b cs fs = 1 := by
  rw [chk_else h, if_pos]
  have : fs.all (fixOkB cs.length (colsOf cs)) = false := by
    rw [List.all_eq_false]
    exact ⟨f, List.mem_of_getElem? hr, by simp [hb]⟩
  simp [this]
theorem chk_fine {b : Int} {cs : List (List Int)} {fs : List Fx} (h : Lim cs fs) (h1 : withinB b 2 100 = true) (h2 : colsOf cs ≠ 0) (h3 : ∀ xs ∈ cs, rowB (colsOf cs) 10000 xs = true) (h4 : ∀ f ∈ fs, fixOkB cs.length (colsOf cs) f = true) : chkE b cs fs = 0 := by
  rw [chk_else h, if_neg]
  have e2 : ((colsOf cs : Int) == 0) = false := by simp; omega
  rw [h1, e2, List.all_eq_true.2 h3, List.all_eq_true.2 h4]; simp

end Go.Proofs.YtlnamjhgbdacbaaGreat
/- alike: whether numbers have the rows and columns of a table. -/
namespace Go.Proofs.YtlnamjhgbdacbaaGreat
open Go.RowKit Go.Shelf

def alikeB (n m : Nat) (l : List (List Int)) : Bool := ((l.length : Int) == (n : Int)) && l.all (rowB m 10100)

end Go.Proofs.YtlnamjhgbdacbaaGreat
/- ProveRounding and Change: what they answer, for every table and all numbers. -/
namespace Go.Proofs.YtlnamjhgbdacbaaGreat
open Go.RowKit Go.Shelf

def nearRow (b : Int) (xs ys : List Int) (k : Nat) : Bool := (List.range k).all fun j => nearB b (xs.getD j 0) (ys.getD j 0)
theorem nearRow_succ (b : Int) (xs ys : List Int) (k : Nat) : nearRow b xs ys (k + 1) = (nearRow b xs ys k && nearB b (xs.getD k 0) (ys.getD k 0)) := by
  simp [nearRow, List.range_succ]
theorem nearRow_false {b : Int} {xs ys : List Int} {k m : Nat} (h : k < m) (hk : nearB b (xs.getD k 0) (ys.getD k 0) = false) : nearRow b xs ys m = false := by
  unfold nearRow
  rw [List.all_eq_false]
  exact ⟨k, List.mem_range.2 h, by rw [hk]; simp⟩
def rowPr (b : Int) (cs : List (List Int)) (fs : List Fx) (l : List (List Int)) (i : Nat) : Bool :=
  nearRow b (l.getD i []) (cs.getD i []) (l.getD i []).length && (nearB b (l.getD i []).sum (cs.getD i []).sum && holdsB fs i (l.getD i []))
def rowsPr (b : Int) (cs : List (List Int)) (fs : List Fx) (l : List (List Int)) (k : Nat) : Bool := (List.range k).all fun i => rowPr b cs fs l i
theorem rowsPr_succ (b : Int) (cs : List (List Int)) (fs : List Fx) (l : List (List Int)) (k : Nat) : rowsPr b cs fs l (k + 1) = (rowsPr b cs fs l k && rowPr b cs fs l k) := by
  simp [rowsPr, List.range_succ]
theorem rowsPr_false {b : Int} {cs : List (List Int)} {fs : List Fx} {l : List (List Int)} {k m : Nat} (h : k < m) (hk : rowPr b cs fs l k = false) : rowsPr b cs fs l m = false := by
  unfold rowsPr
  rw [List.all_eq_false]
  exact ⟨k, List.mem_range.2 h, by rw [hk]; simp⟩
def proveB (b : Int) (cs : List (List Int)) (fs : List Fx) (l : List (List Int)) (ch : Int) : Bool :=
  (chkE b cs fs == 0) && (alikeB cs.length (colsOf cs) l && (rowsPr b cs fs l l.length && (closesB b cs (addedS l) && decide (changeOf l cs ≤ ch))))
theorem alike_rows {n m : Nat} {l : List (List Int)} (h : alikeB n m l = true) : l.length = n ∧ ∀ r ∈ l, r.length = m ∧ ∀ x ∈ r, 0 ≤ x ∧ x ≤ 10100 := by
  simp only [alikeB, Bool.and_eq_true, beq_iff_eq] at h
  refine ⟨by omega, fun r hr => ?_⟩
  have := List.all_eq_true.1 h.2 r hr
  simp only [rowB, Bool.and_eq_true, beq_iff_eq] at this
  exact ⟨by omega, fun x hx => by simpa [withinB] using List.all_eq_true.1 this.2 x hx⟩

end Go.Proofs.YtlnamjhgbdacbaaGreat
/- The laws' tests of a table: short, Thin, fault, ready. -/
namespace Go.Proofs.YtlnamjhgbdacbaaGreat
open Go.RowKit Go.Shelf

def shortB (l : List (List Int)) : Bool := (l.take 9).all (fun xs => decide (xs.length ≤ 7)) && decide (l.length ≤ 8)
def thinB (cs : List (List Int)) (fs : List Fx) : Bool := shortB cs && decide (fs.length ≤ 13)
def readyB (b : Int) (cs : List (List Int)) (fs : List Fx) : Bool := thinB cs fs && (chkE b cs fs == 0)

end Go.Proofs.YtlnamjhgbdacbaaGreat
/- The reference's tests of numbers: rows and columns, fixes, the change. -/
namespace Go.Proofs.YtlnamjhgbdacbaaGreat
open Go.RowKit Go.Shelf

def alkTo (m : Nat) (l : List (List Int)) (k : Nat) : Bool := (l.take k).all fun r => decide (r.length = m)
def ralkB (n m : Nat) (l : List (List Int)) : Bool := alkTo m l l.length && decide (l.length = n)
theorem alkTo_succ {m k : Nat} {l : List (List Int)} {x : List Int} (h : l[k]? = some x) : alkTo m l (k + 1) = (alkTo m l k && decide (x.length = m)) := by
  obtain ⟨hk, rfl⟩ := List.getElem?_eq_some_iff.1 h
  unfold alkTo
  rw [List.take_succ_eq_append_getElem hk, List.all_append]; simp
theorem ralk_false {n m k : Nat} {l : List (List Int)} {x : List Int} (h : l[k]? = some x) (hx : x.length ≠ m) : ralkB n m l = false := by
  unfold ralkB alkTo
  rw [List.take_length, Bool.and_eq_false_iff]
  left
  rw [List.all_eq_false]
  exact ⟨x, List.mem_of_getElem? h, by simpa using hx⟩

def holdF (l : List (List Int)) (f : Fx) : Bool := (l.getD f.row.toNat []).getD f.col.toNat 0 == f.val
def rholdB (fs : List Fx) (l : List (List Int)) : Bool := fs.all (holdF l)
theorem rhold_take {fs : List Fx} {l : List (List Int)} {k : Nat} {f : Fx} (h : fs[k]? = some f) : rholdB (fs.take (k + 1)) l = (rholdB (fs.take k) l && holdF l f) := by
  obtain ⟨hk, rfl⟩ := List.getElem?_eq_some_iff.1 h
  unfold rholdB
  rw [List.take_succ_eq_append_getElem hk, List.all_append]; simp
theorem rhold_false {fs : List Fx} {l : List (List Int)} {k : Nat} {f : Fx} (h : fs[k]? = some f) (hf : holdF l f = false) : rholdB fs l = false := by
  unfold rholdB
  rw [List.all_eq_false]
  exact ⟨f, List.mem_of_getElem? h, by rw [hf]; simp⟩

end Go.Proofs.YtlnamjhgbdacbaaGreat
/- The reference's change of numbers. -/
namespace Go.Proofs.YtlnamjhgbdacbaaGreat
open Go.RowKit Go.Shelf

end Go.Proofs.YtlnamjhgbdacbaaGreat
/- The reference's sums of numbers. -/
namespace Go.Proofs.YtlnamjhgbdacbaaGreat
open Go.RowKit Go.Shelf

/-- a block of n numbers -/
def cellsF (n : Nat) (F : Nat → Int) : Array Value := ((List.range n).map fun i => Value.int .i64 (F i)).toArray
theorem cellsF_get {n : Nat} {F : Nat → Int} {i : Nat} (h : i < n) : (cellsF n F)[i]? = some (.int .i64 (F i)) := by
  simp [cellsF, h]
theorem cellsF_set {n k : Nat} {F F' : Nat → Int} {v : Int} (hv : v = F' k) (h : ∀ i, i < n → i ≠ k → F' i = F i) : (cellsF n F).setIfInBounds k (.int .i64 v) = cellsF n F' := by
  apply Array.ext
  · simp [cellsF]
  · intro i h1 h2
    have hi : i < n := by simpa [cellsF] using h2
    rw [Array.getElem_setIfInBounds (by simpa [cellsF] using hi)]
    by_cases hk : k = i
    · subst hk; rw [if_pos rfl]; simp [cellsF, hv]
    · rw [if_neg hk]; simp [cellsF, h i hi (fun e => hk e.symm)]
theorem cellsF_ext {n : Nat} {F F' : Nat → Int} (h : ∀ i, i < n → F' i = F i) : cellsF n F' = cellsF n F := by
  unfold cellsF
  congr 1
  apply List.map_congr_left
  intro i hi
  rw [h i (List.mem_range.1 hi)]
theorem cellsF_zero (n : Nat) : madeCells #[.int .i64 0] n = cellsF n fun _ => 0 := by
  apply Array.ext
  · rw [size_madeCells]; simp [cellsF]
  · intro i h1 h2
    have hi : i < n := by simpa [cellsF] using h2
    simp [cellsF, madeCells, Nat.mod_one]
/-- the sums of rows and columns when row r is done up to c -/
def rowF (l : List (List Int)) (r c : Nat) (i : Nat) : Int := if i < r then (l.getD i []).sum else if i = r then ((l.getD r []).take c).sum else 0
def colTo (l : List (List Int)) (r i : Nat) : Int := ((List.range r).map fun k => (l.getD k []).getD i 0).sum
def colF (l : List (List Int)) (r c : Nat) (i : Nat) : Int := colTo l r i + if i < c then (l.getD r []).getD i 0 else 0
def totTo (l : List (List Int)) (r : Nat) : Int := ((List.range r).map fun k => (l.getD k []).sum).sum

theorem sum_range_bounds {M : Int} {f : Nat → Int} : ∀ {r : Nat}, (∀ k, k < r → 0 ≤ f k ∧ f k ≤ M) → 0 ≤ ((List.range r).map f).sum ∧ ((List.range r).map f).sum ≤ r * M
  | 0, _ => by simp
  | r + 1, h => by
    have ih := sum_range_bounds (r := r) fun k hk => h k (by omega)
    have h1 := h r (by omega)
    rw [List.range_succ, List.map_append, List.sum_append, Int.natCast_add, Int.add_mul]
    simp only [List.map_cons, List.map_nil, List.sum_cons, List.sum_nil, Int.natCast_one, Int.one_mul]
    omega
theorem colTo_succ (l : List (List Int)) (r i : Nat) : colTo l (r + 1) i = colTo l r i + (l.getD r []).getD i 0 := by
  unfold colTo; rw [List.range_succ, List.map_append, List.sum_append]; simp
theorem totTo_succ (l : List (List Int)) (r : Nat) : totTo l (r + 1) = totTo l r + (l.getD r []).sum := by
  unfold totTo; rw [List.range_succ, List.map_append, List.sum_append]; simp
theorem rowF_step {l : List (List Int)} {r c : Nat} {x : Int} (hx : (l.getD r [])[c]? = some x) : rowF l r (c + 1) r = rowF l r c r + x ∧ ∀ i, i ≠ r → rowF l r (c + 1) i = rowF l r c i := by
  obtain ⟨hc, e⟩ := List.getElem?_eq_some_iff.1 hx
  refine ⟨?_, fun i hi => ?_⟩
  · unfold rowF
    rw [if_neg (by omega), if_pos rfl, if_neg (by omega), if_pos rfl, List.take_succ_eq_append_getElem hc, List.sum_append, e]
    simp
  · unfold rowF
    rw [if_neg (c := i = r) hi, if_neg (c := i = r) hi]
theorem colF_step {l : List (List Int)} {r c : Nat} {x : Int} (hx : (l.getD r [])[c]? = some x) : colF l r (c + 1) c = colF l r c c + x ∧ ∀ i, i ≠ c → colF l r (c + 1) i = colF l r c i := by
  refine ⟨?_, fun i hi => ?_⟩
  · unfold colF
    rw [if_pos (by omega), if_neg (by omega), List.getD, hx]; simp
  · unfold colF
    by_cases h : i < c
    · rw [if_pos h, if_pos (by omega)]
    · rw [if_neg h, if_neg (by omega)]
theorem rowF_next {l : List (List Int)} {r m : Nat} (hm : (l.getD r []).length = m) (i : Nat) : rowF l (r + 1) 0 i = rowF l r m i := by
  unfold rowF
  by_cases h1 : i < r
  · rw [if_pos h1, if_pos (by omega)]
  · by_cases h2 : i = r
    · subst h2
      rw [if_pos (by omega), if_neg h1, if_pos rfl, List.take_of_length_le (by omega)]
    · rw [if_neg (c := i < r + 1) (by omega), if_neg h1, if_neg h2]
      split <;> simp
theorem colF_next {l : List (List Int)} {r m i : Nat} (hi : i < m) : colF l (r + 1) 0 i = colF l r m i := by
  unfold colF
  rw [colTo_succ, if_pos hi, if_neg (by omega)]; omega
theorem bounds_at {l : List (List Int)} (bx : ∀ r ∈ l, ∀ x ∈ r, 0 ≤ x ∧ x ≤ 10100) (hm : ∀ r ∈ l, r.length ≤ 4) (k : Nat) : (∀ i, 0 ≤ (l.getD k []).getD i 0 ∧ (l.getD k []).getD i 0 ≤ 10100) ∧ (0 ≤ (l.getD k []).sum ∧ (l.getD k []).sum ≤ 40400) ∧ ∀ c, 0 ≤ ((l.getD k []).take c).sum ∧ ((l.getD k []).take c).sum ≤ 40400 := by
  have h1 : ∀ x ∈ l.getD k [], 0 ≤ x ∧ x ≤ 10100 := fun x hx => by
    rw [List.getD] at hx
    cases hk : l[k]? with
    | none => rw [hk] at hx; simp at hx
    | some r => rw [hk] at hx; exact bx r (List.mem_of_getElem? hk) x hx
  have h2 : (l.getD k []).length ≤ 4 := by
    rw [List.getD]
    cases hk : l[k]? with
    | none => simp
    | some r => exact hm r (List.mem_of_getElem? hk)
  refine ⟨fun i => getD_small (by omega) h1 i, ?_, fun c => ?_⟩
  · have := sum_bound _ 10100 h1; omega
  · have := sum_bound ((l.getD k []).take c) 10100 (fun x hx => h1 x (List.mem_of_mem_take hx))
    have := List.length_take_le c (l.getD k [])
    have : ((l.getD k []).take c).length ≤ 4 := by rw [List.length_take]; omega
    omega
structure SumI (l : List (List Int)) (m g1 g2 r c d : Nat) (w : World) (W : World) : Prop where
  b1 : Blk W g1 3 (cellsF l.length (rowF l r c))
  b2 : Blk W g2 3 (cellsF m (colF l r d))
  ne : g1 ≠ g2
  h1 : w.heap.size ≤ g1
  h2 : w.heap.size ≤ g2
  below : Below w.heap.size w W
def GivesSums (l : List (List Int)) (m : Nat) (w : World) (e : Ending) (w' : World) : Prop :=
  ∃ g1 g2, e = .returned (.tuple #[.slice (some ⟨g1, 0, none⟩) l.length l.length, .slice (some ⟨g2, 0, none⟩) m m, .int .i64 (totTo l l.length)]) ∧ SumI l m g1 g2 l.length 0 0 w w'

end Go.Proofs.YtlnamjhgbdacbaaGreat
