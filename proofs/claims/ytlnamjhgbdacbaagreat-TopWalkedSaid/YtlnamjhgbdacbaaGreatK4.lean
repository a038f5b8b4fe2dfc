/- The walks and the plain laws of this part of the program, part 4: what each computes. Conditions stand at each theorem. -/
import Derived.RangeFuncBox
import Derived.Maps.AppendAt
import Derived.DeepKeys3
import Derived.WideKeyEntry
import Derived.Test.YtlnamjhgbdacbaaGreatK1
import Derived.Test.YtlnamjhgbdacbaaGreatK2
import Derived.Test.YtlnamjhgbdacbaaGreatK3
/- The order of Divide's parts: the sort, walked. -/
namespace Go.Proofs.YtlnamjhgbdacbaaGreat
open Go.RowKit

theorem grown_put (W : World) (p : Addr) (u : Value) : W.grownBy (W.setCell p u) (some p.block) := ⟨rfl, rfl, rfl, by simp, fun k _ hn => Below.heap_setCell W p u k (fun e => hn (by rw [e]))⟩
/-- an element moves to the front while its key is greater -/
def sink (key : Nat → Int) : Nat → List Nat → List Nat
  | 0, l => l
  | j + 1, l => if key (l.getD j 0) < key (l.getD (j + 1) 0) then sink key j ((l.set (j + 1) (l.getD j 0)).set j (l.getD (j + 1) 0)) else l
def insTo (key : Nat → Int) (l : List Nat) : Nat → List Nat
  | 0 => l
  | i + 1 => sink key i (insTo key l i)
theorem sink_len (key : Nat → Int) : ∀ (j : Nat) (l : List Nat), (sink key j l).length = l.length
  | 0, _ => rfl
  | j + 1, l => by
    unfold sink
    split
    · rw [sink_len key j]; simp
    · rfl
theorem insTo_len (key : Nat → Int) (l : List Nat) : ∀ i, (insTo key l i).length = l.length
  | 0 => rfl
  | i + 1 => by rw [insTo, sink_len, insTo_len key l i]
theorem sink_all {P : Nat → Prop} (key : Nat → Int) : ∀ (j : Nat) (l : List Nat), j < l.length → (∀ x ∈ l, P x) → ∀ x ∈ sink key j l, P x
  | 0, _, _, h => h
  | j + 1, l, hj, h => by
    unfold sink
    split
    · refine sink_all key j _ (by simp; omega) fun x hx => ?_
      have g : ∀ i, i < l.length → P (l.getD i 0) := fun i hi => by
        rw [show l.getD i 0 = l[i] by simp [List.getD, List.getElem?_eq_getElem hi]]
        exact h _ (List.getElem_mem hi)
      rcases List.mem_or_eq_of_mem_set hx with hx | rfl
      · rcases List.mem_or_eq_of_mem_set hx with hx | rfl
        · exact h x hx
        · exact g j (by omega)
      · exact g (j + 1) hj
    · exact h
theorem insTo_all {P : Nat → Prop} (key : Nat → Int) (l : List Nat) (h : ∀ x ∈ l, P x) : ∀ i, i ≤ l.length → ∀ x ∈ insTo key l i, P x
  | 0, _ => h
  | i + 1, hi => sink_all key i _ (by rw [insTo_len]; omega) (insTo_all key l h i (by omega))

/-- an array that begins with these numbers -/
def NB (W : World) (g m : Nat) (l : List Nat) : Prop := LB W g m (l.map Int.ofNat)
section
variable {W W' : World} {g m : Nat} {l : List Nat}
theorem NB.cell (h : NB W g m l) {k x : Nat} (hk : l[k]? = some x) : W.cell? ⟨g, k, none⟩ = some (.int .i64 (x : Int)) := by
  obtain ⟨arr, hb, hs, hc⟩ := h
  rw [cell_of_row W g k arr 3 (0, 0) hb]
  exact hc k x (by rw [List.getElem?_map, hk]; rfl)
theorem NB.lt (h : NB W g m l) : g < W.heap.size := LB.lt h
theorem NB.frozen (h : NB W g m l) (k : Nat) : W.frozen? ⟨g, k, none⟩ = false := by
  obtain ⟨arr, hb, hs, hc⟩ := h
  exact Blk.frozen (t := 3) (cs := arr) hb k
theorem NB.set_ (h : NB W g m l) (k x : Nat) : NB (W.setCell ⟨g, k, none⟩ (.int .i64 (x : Int))) g m (l.set k x) := by
  obtain ⟨arr, hb, hs, hc⟩ := h
  refine ⟨_, Blk.set_ (t := 3) (cs := arr) hb k _, by simpa using hs, fun j y hj => ?_⟩
  rw [List.getElem?_map, List.getElem?_set] at hj
  rw [Array.getElem?_setIfInBounds]
  by_cases e : k = j
  · rw [if_pos e] at hj ⊢
    split at hj
    · rename_i hl
      simp at hj
      have := hc j l[j] (by simp [List.getElem?_eq_getElem (show j < l.length by omega)])
      have := (Array.getElem?_eq_some_iff.1 this).1
      rw [if_pos (by omega), hj]
    · cases hj
  · rw [if_neg e] at hj ⊢
    exact hc j y (by rw [List.getElem?_map]; exact hj)
theorem NB.below (h : NB W g m l) (hb : Below W.heap.size W W') : NB W' g m l := LB.below h hb
end
def InsPh (g m : Nat) (l l' : List Nat) (li : Array Bool) (W : World) : Prop := NB W g m (if li.getD 15 false = true then l' else l)
theorem insPh_other {g m i : Nat} {l l' : List Nat} {li : Array Bool} {W : World} (h : InsPh g m l l' li W) (hi : i ≠ 15) : InsPh g m l l' (li.setIfInBounds i true) W := by unfold InsPh; rw [getD_set_oth hi]; exact h

/-- the sorted array -/
def GivesSort (g m : Nat) (l : List Nat) (w : World) (e : Ending) (w' : World) : Prop := (∃ v, e = .returned v) ∧ NB w' g m l ∧ w.grownBy w' (some g)

set_option maxRecDepth 100000 in
set_option maxHeartbeats 4000000 in
theorem ins_any {g m cap : Nat} (key : Nat → Int) (l : List Nat) (Bc : Nat) (w : World) (h : NB w g m l) (hl : l.length ≤ 100) (hl1 : 1 ≤ l.length) (hx : ∀ x ∈ l, x < l.length)
    (hcmp : ∀ (x y : Nat) (W : World), x < l.length → y < l.length → w.grownBy W (some g) → Calls Tryz.prog 86 #[.int .i64 (x : Int), .int .i64 (y : Int), .pointer (some ⟨Bc, 0, none⟩)] W fun e W' => e = .returned (.int .i64 (key y - key x)) ∧ Below W.heap.size W W') :
    Calls Tryz.prog 124 #[.slice (some ⟨g, 0, none⟩) l.length cap, .int .i64 0, .int .i64 (l.length : Int), .func (.func 86) #[] #[.pointer (some ⟨Bc, 0, none⟩)]] w (GivesSort g m (insTo key l l.length) w) := by
  have H0 := hid (show NB w g m (insTo key l 1) ∧ w.grownBy w (some g) from ⟨h, rfl, rfl, rfl, Nat.le_refl _, fun _ _ _ => rfl⟩)
  have HC := hid hcmp
  have HX := hid hx
  clear h hcmp hx
  go_enter Tryz.func124, Tryz.ntmps124
  go_wp2
  go_loopw [8] (fun i wr => ∃ k : Nat, 1 ≤ k ∧ k ≤ l.length ∧ i = .int .i64 k ∧ NB wr g m (insTo key l k) ∧ w.grownBy wr (some g)) (fun i _ => l.length - (intOf i).toNat)
  case atStart => exact ⟨1, Nat.le_refl _, by omega, rfl, H0.out⟩
  case round =>
    obtain ⟨k, hk1, hk, rfl, hn, hg⟩ := hrel
    clear H0
    by_cases hlt : k < l.length
    · have hkI : (k : Int) < (l.length : Int) := by omega
      have HN := hid (And.intro hn hg)
      clear hn hg
      go_wp2
      obtain ⟨wo, rfl⟩ : ∃ wo : World, wo = wr := ⟨_, rfl⟩
      go_loopw [9] (fun i wr => ∃ (j : Nat) (s : List Nat), j ≤ k ∧ i = .int .i64 j ∧ s.length = l.length ∧ (∀ x ∈ s, x < l.length) ∧ sink key j s = insTo key l (k + 1) ∧ NB wr g m s ∧ w.grownBy wr (some g)) (fun i _ => (intOf i).toNat)
      case atStart => exact ⟨k, insTo key l k, Nat.le_refl _, rfl, insTo_len _ _ _, insTo_all key l HX.out k hk, rfl, HN.out.1, HN.out.2⟩
      case round =>
        obtain ⟨j, s, hj, rfl, hs1, hs2, hs3, hnb, hgr⟩ := hrel
        have HS := hid (And.intro hs1 (And.intro hs2 (And.intro hs3 (And.intro hnb hgr))))
        cases j with
        | zero =>
          clear hs1 hs2 hs3 hnb hgr
          go_wp2
          refine wp_region_quiet_xt (by kernel_rfl) (by kernel_rfl) ?_
          repeat (go_big_quiet_step (fail))
          refine wpQuiet_nil ?_
          intro W2 hw2
          replace hw2 := of_xt hw2
          obtain ⟨hs1, hs2, hs3, hnb, hgr⟩ := HS.out
          have HF := hid (show NB W2 g m (insTo key l (k + 1)) ∧ w.grownBy W2 (some g) from ⟨by rw [← hs3]; exact hnb.below hw2, grown_same hgr (grown_of_below hw2 _)⟩)
          clear hs1 hs2 hs3 hnb hgr hw2
          go_wp2
          go_roundw
          case rel => exact ⟨k + 1, by omega, by omega, by go_num, HF.out⟩
          case measure => first | (simp [intOf]; done) | (simp [intOf]; omega)
        | succ j =>
          have hjl : j + 1 < l.length := by omega
          obtain ⟨x, hsj⟩ : ∃ x, s[j]? = some x := ⟨_, List.getElem?_eq_getElem (by omega)⟩
          obtain ⟨y, hsj1⟩ : ∃ y, s[j + 1]? = some y := ⟨_, List.getElem?_eq_getElem (by omega)⟩
          have hxl := hs2 x (List.mem_of_getElem? hsj)
          have hyl := hs2 y (List.mem_of_getElem? hsj1)
          have q1 := xt_cell (hnb.cell hsj)
          have q2 := xt_cell (hnb.cell hsj1)
          have HJ := hid (And.intro hsj hsj1)
          have hj0 : (0 : Int) < (j : Int) + 1 := by omega
          have hjI : (j : Int) + 1 < (l.length : Int) := by omega
          have hjI2 : (j : Int) < (l.length : Int) := by omega
          have hcall := hid (fun q => HC.out y x (xt wr q) hyl hxl (grown_same hgr (grown_of_below (below_xt wr q) _)))
          clear hs1 hs2 hs3 hnb hgr hsj hsj1
          rw [show ((j + 1 : Nat) : Int) = (j : Int) + 1 by omega]
          go_wp2
          refine wp_region_quiet_xt (by kernel_rfl) (by kernel_rfl) ?_
          repeat (go_big_quiet_step ((go_at_call 86; exact Calls.xt (hcall.out _))))
          refine wpQuiet_nil ?_
          intro W2 hw2
          replace hw2 := of_xt hw2
          have HW := hid hw2
          clear hw2 q1 q2 hcall
          by_cases hlt2 : key x < key y
          · have hd : decide (key x - key y < 0) = true := by simp; omega
            have HK := hid hlt2
            simp only [hd]
            clear hlt2 hd
            go_wp2
            have HP := hid (show NB W2 g m s ∧ w.grownBy W2 (some g) from ⟨HS.out.2.2.2.1.below HW.out, grown_same HS.out.2.2.2.2 (grown_of_below HW.out _)⟩)
            obtain ⟨hsj, hsj1⟩ := HJ.out
            have hjI : (j : Int) + 1 < (l.length : Int) := by omega
            have hjI2 : (j : Int) < (l.length : Int) := by omega
            refine (wpIn_wide (n := 0)).1 ?_
            refine wpIn_region_each 16 (fun i v _ => match i with | 0 => v = .slice (some ⟨g, 0, none⟩) l.length cap | 1 => v = .int .i64 ((j : Int) + 1) | 2 => v = .slice (some ⟨g, 0, none⟩) l.length cap | 3 => v = .int .i64 ((j : Int) + 1) | 4 => v = .int .i64 (j : Int) | 5 => v = .slice (some ⟨g, 0, none⟩) l.length cap | 6 => v = .int .i64 ((j : Int) + 1) | 7 => v = .int .i64 (j : Int) | 8 => v = .pointer (some ⟨g, j, none⟩) | 9 => v = .int .i64 (x : Int) | 10 => v = .slice (some ⟨g, 0, none⟩) l.length cap | 11 => v = .int .i64 ((j : Int) + 1) | 12 => v = .pointer (some ⟨g, j + 1, none⟩) | 13 => v = .int .i64 (y : Int) | 14 => v = .pointer (some ⟨g, j + 1, none⟩) | _ => True) (fun A B => A.grownBy B (some g)) (InsPh g m s (s.set (j + 1) x)) (by kernel_rfl) (by kernel_rfl) ?_ (fun h k => grown_same h k) ⟨rfl, rfl, rfl, Nat.le_refl _, fun _ _ _ => rfl⟩ (by unfold InsPh; rw [getD_replicate_false, if_neg (by decide)]; exact HP.out.1) (by kernel_rfl) ?_ ?_
            · intro i v _ _ _ h; exact h
            · refine ⟨?_, ?_, ?_, ?_, ?_, ?_, ?_, ?_, ?_, ?_, ?_, ?_, ?_, ?_, ?_, ?_, trivial⟩
              · -- 0
                intro li a1 W2 hA K hK
                have e0 := hA.par 0 (by kernel_rfl)
                refine opStep none 0 rfl rfl (fun c hc => by cases hc) ?_
                go_simp
                exact hK _ _ rfl (grown_of_below (Below.refl _ _) _) (insPh_other hA.ph (by decide))
              · -- 1
                intro li a1 W2 hA K hK
                have e9 := hA.par 9 (by kernel_rfl)
                refine opStep none 0 rfl rfl (fun c hc => by cases hc) ?_
                go_simp
                exact hK _ _ rfl (grown_of_below (Below.refl _ _) _) (insPh_other hA.ph (by decide))
              · -- 2
                intro li a1 W2 hA K hK
                have e0 := hA.par 0 (by kernel_rfl)
                refine opStep none 0 rfl rfl (fun c hc => by cases hc) ?_
                go_simp
                exact hK _ _ rfl (grown_of_below (Below.refl _ _) _) (insPh_other hA.ph (by decide))
              · -- 3
                intro li a1 W2 hA K hK
                have e9 := hA.par 9 (by kernel_rfl)
                refine opStep none 0 rfl rfl (fun c hc => by cases hc) ?_
                go_simp
                exact hK _ _ rfl (grown_of_below (Below.refl _ _) _) (insPh_other hA.ph (by decide))
              · -- 4
                intro li a1 W2 hA K hK
                have e40 : a1.tmps.getD 40 undef = .int .i64 ((j : Int) + 1) := hA.val 3 40 (by kernel_rfl) (by kernel_rfl)
                have hw : IntKind.i64.wrap (j : Int) = (j : Int) := by rw [IntKind.wrap_i64]; omega
                refine opStep none 0 rfl rfl (fun c hc => by cases hc) ?_
                go_simp
                exact hK _ _ (by first | rfl | exact congrArg (Value.int .i64) hw | exact congrArg (Value.int .i64) (by omega)) (grown_of_below (Below.refl _ _) _) (insPh_other hA.ph (by decide))
              · -- 5
                intro li a1 W2 hA K hK
                have e0 := hA.par 0 (by kernel_rfl)
                refine opStep none 0 rfl rfl (fun c hc => by cases hc) ?_
                go_simp
                exact hK _ _ rfl (grown_of_below (Below.refl _ _) _) (insPh_other hA.ph (by decide))
              · -- 6
                intro li a1 W2 hA K hK
                have e9 := hA.par 9 (by kernel_rfl)
                refine opStep none 0 rfl rfl (fun c hc => by cases hc) ?_
                go_simp
                exact hK _ _ rfl (grown_of_below (Below.refl _ _) _) (insPh_other hA.ph (by decide))
              · -- 7
                intro li a1 W2 hA K hK
                have e43 : a1.tmps.getD 43 undef = .int .i64 ((j : Int) + 1) := hA.val 6 43 (by kernel_rfl) (by kernel_rfl)
                have hw : IntKind.i64.wrap (j : Int) = (j : Int) := by rw [IntKind.wrap_i64]; omega
                refine opStep none 0 rfl rfl (fun c hc => by cases hc) ?_
                go_simp
                exact hK _ _ (by first | rfl | exact congrArg (Value.int .i64) hw | exact congrArg (Value.int .i64) (by omega)) (grown_of_below (Below.refl _ _) _) (insPh_other hA.ph (by decide))
              · -- 8
                intro li a1 W2 hA K hK
                have e42 : a1.tmps.getD 42 undef = .slice (some ⟨g, 0, none⟩) l.length cap := hA.val 5 42 (by kernel_rfl) (by kernel_rfl)
                have e44 : a1.tmps.getD 44 undef = .int .i64 (j : Int) := hA.val 7 44 (by kernel_rfl) (by kernel_rfl)
                refine opStep none 0 rfl rfl (fun c hc => by cases hc) ?_
                go_simp
                exact hK _ _ rfl (grown_of_below (Below.refl _ _) _) (insPh_other hA.ph (by decide))
              · -- 9
                intro li a1 W2 hA K hK
                have e45 : a1.tmps.getD 45 undef = .pointer (some ⟨g, j, none⟩) := hA.val 8 45 (by kernel_rfl) (by kernel_rfl)
                have hnl : li.getD 15 false = false := by
                  cases hl' : li.getD 15 false
                  · rfl
                  · have := hA.past hl' 9 (by kernel_rfl); rw [hA.new] at this; cases this
                have hb2 : NB W2 g m s := by have := hA.ph; unfold InsPh at this; rwa [hnl, if_neg (by decide)] at this
                have q1 := hb2.cell hsj
                refine opStep none 0 rfl rfl (fun c hc => by cases hc) ?_
                go_simp
                exact hK _ _ rfl (grown_of_below (Below.refl _ _) _) (insPh_other hA.ph (by decide))
              · -- 10
                intro li a1 W2 hA K hK
                have e0 := hA.par 0 (by kernel_rfl)
                refine opStep none 0 rfl rfl (fun c hc => by cases hc) ?_
                go_simp
                exact hK _ _ rfl (grown_of_below (Below.refl _ _) _) (insPh_other hA.ph (by decide))
              · -- 11
                intro li a1 W2 hA K hK
                have e9 := hA.par 9 (by kernel_rfl)
                refine opStep none 0 rfl rfl (fun c hc => by cases hc) ?_
                go_simp
                exact hK _ _ rfl (grown_of_below (Below.refl _ _) _) (insPh_other hA.ph (by decide))
              · -- 12
                intro li a1 W2 hA K hK
                have e47 : a1.tmps.getD 47 undef = .slice (some ⟨g, 0, none⟩) l.length cap := hA.val 10 47 (by kernel_rfl) (by kernel_rfl)
                have e48 : a1.tmps.getD 48 undef = .int .i64 ((j : Int) + 1) := hA.val 11 48 (by kernel_rfl) (by kernel_rfl)
                refine opStep none 0 rfl rfl (fun c hc => by cases hc) ?_
                go_simp
                exact hK _ _ rfl (grown_of_below (Below.refl _ _) _) (insPh_other hA.ph (by decide))
              · -- 13
                intro li a1 W2 hA K hK
                have e49 : a1.tmps.getD 49 undef = .pointer (some ⟨g, j + 1, none⟩) := hA.val 12 49 (by kernel_rfl) (by kernel_rfl)
                have hnl : li.getD 15 false = false := by
                  cases hl' : li.getD 15 false
                  · rfl
                  · have := hA.past hl' 13 (by kernel_rfl); rw [hA.new] at this; cases this
                have hb2 : NB W2 g m s := by have := hA.ph; unfold InsPh at this; rwa [hnl, if_neg (by decide)] at this
                have q1 := hb2.cell hsj1
                refine opStep none 0 rfl rfl (fun c hc => by cases hc) ?_
                go_simp
                exact hK _ _ rfl (grown_of_below (Below.refl _ _) _) (insPh_other hA.ph (by decide))
              · -- 14
                intro li a1 W2 hA K hK
                have e37 : a1.tmps.getD 37 undef = .slice (some ⟨g, 0, none⟩) l.length cap := hA.val 0 37 (by kernel_rfl) (by kernel_rfl)
                have e38 : a1.tmps.getD 38 undef = .int .i64 ((j : Int) + 1) := hA.val 1 38 (by kernel_rfl) (by kernel_rfl)
                refine opStep none 0 rfl rfl (fun c hc => by cases hc) ?_
                go_simp
                exact hK _ _ rfl (grown_of_below (Below.refl _ _) _) (insPh_other hA.ph (by decide))
              · -- 15
                intro li a1 W2 hA K hK
                have e51 : a1.tmps.getD 51 undef = .pointer (some ⟨g, j + 1, none⟩) := hA.val 14 51 (by kernel_rfl) (by kernel_rfl)
                have e46 : a1.tmps.getD 46 undef = .int .i64 (x : Int) := hA.val 9 46 (by kernel_rfl) (by kernel_rfl)
                have hb2 : NB W2 g m s := by have := hA.ph; unfold InsPh at this; rwa [hA.new, if_neg (by decide)] at this
                have q1 := hb2.cell hsj1
                have q2 := hb2.frozen (j + 1)
                have q3 := hb2.lt
                refine opStep none 0 rfl rfl (fun c hc => by cases hc) ?_
                go_simp
                exact hK undef _ trivial (grown_put W2 ⟨g, j + 1, none⟩ _) (by unfold InsPh; rw [getD_set_eq (by rw [hA.lsize]; decide), if_pos rfl]; exact hb2.set_ (j + 1) x)
            · intro li a1 W3 hD
              have e39 : a1.tmps.getD 39 undef = .slice (some ⟨g, 0, none⟩) l.length cap := hD.val 2 39 (by kernel_rfl) (by kernel_rfl)
              have e41 : a1.tmps.getD 41 undef = .int .i64 (j : Int) := hD.val 4 41 (by kernel_rfl) (by kernel_rfl)
              have e50 : a1.tmps.getD 50 undef = .int .i64 (y : Int) := hD.val 13 50 (by kernel_rfl) (by kernel_rfl)
              have hb2 : NB W3 g m (s.set (j + 1) x) := by have := hD.ph; unfold InsPh at this; rwa [hD.all 15 (by decide), if_pos rfl] at this
              have hgr := grown_same HP.out.2 hD.st
              have hkp := hD.keeps (ds := [37, 38, 39, 40, 41, 42, 43, 44, 45, 46, 47, 48, 49, 50, 51, 52]) (by kernel_rfl)
              have hds := hD.size
              have hs53 : a1.tmps.size = 53 := hD.size
              have hdd := hD.defers
              clear hD
              refine tail_val (i := 16) (v := .pointer (some ⟨g, j, none⟩)) (W' := W3) none 0 rfl rfl rfl (fun c hc => by cases hc) (by go_simp) (by rw [hs53]; decide) ?_
              intro a2 s2 d2 f2 o2
              have hkp2 := keeps_then hkp o2 (by decide)
              have e50' := (o2 50 (by decide)).trans e50
              have q1 := hb2.cell (k := j) (x := x) (by rw [List.getElem?_set_ne (by omega)]; exact hsj)
              have q2 := hb2.frozen j
              have q3 := hb2.lt
              refine tail_store (i := 17) (W' := W3.setCell ⟨g, j, none⟩ (.int .i64 (y : Int))) none 0 rfl rfl rfl (fun c hc => by cases hc) (by go_simp) ?_
              have hb3 := hb2.set_ j y
              have hgj : s.getD j 0 = x := by simp [List.getD, hsj]
              have hgj1 : s.getD (j + 1) 0 = y := by simp [List.getD, hsj1]
              obtain ⟨hs1, hs2, hs3, _, _⟩ := HS.out
              have hsk : sink key j ((s.set (j + 1) x).set j y) = insTo key l (k + 1) := by
                rw [← hs3, sink, hgj, hgj1, if_pos HK.out]
              have hmem : ∀ z ∈ (s.set (j + 1) x).set j y, z < l.length := by
                intro z hz
                rcases List.mem_or_eq_of_mem_set hz with hz | rfl
                · rcases List.mem_or_eq_of_mem_set hz with hz | rfl
                  · exact hs2 z hz
                  · exact hs2 _ (List.mem_of_getElem? hsj)
                · exact hs2 _ (List.mem_of_getElem? hsj1)
              have HN := hid (show ((s.set (j + 1) x).set j y).length = l.length ∧ (∀ z ∈ (s.set (j + 1) x).set j y, z < l.length) ∧ sink key j ((s.set (j + 1) x).set j y) = insTo key l (k + 1) ∧ NB (W3.setCell ⟨g, j, none⟩ (.int .i64 (y : Int))) g m ((s.set (j + 1) x).set j y) ∧ w.grownBy (W3.setCell ⟨g, j, none⟩ (.int .i64 (y : Int))) (some g) from
                ⟨by simp [hs1], hmem, hsk, hb3, grown_same hgr (grown_put W3 ⟨g, j, none⟩ _)⟩)
              have e := act_mix [37, 38, 39, 40, 41, 42, 43, 44, 45, 46, 47, 48, 49, 50, 51, 52] (s2.trans hds) (d2.trans hdd) (fun i _ hc => hkp2 i hc)
              clear hb2 hb3 hgj hgj1 hsk hmem hkp hkp2 q1 q2 q3 e39 e41 e50 e50' s2 d2 f2 o2 hds hs53 hdd hgr hs1 hs2 hs3 hsj hsj1 HS HP HJ HK HW hjI hjI2
              generalize W3.setCell ⟨g, j, none⟩ (.int .i64 (y : Int)) = W4 at *
              generalize (fun i => a2.tmps.getD i undef) = g' at e
              refine wpListIn_nil ?_
              rw [e]
              clear e a1 a2 li
              simp only [mix, List.contains_cons, List.contains_nil, Nat.reduceAdd, Nat.reduceBEq, Bool.or_false, Bool.or_true, cond_true, cond_false]
              go_wp2
              go_roundw
              case rel => exact ⟨j, _, by omega, (by first | rfl | exact congrArg (Value.int .i64) (by omega)), HN.out⟩
              case measure => first | (simp [intOf]; done) | (simp [intOf]; omega)
          · have hd : decide (key x - key y < 0) = false := by simp; omega
            have HK := hid hlt2
            simp only [hd]
            clear hlt2 hd
            obtain ⟨hs1, hs2, hs3, hnb, hgr⟩ := HS.out
            have hgj : s.getD j 0 = x := by simp [List.getD, HJ.out.1]
            have hgj1 : s.getD (j + 1) 0 = y := by simp [List.getD, HJ.out.2]
            have HF := hid (show NB W2 g m (insTo key l (k + 1)) ∧ w.grownBy W2 (some g) from ⟨by rw [← hs3, sink, hgj, hgj1, if_neg HK.out]; exact hnb.below HW.out, grown_same hgr (grown_of_below HW.out _)⟩)
            clear hs1 hs2 hs3 hnb hgr hgj hgj1 HS HJ HK HW
            go_wp2
            go_roundw
            case rel => exact ⟨k + 1, by omega, by omega, by go_num, HF.out⟩
            case measure => first | (simp [intOf]; done) | (simp [intOf]; omega)
    · have hkI : decide ((k : Int) < (l.length : Int)) = false := by simp; omega
      obtain rfl : k = l.length := by omega
      have HF := hid (And.intro hn hg)
      clear hn hg
      go_wp2
      go_end0
      exact ⟨⟨_, rfl⟩, HF.out⟩
end Go.Proofs.YtlnamjhgbdacbaaGreat
/- The order of Divide's parts: the sort, whole. -/
namespace Go.Proofs.YtlnamjhgbdacbaaGreat
open Go.RowKit

set_option maxRecDepth 100000 in
set_option maxHeartbeats 1000000 in
theorem stable_any {g m cap : Nat} (key : Nat → Int) (l : List Nat) (Bc : Nat) (w : World) (h : NB w g m l) (hl : l.length ≤ 12) (hl1 : 1 ≤ l.length) (hx : ∀ x ∈ l, x < l.length)
    (hcmp : ∀ (x y : Nat) (W : World), x < l.length → y < l.length → w.grownBy W (some g) → Calls Tryz.prog 86 #[.int .i64 (x : Int), .int .i64 (y : Int), .pointer (some ⟨Bc, 0, none⟩)] W fun e W' => e = .returned (.int .i64 (key y - key x)) ∧ Below W.heap.size W W') :
    Calls Tryz.prog 114 #[.slice (some ⟨g, 0, none⟩) l.length cap, .int .i64 (l.length : Int), .func (.func 86) #[] #[.pointer (some ⟨Bc, 0, none⟩)]] w (GivesSort g m (insTo key l l.length) w) := by
  have K := hid (ins_any (cap := cap) key l Bc w h (by omega) hl1 hx hcmp)
  clear h hx hcmp
  have h1 : decide ((20 : Int) ≤ (l.length : Int)) = false := by simp; omega
  have h2 : decide ((20 : Int) < (l.length : Int)) = false := by simp; omega
  go_enter Tryz.func114, Tryz.ntmps114
  go_wp2
  go_loop [7, 8] (fun a b => a = .int .i64 0 ∧ b = .int .i64 20) (fun _ _ => 0)
  case atStart => exact ⟨rfl, rfl⟩
  case round =>
    obtain ⟨rfl, rfl⟩ := hrel
    go_wp2_with (go_at_call 124; refine (K.out).mono ?_; rintro e w2 ⟨⟨v, rfl⟩, hn, hg⟩; have HF := hid (And.intro hn hg); clear hn hg)
    go_loop [6] (fun a => a = .int .i64 20) (fun _ => 0)
    case atStart => rfl
    case round =>
      subst hrel
      go_wp2
      go_end0
      exact ⟨⟨_, rfl⟩, HF.out⟩
set_option maxRecDepth 10000 in
set_option maxHeartbeats 1000000 in
theorem sort_any {g m cap : Nat} (key : Nat → Int) (l : List Nat) (Bc : Nat) (w : World) (h : NB w g m l) (hl : l.length ≤ 12) (hl1 : 1 ≤ l.length) (hx : ∀ x ∈ l, x < l.length)
    (hcmp : ∀ (x y : Nat) (W : World), x < l.length → y < l.length → w.grownBy W (some g) → Calls Tryz.prog 86 #[.int .i64 (x : Int), .int .i64 (y : Int), .pointer (some ⟨Bc, 0, none⟩)] W fun e W' => e = .returned (.int .i64 (key y - key x)) ∧ Below W.heap.size W W') :
    Calls Tryz.prog 85 #[.slice (some ⟨g, 0, none⟩) l.length cap, .func (.func 86) #[] #[.pointer (some ⟨Bc, 0, none⟩)]] w (GivesSort g m (insTo key l l.length) w) := by
  have K := hid (stable_any (cap := cap) key l Bc w h hl hl1 hx hcmp)
  clear h hx hcmp
  go_enter Tryz.func85, Tryz.ntmps85
  go_wp2_with (go_at_call 114; refine (K.out).mono ?_; rintro e w2 ⟨⟨v, rfl⟩, hn, hg⟩; have HF := hid (And.intro hn hg); clear hn hg)
  go_end0
  exact ⟨⟨_, rfl⟩, HF.out⟩
end Go.Proofs.YtlnamjhgbdacbaaGreat
/- Divide: what it computes; where it is an error. -/
namespace Go.Proofs.YtlnamjhgbdacbaaGreat
open Go.RowKit Go.Shelf

/-- the error of weights and a total -/
def divE (ws : List Int) (whole : Int) : Int :=
  if 12 < ws.length then 3 else if !(ws.all fun x => withinB x 0 10000) || !withinB whole 0 100000 then 2 else if ws.sum == 0 then 7 else 0
def baseOf (whole sum : Int) (ws : List Int) : List Int := ws.map fun x => whole * x / sum
def orderOf (whole sum : Int) (ws : List Int) : List Nat := insTo (restOf whole sum ws) (List.range ws.length) ws.length
def leftOf (whole sum : Int) (ws : List Int) : Nat := (whole - (baseOf whole sum ws).sum).toNat
def bump (out : List Int) (i : Nat) : List Int := out.set i (out.getD i 0 + 1)
def bumpTo (whole sum : Int) (ws : List Int) (j : Nat) : List Int := ((orderOf whole sum ws).take j).foldl bump (baseOf whole sum ws)
/-- the parts of a total -/
def divOf (ws : List Int) (whole : Int) : List Int := bumpTo whole ws.sum ws (leftOf whole ws.sum ws)
theorem bumpTo_succ {whole sum : Int} {ws : List Int} {j i : Nat} (h : (orderOf whole sum ws)[j]? = some i) : bumpTo whole sum ws (j + 1) = bump (bumpTo whole sum ws j) i := by
  obtain ⟨hj, rfl⟩ := List.getElem?_eq_some_iff.1 h
  unfold bumpTo
  rw [List.take_succ_eq_append_getElem hj, List.foldl_append]; rfl
theorem bump_len (out : List Int) (i : Nat) : (bump out i).length = out.length := by simp [bump]
theorem bumpTo_len (whole sum : Int) (ws : List Int) (j : Nat) : (bumpTo whole sum ws j).length = ws.length := by
  unfold bumpTo
  have : ∀ (l : List Nat) (o : List Int), (l.foldl bump o).length = o.length := by
    intro l
    induction l with
    | nil => intro o; rfl
    | cons i l ih => intro o; rw [List.foldl_cons, ih, bump_len]
  rw [this]; simp [baseOf]
theorem order_len (whole sum : Int) (ws : List Int) : (orderOf whole sum ws).length = ws.length := by unfold orderOf; rw [insTo_len, List.length_range]
theorem order_lt (whole sum : Int) (ws : List Int) : ∀ i ∈ orderOf whole sum ws, i < ws.length := by
  unfold orderOf
  exact insTo_all (P := fun i => i < ws.length) _ _ (fun x hx => List.mem_range.1 hx) _ (by rw [List.length_range]; exact Nat.le_refl _)

/-- what is given out ahead of the order -/
theorem base_bounds {whole sum : Int} {ws : List Int} (h0 : 0 ≤ whole) (hs : 1 ≤ sum) (hx : ∀ x ∈ ws, 0 ≤ x) : ∀ y ∈ baseOf whole sum ws, 0 ≤ y := by
  intro y hy
  obtain ⟨x, hx', rfl⟩ := List.mem_map.1 hy
  exact Int.ediv_nonneg (Int.mul_nonneg h0 (hx x hx')) (by omega)
theorem sum_le_mul {whole sum : Int} (hs : 1 ≤ sum) : ∀ (ws : List Int), (baseOf whole sum ws).sum * sum ≤ whole * ws.sum ∧ whole * ws.sum < (baseOf whole sum ws).sum * sum + ws.length * sum ∨ ws = []
  | [] => .inr rfl
  | x :: ws => by
    have e1 : (baseOf whole sum (x :: ws)).sum = whole * x / sum + (baseOf whole sum ws).sum := by simp [baseOf]
    have e2 : (x :: ws).sum = x + ws.sum := by simp
    have h1 := Int.mul_ediv_add_emod (whole * x) sum
    have h2 := Int.emod_nonneg (whole * x) (show sum ≠ 0 by omega)
    have h3 := Int.emod_lt_of_pos (whole * x) (show 0 < sum by omega)
    have h4 : sum * (whole * x / sum) = whole * x / sum * sum := Int.mul_comm _ _
    refine .inl ?_
    rw [e1, e2, Int.add_mul, Int.mul_add, List.length_cons, Int.natCast_add, Int.add_mul]
    rcases sum_le_mul (whole := whole) hs ws with ⟨a, b⟩ | rfl
    · constructor
      · omega
      · simp only [Int.natCast_one, Int.one_mul]; omega
    · simp [baseOf]; omega
/-- how much the order gets: less than there are parts -/
theorem left_bounds {whole : Int} {ws : List Int} (hs : 1 ≤ ws.sum) (h0 : ws ≠ []) : 0 ≤ whole - (baseOf whole ws.sum ws).sum ∧ whole - (baseOf whole ws.sum ws).sum < ws.length := by
  rcases sum_le_mul (whole := whole) hs ws with ⟨a, b⟩ | h
  · constructor
    · have : (baseOf whole ws.sum ws).sum ≤ whole := Int.le_of_mul_le_mul_right a (by omega)
      omega
    · rw [← Int.add_mul] at b
      have : whole < (baseOf whole ws.sum ws).sum + ws.length := Int.lt_of_mul_lt_mul_right b (by omega)
      omega
  · exact absurd h h0
/-- when the first parts are given out -/
theorem base_part {whole : Int} {ws : List Int} (h0 : 0 ≤ whole) (hs : 1 ≤ ws.sum) (hx : ∀ x ∈ ws, 0 ≤ x) (k : Nat) : 0 ≤ ((baseOf whole ws.sum ws).take k).sum ∧ ((baseOf whole ws.sum ws).take k).sum ≤ (baseOf whole ws.sum ws).sum := by
  have hb := base_bounds h0 hs hx
  generalize baseOf whole ws.sum ws = l at *
  have hsn : ∀ l : List Int, (∀ y ∈ l, 0 ≤ y) → 0 ≤ l.sum := by
    intro l
    induction l with
    | nil => intro _; simp
    | cons y l ih => intro h; rw [List.sum_cons]; have := ih (fun z hz => h z (List.mem_cons_of_mem _ hz)); have := h y (by simp); omega
  refine ⟨hsn _ fun y hy => hb y (List.mem_of_mem_take hy), ?_⟩
  have : (l.take k).sum + (l.drop k).sum = l.sum := by rw [← List.sum_append, List.take_append_drop]
  have := hsn (l.drop k) fun y hy => hb y (List.mem_of_mem_drop hy)
  omega
theorem wsum_bound {ws : List Int} (hx : ∀ x ∈ ws, 0 ≤ x ∧ x ≤ 10000) : 0 ≤ ws.sum ∧ ws.sum ≤ 10000 * ws.length := by
  induction ws with
  | nil => simp
  | cons x ws ih =>
    have := ih (fun y hy => hx y (List.mem_cons_of_mem _ hy))
    have := hx x (by simp)
    rw [List.sum_cons, List.length_cons]
    omega

set_option maxRecDepth 100000 in
set_option maxHeartbeats 1000000 in
theorem divide_bad (A : Option Addr) (c : Nat) (ws : List Int) (whole : Int) (w : World) (h : IsInts w w.heap.size A ws) (hl : ws.length ≤ c) (hm : c ≤ maxLen) (he : divE ws whole ≠ 0) :
    Calls Tryz.prog 57 #[.slice A ws.length c, .int .i64 whole] w fun e w' => e = .returned (.tuple #[.slice none 0 0, .int .i64 (divE ws whole)]) ∧ Below w.heap.size w w' := by
  unfold maxLen at hm
  have hB : Below w.heap.size w ((w.alloc (.cells #[.slice A ws.length c] 22)).alloc (.cells #[.int .i64 whole] 3)) := ((Below.refl _ _).alloc (Nat.le_refl _) _).alloc (by simp) _
  have K := hid (fun W (hW : Below w.heap.size w W) => all_int (fun x => withinB x 0 10000) A c ws W (h.at_ hW) hl (by unfold maxLen; exact hm) 82 #[] #[] (enters_of Tryz.func82 (by kernel_rfl) rfl)
    (fun W' x hW' hx => Calls.same_below (isCell_any x W')))
  have KB := hid hB
  have KI := hid h
  unfold divE at he ⊢
  by_cases h1 : 12 < ws.length
  · have h1I : (12 : Int) < (ws.length : Int) := by omega
    rw [if_pos h1]
    clear h he h1 hB
    go_enter Tryz.func57, Tryz.ntmps57
    go_wp2
    exact bodyPost_ret (v := .tuple #[.slice none 0 0, .int .i64 3]) (by simp [results, Tryz.results57, go_sem]) rfl ⟨rfl, KB.out⟩
  rw [if_neg h1] at he ⊢
  have h1I : decide ((12 : Int) < (ws.length : Int)) = false := by simp; omega
  cases ha : (ws.all fun x => withinB x 0 10000)
  · rw [ha] at he
    have KA := hid ha
    simp only [Bool.not_false, Bool.true_or, if_true]
    clear h he ha hB
    go_enter Tryz.func57, Tryz.ntmps57
    go_wp2_with fail
    refine (K.out _ KB.out).mono ?_
    rintro e w2 ⟨rfl, hb2⟩
    rw [KA.out]
    go_wp2
    exact bodyPost_ret (v := .tuple #[.slice none 0 0, .int .i64 2]) (by simp [results, Tryz.results57, go_sem]) rfl ⟨rfl, KB.out.trans (hb2.mono KB.out.size)⟩
  · rw [ha] at he
    have KA := hid ha
    have KW := hid (fun W => within_any whole 0 100000 W)
    have hx : ∀ x ∈ ws, 0 ≤ x ∧ x ≤ 10000 := fun x hx => by simpa [withinB] using List.all_eq_true.1 ha x hx
    cases hb : withinB whole 0 100000
    · rw [hb] at he
      have KD := hid hb
      simp only [Bool.not_true, Bool.not_false, Bool.or_true, if_true]
      clear h he ha hb hx hB
      go_enter Tryz.func57, Tryz.ntmps57
      go_wp2_with fail
      refine (K.out _ KB.out).mono ?_
      rintro e w2 ⟨rfl, hb2⟩
      rw [KA.out]
      have hB2 := (Blk.new (w.alloc (.cells #[.slice A ws.length c] 22)) 3 #[.int .i64 whole]).keep hb2
      rw [World.size_alloc] at hB2
      have q1 := hB2.c1
      have q2 := hB2.lt
      go_wp2_with fail
      refine (KW.out _).mono ?_
      rintro e w3 ⟨rfl, rfl⟩
      rw [KD.out]
      go_wp2
      exact bodyPost_ret (v := .tuple #[.slice none 0 0, .int .i64 2]) (by simp [results, Tryz.results57, go_sem]) rfl ⟨rfl, KB.out.trans (hb2.mono KB.out.size)⟩
    · rw [hb] at he
      have KD := hid hb
      simp only [Bool.not_true, Bool.or_self, Bool.false_eq_true, if_false] at he ⊢
      cases hs : (ws.sum == 0)
      · rw [hs] at he; exact absurd rfl he
      · have KS := hid hs
        have hsum : ws.sum = 0 := by simpa using hs
        simp only [if_true]
        have KT := hid (fun W (hW : Below w.heap.size w W) => total_any A c ws W (h.at_ hW) (by omega) (fun x hx' => by have := hx x hx'; omega))
        rw [hsum] at KT
        clear h he ha hb hx hs hsum hB
        go_enter Tryz.func57, Tryz.ntmps57
        go_wp2_with fail
        refine (K.out _ KB.out).mono ?_
        rintro e w2 ⟨rfl, hb2⟩
        rw [KA.out]
        have hB2 := (Blk.new (w.alloc (.cells #[.slice A ws.length c] 22)) 3 #[.int .i64 whole]).keep hb2
        have hB3 := ((Blk.new w 22 #[.slice A ws.length c]).alloc (.cells #[.int .i64 whole] 3)).keep hb2
        rw [World.size_alloc] at hB2
        have q1 := hB2.c1
        have q2 := hB2.lt
        have q3 := hB3.c1
        have q4 := hB3.lt
        go_wp2_with fail
        refine (KW.out _).mono ?_
        rintro e w3 ⟨rfl, rfl⟩
        rw [KD.out]
        have hb02 := KB.out.trans (hb2.mono KB.out.size)
        have HB2 := hid hb02
        clear hb2 hb02 hB2 hB3
        go_wp2_with fail
        refine (KT.out _ HB2.out).mono ?_
        rintro e w3 ⟨rfl, rfl⟩
        go_wp2
        exact bodyPost_ret (v := .tuple #[.slice none 0 0, .int .i64 7]) (by simp [results, Tryz.results57, go_sem]) rfl ⟨rfl, HB2.out.alloc HB2.out.size _⟩
end Go.Proofs.YtlnamjhgbdacbaaGreat
/- Divide, walked: the parts ahead of the order. -/
namespace Go.Proofs.YtlnamjhgbdacbaaGreat
open Go.RowKit Go.Shelf

theorem div_ok {ws : List Int} {whole : Int} (h : divE ws whole = 0) : DOk whole ws.sum ws ∧ ws ≠ [] ∧ (ws.all fun x => withinB x 0 10000) = true ∧ withinB whole 0 100000 = true := by
  unfold divE at h
  by_cases h1 : 12 < ws.length
  · rw [if_pos h1] at h; cases h
  rw [if_neg h1] at h
  cases ha : (ws.all fun x => withinB x 0 10000)
  · rw [ha] at h; simp at h
  cases hb : withinB whole 0 100000
  · rw [ha, hb] at h; simp at h
  rw [ha, hb] at h
  cases hs : (ws.sum == 0)
  · have hx : ∀ x ∈ ws, 0 ≤ x ∧ x ≤ 10000 := fun x hx => by simpa [withinB] using List.all_eq_true.1 ha x hx
    have hw : 0 ≤ whole ∧ whole ≤ 100000 := by simpa [withinB] using hb
    have hsb := wsum_bound hx
    have hs' : ws.sum ≠ 0 := by simpa using hs
    exact ⟨⟨hw.1, hw.2, by omega, by omega, hx, by omega⟩, (fun e => by rw [e] at hs'; simp at hs'), rfl, rfl⟩
  · rw [hs] at h; simp at h
/-- when k parts are reckoned -/
structure DivI (whole : Int) (A : Option Addr) (c : Nat) (ws : List Int) (w : World) (Bs k : Nat) (vo vr : Value) (W : World) : Prop where
  mem : DMem (w.heap.size + 1) w.heap.size Bs whole ws.sum A c ws w.heap.size W
  o : W.ownsRow (Bs + 1) 3 1 vo k (((baseOf whole ws.sum ws).take k).map (Value.int .i64))
  r : W.ownsRow (Bs + 1) 3 1 vr k (((List.range ws.length).take k).map fun (i : Nat) => Value.int .i64 (i : Int))
  ne : vo.ownBlock = none ∨ vo.ownBlock ≠ vr.ownBlock
  below : Below w.heap.size w W
  lt : w.heap.size + 1 < Bs
theorem DMem.row {Bw Bl Bs : Nat} {whole sum : Int} {A : Option Addr} {c : Nat} {ws : List Int} {n base e size m : Nat} {v : Value} {vs : List Value} {W W' : World} (h : DMem Bw Bl Bs whole sum A c ws n W) (ho : W.ownsRow base e size v m vs) (hg : W.grownBy W' v.ownBlock) (h1 : Bw < base) (h2 : Bl < base) (h3 : Bs < base) (h4 : n ≤ base) : DMem Bw Bl Bs whole sum A c ws n W' :=
  h.keep (Z := fun q => v.ownBlock = some q) (W' := W') ⟨hg.os, hg.tape, hg.output, hg.size, fun i cs t fr hi hn => (hg.block i (Array.getElem?_eq_some_iff.1 hi).1 (fun e => hn e.symm)).trans hi⟩ (fun e => by have := ho.lt _ e; omega) (fun e => by have := ho.lt _ e; omega) (fun e => by have := ho.lt _ e; omega) (fun k e => by have := ho.lt _ e; omega)
theorem below_row' {B base e size n : Nat} {v : Value} {vs : List Value} {A W W' : World} (h : Below B A W) (ho : W.ownsRow base e size v n vs) (hb : B ≤ base) (hg : W.grownBy W' v.ownBlock) (hB : B ≤ W.heap.size) : Below B A W' := h.grown hg hB (fun k hk => by have := ho.lt k hk; omega)
theorem map_take_succ {α : Type} (f : α → Value) {l : List α} {k : Nat} {x : α} (h : l[k]? = some x) : (l.take k).map f ++ [f x] = (l.take (k + 1)).map f := by
  obtain ⟨hk, rfl⟩ := List.getElem?_eq_some_iff.1 h
  rw [List.take_succ_eq_append_getElem hk, List.map_append]; rfl

theorem row_kept {W W' : World} {base e size m : Nat} {vo vr : Value} {vs : List Value} (hr : W.ownsRow base e size vr m vs) (hg : W.grownBy W' vo.ownBlock) (hne : vo.ownBlock = none ∨ vo.ownBlock ≠ vr.ownBlock) : W'.ownsRow base e size vr m vs := by
  refine hr.kept hg ?_
  rcases hne with h | h
  · rw [h]
    cases hv : vr.ownBlock with
    | none => exact .inl rfl
    | some g => exact .inr (by simp)
  · exact .inr fun e => h e.symm
theorem lb_of_own {W : World} {base g n cap : Nat} {xs : List Int} (h : W.ownsRow base 3 1 (.slice (some ⟨g, 0, none⟩) n cap) n (xs.map (Value.int .i64))) : LB W g cap xs := by
  rcases h.2 with ⟨e, _⟩ | ⟨g', cap', cur, e, hb, hg, h1, h2, h3, h4⟩
  · cases e
  · injection e with e1 e2 e3
    injection e1 with e1
    injection e1 with e1
    subst e1 e3
    refine ⟨cur, hg, by omega, fun k x hk => ?_⟩
    have : (cur.toList.take (n * 1))[k]? = some (Value.int .i64 x) := by rw [h4, List.getElem?_map, hk]; rfl
    rw [List.getElem?_take] at this
    split at this
    · simpa using this
    · cases this
theorem LB.set_ {W : World} {g m : Nat} {l : List Int} (h : LB W g m l) (k : Nat) (x : Int) : LB (W.setCell ⟨g, k, none⟩ (.int .i64 x)) g m (l.set k x) := by
  obtain ⟨arr, hb, hs, hc⟩ := h
  refine ⟨_, Blk.set_ (t := 3) (cs := arr) hb k _, by simpa using hs, fun j y hj => ?_⟩
  rw [List.getElem?_set] at hj
  rw [Array.getElem?_setIfInBounds]
  by_cases e : k = j
  · rw [if_pos e] at hj ⊢
    split at hj
    · rename_i hl
      simp at hj
      have := hc j l[j] (List.getElem?_eq_getElem (show j < l.length by omega))
      have := (Array.getElem?_eq_some_iff.1 this).1
      rw [if_pos (by omega), hj]
    · cases hj
  · rw [if_neg e] at hj ⊢
    exact hc j y hj
theorem LB.cell {W : World} {g m k : Nat} {l : List Int} {x : Int} (h : LB W g m l) (hk : l[k]? = some x) : W.cell? ⟨g, k, none⟩ = some (.int .i64 x) := by
  obtain ⟨arr, hb, hs, hc⟩ := h
  rw [cell_of_row W g k arr 3 (0, 0) hb]
  exact hc k x hk
theorem LB.frozen {W : World} {g m : Nat} {l : List Int} (h : LB W g m l) (k : Nat) : W.frozen? ⟨g, k, none⟩ = false := by
  obtain ⟨arr, hb, hs, hc⟩ := h
  exact Blk.frozen (t := 3) (cs := arr) hb k
theorem LB.other {W W' : World} {g m z : Nat} {l : List Int} (h : LB W g m l) (hg : W.grownBy W' (some z)) (hz : z ≠ g) : LB W' g m l := by
  have hl := h.lt
  obtain ⟨arr, hb, hs, hc⟩ := h
  exact ⟨arr, (hg.block g hl (fun e => by cases e; exact hz rfl)).trans hb, hs, hc⟩
theorem bumpTo_bound {whole sum : Int} {ws : List Int} (ok : DOk whole sum ws) : ∀ (j : Nat), j ≤ ws.length → ∀ y ∈ bumpTo whole sum ws j, 0 ≤ y ∧ y ≤ 1000000000 + (j : Int)
  | 0, _ => by
    intro y hy
    have : bumpTo whole sum ws 0 = baseOf whole sum ws := rfl
    rw [this] at hy
    obtain ⟨x, hx, rfl⟩ := List.mem_map.1 hy
    have hb := ok.x x hx
    have hm := mul_bound ok.w0 ok.w1 hb.1 hb.2
    have hs := ok.s0
    have h1 : 0 ≤ whole * x / sum := Int.ediv_nonneg hm.1 (by omega)
    have h2 : whole * x / sum ≤ whole * x := Int.ediv_le_self _ hm.1
    omega
  | j + 1, hj => by
    intro y hy
    have ih := bumpTo_bound ok j (by omega)
    have hol := order_len whole sum ws
    rw [bumpTo_succ (List.getElem?_eq_getElem (by omega : j < (orderOf whole sum ws).length))] at hy
    have hi := order_lt whole sum ws _ (List.getElem_mem (by omega : j < (orderOf whole sum ws).length))
    generalize (orderOf whole sum ws)[j]'(by omega) = i at *
    unfold bump at hy
    have hbl := bumpTo_len whole sum ws j
    rcases List.mem_or_eq_of_mem_set hy with hy | rfl
    · have := ih y hy; omega
    · have hg : (bumpTo whole sum ws j).getD i 0 = (bumpTo whole sum ws j)[i]'(by omega) := by simp [List.getD, List.getElem?_eq_getElem (show i < (bumpTo whole sum ws j).length by omega)]
      rw [hg]
      have := ih _ (List.getElem_mem (show i < (bumpTo whole sum ws j).length by omega))
      omega
/-- the parts, in memory of their own -/
def GivesDiv (ws : List Int) (whole : Int) (w : World) (e : Ending) (w' : World) : Prop :=
  ∃ A c, e = .returned (.tuple #[.slice A ws.length c, .int .i64 0]) ∧ IsInts w' w'.heap.size A (divOf ws whole) ∧ ws.length ≤ c ∧ c ≤ maxLen ∧ (A = none → c = 0) ∧ (∀ a, A = some a → w.heap.size ≤ a.block) ∧ Below w.heap.size w w'

set_option maxRecDepth 100000 in
set_option maxHeartbeats 4000000 in
theorem divide_ok (A : Option Addr) (c : Nat) (ws : List Int) (whole : Int) (w : World) (h : IsInts w w.heap.size A ws) (hl : ws.length ≤ c) (hm : c ≤ maxLen) (he : divE ws whole = 0) :
    Calls Tryz.prog 57 #[.slice A ws.length c, .int .i64 whole] w (GivesDiv ws whole w) := by
  unfold maxLen at hm
  obtain ⟨ok, hne, ha, hb⟩ := div_ok he
  have hB : Below w.heap.size w ((w.alloc (.cells #[.slice A ws.length c] 22)).alloc (.cells #[.int .i64 whole] 3)) := ((Below.refl _ _).alloc (Nat.le_refl _) _).alloc (by simp) _
  have K := hid (fun W (hW : Below w.heap.size w W) => all_int (fun x => withinB x 0 10000) A c ws W (h.at_ hW) hl (by unfold maxLen; exact hm) 82 #[] #[] (enters_of Tryz.func82 (by kernel_rfl) rfl)
    (fun W' x hW' hx => Calls.same_below (isCell_any x W')))
  have KB := hid hB
  have KI := hid h
  have KA := hid ha
  have KD := hid hb
  have KW := hid (fun W => within_any whole 0 100000 W)
  have KT := hid (fun W (hW : Below w.heap.size w W) => total_any A c ws W (h.at_ hW) (by have := ok.l; omega) (fun x hx' => by have := ok.x x hx'; omega))
  have hl12 := ok.l
  have hs0 := ok.s0
  have hs1 := ok.s1
  have hw0 := ok.w0
  have hw1 := ok.w1
  have h1I : decide ((12 : Int) < (ws.length : Int)) = false := by simp; omega
  have hsz : (ws.sum == 0) = false := by simp; omega
  have OK := hid (And.intro ok hne)
  clear h ha hb hB ok he hne
  go_enter Tryz.func57, Tryz.ntmps57
  go_wp2_with fail
  refine (K.out _ KB.out).mono ?_
  rintro e w2 ⟨rfl, hb2⟩
  rw [KA.out]
  have hB2 := (Blk.new (w.alloc (.cells #[.slice A ws.length c] 22)) 3 #[.int .i64 whole]).keep hb2
  have hB3 := ((Blk.new w 22 #[.slice A ws.length c]).alloc (.cells #[.int .i64 whole] 3)).keep hb2
  rw [World.size_alloc] at hB2
  have q1 := hB2.c1
  have q2 := hB2.lt
  have q3 := hB3.c1
  have q4 := hB3.lt
  go_wp2_with fail
  refine (KW.out _).mono ?_
  rintro e w3 ⟨rfl, rfl⟩
  rw [KD.out]
  have HB2 := hid (And.intro (KB.out.trans (hb2.mono KB.out.size)) (And.intro hB2 hB3))
  clear hb2 hB2 hB3
  go_wp2_with fail
  refine (KT.out _ HB2.out.1).mono ?_
  rintro e w3 ⟨rfl, rfl⟩
  go_wp2
  refine gen (p := Code.wp _ _ _ _) (fun W => DivI whole A c ws w w2.heap.size 0 (.slice none 0 0) (.slice none 0 0) W) ?_ ?_
  · have hba := (Below.refl w2.heap.size w2).alloc (Nat.le_refl _) (.cells #[.int .i64 ws.sum] 3)
    obtain ⟨g1, g2, g3⟩ := HB2.out
    exact ⟨⟨g2.keep hba, g3.keep hba, Blk.new _ _ _, KI.out.below (g1.trans (hba.mono g1.size)), by have := g1.size; simp; omega⟩, World.ownsRow_nil _ _ _ _, World.ownsRow_nil _ _ _ _, .inl rfl, g1.trans (hba.mono g1.size), q2⟩
  intro W1 hI1
  have HI := hid hI1
  clear hI1 HB2 K KB KI KA KD KW KT q1 q2 q3 q4
  generalize w2.heap.size = Bs at *
  go_loopw [7, 8, 9, 35] (fun vo vr l i wr => ∃ k : Nat, k ≤ ws.length ∧ i = .int .i64 k ∧ l = .int .i64 (whole - ((baseOf whole ws.sum ws).take k).sum) ∧ DivI whole A c ws w Bs k vo vr wr) (fun _ _ _ i _ => ws.length - (intOf i).toNat)
  case atStart => exact ⟨0, Nat.zero_le _, rfl, by simp, HI.out⟩
  case round =>
    obtain ⟨k, hk, rfl, rfl, hi⟩ := hrel
    clear HI
    have hbp := base_part (whole := whole) (ws := ws) hw0 hs0 (fun x hx => (OK.out.1.x x hx).1)
    by_cases hlt : k < ws.length
    · have hkI : (k : Int) < (ws.length : Int) := by omega
      obtain ⟨a, rfl, hab, hac⟩ := hi.mem.iw k ws[k] (List.getElem?_eq_getElem hlt)
      have hx := OK.out.1.x ws[k] (List.getElem_mem hlt)
      have hbk : (baseOf whole ws.sum ws)[k]? = some (whole * ws[k] / ws.sum) := by simp [baseOf, List.getElem?_eq_getElem hlt]
      have hm1 := mul_bound hw0 hw1 hx.1 hx.2
      have hbp0 := hbp k
      have hbp1 := hbp (k + 1)
      have hbq := left_bounds (whole := whole) hs0 OK.out.2
      have hsk : ((baseOf whole ws.sum ws).take (k + 1)).sum = ((baseOf whole ws.sum ws).take k).sum + whole * ws[k] / ws.sum := by
        obtain ⟨hk', e⟩ := List.getElem?_eq_some_iff.1 hbk
        rw [List.take_succ_eq_append_getElem hk', List.sum_append, e]; simp
      generalize ws[k] = x at *
      obtain ⟨y, hy⟩ : ∃ y, y = whole * x := ⟨_, rfl⟩
      have hwr : IntKind.i64.wrap (whole * x) = y := by rw [IntKind.wrap_i64, ← hy]; omega
      rw [← hy] at hbk hsk hm1
      clear hy hbp
      obtain ⟨hm1, hm2⟩ := hm1
      have hq0 : 0 ≤ y / ws.sum := Int.ediv_nonneg hm1 (by omega)
      obtain ⟨q, hq⟩ : ∃ q, q = y / ws.sum := ⟨_, rfl⟩
      have c1 := hi.mem.bw.c1
      have c3 := hi.mem.bs.c1
      obtain ⟨i0, hi0, hz0, hz1, hz2⟩ := info_parts int_info
      have HO := hid (hi.o.alloc (.cells #[.int .i64 (y / ws.sum)] 3))
      have HH := hid hi
      have HK := hid (And.intro hbk hsk)
      have hba : Below w.heap.size w (wr.alloc (.cells #[.int .i64 (y / ws.sum)] 3)) := hi.below.alloc hi.below.size _
      have hbl := hi.mem.bs.lt
      clear hi hab hbk hsk hq
      have hwrs := HH.out.below.size
      go_wp2_with (first | (at_builtin; refine wpList_append_own_at _ rfl (.tmp 40) (.tmp 46) 22 rfl (Bs + 1) 3 i0 (.int .i64 0) 1 8 Tryz.underlying22 hi0 hz0 hz1 hz2 rfl (by decide) u7 k _ rfl HO.out ⟨wr.heap.size, 0, none⟩ 1 1 [.int .i64 (y / ws.sum)] rfl rfl (by intro q u hq; cases q with | zero => simp at hq; subst hq; exact (World.cell?_alloc_new _ _ _ _) | succ q => simp at hq) (by intro u hu; simp at hu; subst hu; rfl) (by simp only [maxLen]; omega) (by omega) (by simp; omega) ?_; intro vo' w5 hown' hgrow _ hfr; have HR5 := hid ((row_kept (HH.out.r.alloc _) hgrow HH.out.ne).alloc (.cells #[.int .i64 (k : Int)] 3)); have hs5 := hgrow.size; rw [World.size_alloc] at hs5; have HQ5 := hid (And.intro hown' (And.intro hgrow hfr)); clear hown' hgrow hfr) | (at_builtin; refine wpList_append_own_at _ rfl (.tmp 48) (.tmp 50) 22 rfl (Bs + 1) 3 i0 (.int .i64 0) 1 8 Tryz.underlying22 hi0 hz0 hz1 hz2 rfl (by decide) u8 k _ rfl HR5.out ⟨w5.heap.size, 0, none⟩ 1 1 [.int .i64 (k : Int)] rfl rfl (by intro q u hq; cases q with | zero => simp at hq; subst hq; exact (World.cell?_alloc_new _ _ _ _) | succ q => simp at hq) (by intro u hu; simp at hu; subst hu; rfl) (by simp only [maxLen]; omega) (by omega) (by simp; omega) ?_; intro vr' w7 hown2 hgrow2 _ hfr2; have HQ7 := hid (And.intro hown2 (And.intro hgrow2 hfr2)); clear hown2 hgrow2 hfr2))
      obtain ⟨hbk, hsk⟩ := HK.out
      obtain ⟨ho5, hg5, hf5⟩ := HQ5.out
      obtain ⟨hr7, hg7, hf7⟩ := HQ7.out
      obtain ⟨g, cap, rfl⟩ := Go.ownsRow_succ ho5
      rw [map_take_succ (Value.int .i64) hbk] at ho5
      have hrk : (List.range ws.length)[k]? = some k := by simp [hlt]
      rw [map_take_succ (fun (i : Nat) => Value.int .i64 (i : Int)) hrk] at hr7
      have hne5 : u8.ownBlock = none ∨ u8.ownBlock ≠ some g := by
        rcases hf5 with h | h
        · rcases HH.out.ne with h' | h'
          · rw [h'] at h; cases h
          · exact .inr fun e => h' (h.symm.trans e.symm)
        · injection h with h
          simp only [World.size_alloc] at h
          refine .inr fun e => ?_
          have := (HH.out.r.lt _ e).2
          omega
      have ho7 := row_kept (ho5.alloc (.cells #[.int .i64 (k : Int)] 3)) hg7 hne5
      have hs5g := (ho5.lt g rfl).2
      have hne7 : Value.ownBlock (.slice (some ⟨g, 0, none⟩) (k + 1) cap) ≠ vr'.ownBlock := by
        intro e
        rcases hf7 with h | h
        · rw [h] at e
          rcases hne5 with h' | h'
          · rw [h'] at e; cases e
          · exact h' e.symm
        · rw [h] at e
          injection e with e
          simp only [World.size_alloc] at e
          omega
      have hm5 := ((HH.out.mem.below ((Below.refl _ _).alloc (Nat.le_refl _) (.cells #[.int .i64 (y / ws.sum)] 3))).row (HH.out.o.alloc _) hg5 (by have := HH.out.lt; omega) (by have := HH.out.lt; omega) (by omega) (by have := HH.out.lt; omega))
      have hm7 := ((hm5.below ((Below.refl _ _).alloc (Nat.le_refl _) (.cells #[.int .i64 (k : Int)] 3))).row (HR5.out) hg7 (by have := HH.out.lt; omega) (by have := HH.out.lt; omega) (by omega) (by have := HH.out.lt; omega))
      have hb5 := below_row' (HH.out.below.alloc HH.out.below.size (.cells #[.int .i64 (y / ws.sum)] 3)) (HH.out.o.alloc _) (by have := HH.out.lt; omega) hg5 (by simp; omega)
      have hb7 := below_row' (hb5.alloc hb5.size (.cells #[.int .i64 (k : Int)] 3)) (HR5.out) (by have := HH.out.lt; omega) hg7 (by simp; have := hb5.size; omega)
      have HN := hid (show DivI whole (some a) c ws w Bs (k + 1) (.slice (some ⟨g, 0, none⟩) (k + 1) cap) vr' w7 from ⟨hm7, ho7, hr7, .inr hne7, hb7, HH.out.lt⟩)
      have c7 : w7.cell? ⟨g, k, none⟩ = some (.int .i64 (y / ws.sum)) := by
        have := ho7.cells (g := g) rfl k (.int .i64 (y / ws.sum)) (by
          rw [List.getElem?_map, List.getElem?_take, if_pos (by omega), hbk]; rfl)
        rwa [show (⟨g, 0, none⟩ : Addr).add k = ⟨g, k, none⟩ by unfold Addr.add; split <;> simp_all] at this
      have hsk' := hsk
      have hwl : IntKind.i64.wrap (whole - ((baseOf whole ws.sum ws).take k).sum - y / ws.sum) = whole - ((baseOf whole ws.sum ws).take (k + 1)).sum := by rw [IntKind.wrap_i64, hsk']; omega
      have HSK := hid hsk
      clear hbk hsk hsk' ho5 hg5 hf5 hr7 hg7 hf7 hrk hne5 ho7 hs5g hne7 hm5 hm7 hb5 hb7 HQ5 HQ7 HR5 HO HH HK c1 c3 hba hac
      have hk1 : (k : Int) < ((k + 1 : Nat) : Int) := by omega
      have hk2 : (k : Int) < (k : Int) + 1 := by omega
      go_simp
      go_wp2
      go_roundw
      case rel => exact ⟨k + 1, by omega, by go_num, (by first | rfl | exact congrArg (Value.int .i64) (by rw [HSK.out]; omega)), HN.out⟩
      case measure => first | (simp [intOf]; done) | (simp [intOf]; omega)
    · have hkI : decide ((k : Int) < (ws.length : Int)) = false := by simp; omega
      obtain rfl : k = ws.length := by omega
      have hn1 : 1 ≤ ws.length := by
        cases ws with
        | nil => exact absurd rfl OK.out.2
        | cons x l => simp
      have hbq := left_bounds (whole := whole) hs0 OK.out.2
      have hshape : ∀ {v : Value} {vs : List Value}, wr.ownsRow (Bs + 1) 3 1 v ws.length vs → ∃ g cap, v = .slice (some ⟨g, 0, none⟩) ws.length cap := by
        intro v vs hv
        obtain ⟨n', hn'⟩ : ∃ n', ws.length = n' + 1 := ⟨ws.length - 1, by omega⟩
        rw [hn'] at hv ⊢
        exact Go.ownsRow_succ hv
      obtain ⟨go, co, rfl⟩ := hshape hi.o
      obtain ⟨gr, cr, rfl⟩ := hshape hi.r
      obtain ⟨lf, hlf⟩ : ∃ lf : Nat, whole - (baseOf whole ws.sum ws).sum = (lf : Int) := ⟨leftOf whole ws.sum ws, by unfold leftOf; omega⟩
      have hbl : (baseOf whole ws.sum ws).length = ws.length := by simp [baseOf]
      rw [show (baseOf whole ws.sum ws).take ws.length = baseOf whole ws.sum ws by rw [← hbl, List.take_length], hlf]
      rw [hlf] at hbq
      have HLF := hid (show leftOf whole ws.sum ws = lf by unfold leftOf; omega)
      have HH := hid hi
      clear hi hbp hshape hlf hbl
      have KSORT := hid (show Calls Tryz.prog 85 #[.slice (some ⟨gr, 0, none⟩) ws.length cr, .func (.func 86) #[] #[.pointer (some ⟨wr.heap.size, 0, none⟩)]]
          (wr.alloc (.cells #[.func (.func 84) #[] #[.pointer (some ⟨w.heap.size + 1, 0, none⟩), .pointer (some ⟨w.heap.size, 0, none⟩), .pointer (some ⟨Bs, 0, none⟩)]] 168))
          (GivesSort gr cr (orderOf whole ws.sum ws) _) from by
        have hba := (Below.refl wr.heap.size wr).alloc (Nat.le_refl _) (.cells #[.func (.func 84) #[] #[.pointer (some ⟨w.heap.size + 1, 0, none⟩), .pointer (some ⟨w.heap.size, 0, none⟩), .pointer (some ⟨Bs, 0, none⟩)]] 168)
        have hr := HH.out.r
        rw [show (List.range ws.length).take ws.length = List.range ws.length by rw [List.take_of_length_le]; simp] at hr
        have hnb : NB wr gr cr (List.range ws.length) := by
          unfold NB
          refine lb_of_own (base := Bs + 1) (n := ws.length) ?_
          rw [List.map_map]
          exact hr
        have hlt := HH.out.lt
        have hgr := HH.out.r.lt gr rfl
        have := sort_any (cap := cr) (restOf whole ws.sum ws) (List.range ws.length) wr.heap.size _ (hnb.below hba) (by simp; omega) (by simp; omega) (fun x hx => by simpa using hx) (fun x y W hx hy hg => by
          simp only [List.length_range] at hx hy
          have hk : Keep (fun q => q = gr) _ W := Keep.of_grown hg rfl
          exact cmp_any OK.out.1 x y hx hy ((HH.out.mem.below hba).keep hk (by omega) (by omega) (by omega) (fun q hq => by omega)) (hk.blk (Blk.new _ _ _) (by omega)))
        simp only [List.length_range] at this
        exact this)
      have HLS := hid (show Bs + 1 ≤ go ∧ go < wr.heap.size ∧ Bs + 1 ≤ gr ∧ gr < wr.heap.size ∧ go ≠ gr from ⟨(HH.out.o.lt go rfl).1, (HH.out.o.lt go rfl).2, (HH.out.r.lt gr rfl).1, (HH.out.r.lt gr rfl).2, by
        rcases HH.out.ne with h | h
        · cases h
        · exact fun e => h (by rw [e]; rfl)⟩)
      have hcoo : ws.length ≤ co ∧ co ≤ maxLen := by
        rcases HH.out.o.2 with ⟨e, _⟩ | ⟨g', cap', cur, e, _, _, h1, h2, _⟩
        · cases e
        · injection e with _ _ e3; subst e3; exact ⟨h1, h2⟩
      have hcrr : ws.length ≤ cr := by
        rcases HH.out.r.2 with ⟨e, _⟩ | ⟨g', cap', cur, e, _, _, h1, h2, _⟩
        · cases e
        · injection e with _ _ e3; subst e3; exact h1
      obtain ⟨hbq1, hbq2⟩ := hbq
      have hlcr : (lf : Int) ≤ (cr : Int) := by omega
      go_wp2_with fail
      refine KSORT.out.mono ?_
      rintro e w5 ⟨⟨v, rfl⟩, hns, hgs⟩
      have HF5 := hid (show LB w5 go co (bumpTo whole ws.sum ws 0) ∧ NB w5 gr cr (orderOf whole ws.sum ws) ∧ Below w.heap.size w w5 from by
        have ho := HH.out.o
        have hbl : (baseOf whole ws.sum ws).length = ws.length := by simp [baseOf]
        rw [show (baseOf whole ws.sum ws).take ws.length = baseOf whole ws.sum ws by rw [← hbl, List.take_length]] at ho
        have hba := (Below.refl wr.heap.size wr).alloc (Nat.le_refl _) (.cells #[.func (.func 84) #[] #[.pointer (some ⟨w.heap.size + 1, 0, none⟩), .pointer (some ⟨w.heap.size, 0, none⟩), .pointer (some ⟨Bs, 0, none⟩)]] 168)
        obtain ⟨z1, z2, z3, z4, z5⟩ := HLS.out
        have hlt := HH.out.lt
        have hbs := HH.out.below.size
        exact ⟨((lb_of_own ho).below hba).other hgs (fun e => z5 e.symm), hns, (HH.out.below.trans (hba.mono hbs)).grown hgs (by simp; omega) (fun k hk => by cases hk; omega)⟩)
      have hlen12 : ws.length ≤ 12 := hl12
      have HBS := hid HH.out.lt
      clear hns hgs KSORT HH
      go_wp2
      go_loopw [67] (fun i wr => ∃ j : Nat, j ≤ lf ∧ i = .int .i64 j ∧ LB wr go co (bumpTo whole ws.sum ws j) ∧ NB wr gr cr (orderOf whole ws.sum ws) ∧ Below w.heap.size w wr) (fun i _ => lf - (intOf i).toNat)
      case atStart => exact ⟨0, Nat.zero_le _, rfl, HF5.out⟩
      case round =>
        obtain ⟨j, hj, rfl, hlb, hnb, hbe⟩ := hrel
        clear HF5
        by_cases hlt : j < lf
        · have hjI : (j : Int) < (lf : Int) := by omega
          have hol := order_len whole ws.sum ws
          obtain ⟨i, hi⟩ : ∃ i, (orderOf whole ws.sum ws)[j]? = some i := ⟨_, List.getElem?_eq_getElem (by omega)⟩
          have hil := order_lt whole ws.sum ws i (List.mem_of_getElem? hi)
          have hbl := bumpTo_len whole ws.sum ws j
          obtain ⟨y, hy⟩ : ∃ y, (bumpTo whole ws.sum ws j)[i]? = some y := ⟨_, List.getElem?_eq_getElem (by omega)⟩
          have hyb := bumpTo_bound OK.out.1 j (by omega) y (List.mem_of_getElem? hy)
          have c1 := hnb.cell hi
          have c2 := hlb.cell hy
          have f2 := hlb.frozen i
          have l2 := hlb.lt
          have hiI : (i : Int) < (ws.length : Int) := by omega
          have HN := hid (show LB (wr.setCell ⟨go, i, none⟩ (.int .i64 (y + 1))) go co (bumpTo whole ws.sum ws (j + 1)) ∧ NB (wr.setCell ⟨go, i, none⟩ (.int .i64 (y + 1))) gr cr (orderOf whole ws.sum ws) ∧ Below w.heap.size w (wr.setCell ⟨go, i, none⟩ (.int .i64 (y + 1))) from by
            obtain ⟨z1, z2, z3, z4, z5⟩ := HLS.out
            have := hlb.set_ i (y + 1)
            refine ⟨by rw [bumpTo_succ hi, bump, show (bumpTo whole ws.sum ws j).getD i 0 = y by simp [List.getD, hy]]; exact this, LB.other hnb (grown_put _ ⟨go, i, none⟩ _) z5, hbe.setCell (p := ⟨go, i, none⟩) (by show w.heap.size ≤ go; have := HBS.out; omega) _⟩)
          clear hlb hnb hbe hol hi hil hbl hy
          go_wp2
          go_roundw
          case rel => exact ⟨j + 1, by omega, by go_num, HN.out⟩
          case measure => first | (simp [intOf]; done) | (simp [intOf]; omega)
        · have hjI : decide ((j : Int) < (lf : Int)) = false := by simp; omega
          obtain rfl : j = lf := by omega
          have HN := hid (And.intro hlb hbe)
          clear hlb hnb hbe
          go_wp2
          refine bodyPost_ret (v := .tuple #[.slice (some ⟨go, 0, none⟩) ws.length co, .int .i64 0]) (by simp [results, Tryz.results57, go_sem]) rfl ?_
          obtain ⟨z1, z2, z3, z4, z5⟩ := HLS.out
          refine ⟨_, _, rfl, ?_, hcoo.1, hcoo.2, (fun e => by cases e), (fun a e => by cases e; show w.heap.size ≤ go; have := HBS.out; omega), HN.out.2⟩
          unfold divOf
          rw [HLF.out]
          exact HN.out.1.ints HN.out.1.lt

theorem divide_any (A : Option Addr) (c : Nat) (ws : List Int) (whole : Int) (w : World) (h : IsInts w w.heap.size A ws) (hl : ws.length ≤ c) (hm : c ≤ maxLen) :
    Calls Tryz.prog 57 #[.slice A ws.length c, .int .i64 whole] w fun e w' => if divE ws whole ≠ 0 then e = .returned (.tuple #[.slice none 0 0, .int .i64 (divE ws whole)]) ∧ Below w.heap.size w w' else GivesDiv ws whole w e w' := by
  by_cases he : divE ws whole = 0
  · refine (divide_ok A c ws whole w h hl hm he).mono fun e w' h => ?_
    rw [if_neg (by simp [he])]; exact h
  · refine (divide_bad A c ws whole w h hl hm he).mono fun e w' h => ?_
    rw [if_pos he]; exact h
end Go.Proofs.YtlnamjhgbdacbaaGreat
/- The bounds of all streets and of all new districts. No condition. -/
namespace Go.Proofs.YtlnamjhgbdacbaaGreat
open Go.RowKit Go.Shelf

theorem mown_ne {W : World} {base e size n z : Nat} {v : Value} {xs : List Value} (h : W.ownsRow base e size v n xs) (hz : ∀ cs, W.heap[z]? ≠ some (.cells cs e (0, 0))) : v.ownBlock = none ∨ v.ownBlock ≠ some z := by
  rcases h.2 with ⟨rfl, _⟩ | ⟨g, cap, cur, rfl, _, hb, _⟩
  · exact .inl rfl
  · refine .inr fun e' => ?_
    injection e' with e'
    simp only at e'
    subst e'
    exact hz _ hb
theorem mblk_not {W : World} {g t e : Nat} {us : Array Value} (h : Blk W g t us) (hne : t ≠ e) : ∀ cs, W.heap[g]? ≠ some (.cells cs e (0, 0)) := by
  intro cs hc
  unfold Blk at h
  rw [h] at hc
  injection hc with hc
  injection hc with _ ht
  exact hne ht
/-- a block of another type stays where a row has grown -/
theorem blk_grown {W W' : World} {base e size n g t : Nat} {v : Value} {xs : List Value} {us : Array Value} (ho : W.ownsRow base e size v n xs) (hg : W.grownBy W' v.ownBlock) (hb : Blk W g t us) (hne : t ≠ e) : Blk W' g t us :=
  (hg.block _ hb.lt (by
    rcases mown_ne ho (mblk_not hb hne) with q | q
    · rw [q]; intro e'; cases e'
    · exact fun e' => q e'.symm)).trans hb
def rgC (rs : List (Int × Int)) : List Value := rs.flatMap fun p => [.int .i64 p.1, .int .i64 p.2]
theorem rgC_snoc (rs : List (Int × Int)) (p : Int × Int) : rgC (rs ++ [p]) = rgC rs ++ [.int .i64 p.1, .int .i64 p.2] := by simp [rgC]
theorem rgC_at : ∀ {rs : List (Int × Int)} {c : Nat} {p : Int × Int}, rs[c]? = some p → (rgC rs)[c * 2]? = some (.int .i64 p.1) ∧ (rgC rs)[c * 2 + 1]? = some (.int .i64 p.2)
  | [], c, p, h => by simp at h
  | q :: l, 0, p, h => by
    simp at h; subst h
    exact ⟨rfl, rfl⟩
  | q :: l, c + 1, p, h => by
    have : rgC (q :: l) = Value.int .i64 q.1 :: Value.int .i64 q.2 :: rgC l := rfl
    have ih := rgC_at (rs := l) (c := c) (p := p) (by simpa using h)
    rw [this, show (c + 1) * 2 = c * 2 + 1 + 1 by omega]
    exact ih
/-- the slice at A reads as these ranges, below block n -/
def IsRngs (w : World) (n : Nat) (A : Option Addr) (rs : List (Int × Int)) : Prop :=
  ∀ k p, rs[k]? = some p → ∃ a, A = some a ∧ a.block < n ∧ w.cell? (a.add (k * 2)) = some (.int .i64 p.1) ∧ w.cell? ⟨(a.add (k * 2)).block, (a.add (k * 2)).off + 1, none⟩ = some (.int .i64 p.2)
theorem IsRngs.at_ {w w' : World} {A : Option Addr} {rs : List (Int × Int)} (h : IsRngs w w.heap.size A rs) (hb : Below w.heap.size w w') : IsRngs w' w'.heap.size A rs := fun k s hk => by
  obtain ⟨a, e, hl, h0, h1⟩ := h k s hk
  exact ⟨a, e, Nat.lt_of_lt_of_le hl hb.size, (hb.cell (by rw [block_of_add]; exact hl)).trans h0, (hb.cell (by show (a.add _).block < _; rw [block_of_add]; exact hl)).trans h1⟩
theorem own_rngs {W : World} {base n : Nat} {v : Value} {rs : List (Int × Int)} (h : W.ownsRow base 68 2 v n (rgC rs)) (hn : n = rs.length) : ∃ A c, v = .slice A rs.length c ∧ IsRngs W W.heap.size A rs ∧ rs.length ≤ c ∧ c ≤ maxLen := by
  subst hn
  rcases h.2 with ⟨e, h0⟩ | ⟨z, cap, cur, e, hb, _, hl, hm, _⟩
  · have : rs = [] := List.eq_nil_of_length_eq_zero h0
    subst this
    exact ⟨none, 0, e, fun k p hk => by simp at hk, Nat.le_refl _, Nat.zero_le _⟩
  · refine ⟨some ⟨z, 0, none⟩, cap, e, fun k p hk => ?_, hl, hm⟩
    obtain ⟨q1, q2⟩ := rgC_at hk
    have c1 := h.cells (g := z) (by rw [e]; rfl) _ _ q1
    have c2 := h.cells (g := z) (by rw [e]; rfl) _ _ q2
    rw [add_blk] at c1 c2
    refine ⟨⟨z, 0, none⟩, rfl, ?_, ?_, ?_⟩
    · have := World.block_lt_of_cell? W _ c1
      exact this
    · rw [add_blk]; exact c1
    · rw [add_blk]; exact c2
theorem brng_info : (Tryz.prog.info? 68).map (fun i => (i.zero, i.size, i.bytes)) = some (some (.agg #[.int .i64 0, .int .i64 0]), 2, 16) := by kernel_rfl
/-- a list of ranges is handed back -/
def GivesRngs (rs : List (Int × Int)) (w : World) (e : Ending) (w' : World) : Prop := ∃ A c, e = .returned (.tuple #[.slice A rs.length c, .int .i64 0]) ∧ IsRngs w' w'.heap.size A rs ∧ rs.length ≤ c ∧ c ≤ maxLen ∧ Below w.heap.size w w'
theorem rng_new (w : World) (x y : Int) : ∀ (j : Nat) (u : Value), [Value.int .i64 x, .int .i64 y][j]? = some u → (w.alloc (.cells #[.int .i64 x, .int .i64 y] 68)).cell? ((⟨w.heap.size, 0, none⟩ : Addr).add j) = some u := by
  intro q u hq
  rw [add_blk]
  obtain ⟨n0, n1⟩ := (Blk.new w 68 #[.int .i64 x, .int .i64 y]).c2
  match q, hq with
  | 0, hq => injection hq with hq; subst hq; exact n0
  | 1, hq => injection hq with hq; subst hq; exact n1
  | q + 2, hq => simp at hq
theorem rng_blk {W : World} {g : Nat} {x y : Int} (h : Blk W g 68 #[.int .i64 x, .int .i64 y]) : ∀ (j : Nat) (u : Value), [Value.int .i64 x, .int .i64 y][j]? = some u → W.cell? ((⟨g, 0, none⟩ : Addr).add j) = some u := by
  intro q u hq
  rw [add_blk]
  obtain ⟨n0, n1⟩ := h.c2
  match q, hq with
  | 0, hq => injection hq with hq; subst hq; exact n0
  | 1, hq => injection hq with hq; subst hq; exact n1
  | q + 2, hq => simp at hq
def aloneP (i : Nat) : Nat → Bool := fun k => ((k : Int) == (i : Int))
def strOne (m : MapD) (i : Nat) : Int × Int := (partLo m (aloneP i) (m.S i).o.toNat, partHi m (aloneP i) (m.S i).o.toNat)
def strL (m : MapD) : List (Int × Int) := (List.range m.ss.length).map (strOne m)
def bndOne (m : MapD) (d : Nat) : Int × Int := (sizeLo m (inD (ownL m) (d : Int)) m.old.length, sizeHi m (inD (ownL m) (d : Int)) m.old.length)
def bndL (m : MapD) : List (Int × Int) := (List.range m.nw.toNat).map (bndOne m)
theorem map_range_succ {α : Type} (f : Nat → α) (k : Nat) : (List.range (k + 1)).map f = (List.range k).map f ++ [f k] := by rw [List.range_succ, List.map_append]; rfl

end Go.Proofs.YtlnamjhgbdacbaaGreat
/- Which streets of a district can be reached from its first one, in plain words. No condition. -/
namespace Go.Proofs.YtlnamjhgbdacbaaGreat

def meet (m : MapD) (a b : Int) : Bool := m.js.any fun j => (j.a == a && j.b == b) || (j.a == b && j.b == a)
theorem meet_iff {m : MapD} {a b : Int} : meet m a b = true ↔ ∃ j ∈ m.js, (j.a = a ∧ j.b = b) ∨ (j.a = b ∧ j.b = a) := by simp [meet]
/-- the first k streets that lie in a district of borders -/
def mem (l : Nat → Int) (d : Int) (k : Nat) : List Int := ((List.range k).filter (inD l d)).map fun i : Nat => (i : Int)
theorem mem_iff {l : Nat → Int} {d : Int} {k : Nat} {y : Int} : y ∈ mem l d k ↔ ∃ i : Nat, i < k ∧ l i = d ∧ y = (i : Int) := by
  simp only [mem, List.mem_map, List.mem_filter, List.mem_range, inD, beq_iff_eq]
  constructor
  · rintro ⟨i, ⟨h1, h2⟩, rfl⟩; exact ⟨i, h1, h2, rfl⟩
  · rintro ⟨i, h1, h2, rfl⟩; exact ⟨i, ⟨h1, h2⟩, rfl⟩
theorem mem_succ_in {l : Nat → Int} {d : Int} {k : Nat} (h : l k = d) : mem l d (k + 1) = mem l d k ++ [(k : Int)] := by
  simp [mem, List.range_succ, inD, h]
theorem mem_succ_out {l : Nat → Int} {d : Int} {k : Nat} (h : l k ≠ d) : mem l d (k + 1) = mem l d k := by
  simp [mem, List.range_succ, inD, h]
theorem mem_len {l : Nat → Int} {d : Int} (k : Nat) : (mem l d k).length ≤ k := by
  have := List.length_filter_le (inD l d) (List.range k)
  simp [mem] at this ⊢
  exact this
theorem mem_nodup (l : Nat → Int) (d : Int) (k : Nat) : (mem l d k).Nodup := by
  unfold mem
  exact (List.Pairwise.filter _ List.nodup_range).map _ (fun a b h e => h (by omega))
inductive Rch (m : MapD) (ms : List Int) (f : Int) : Int → Prop
  | base : Rch m ms f f
  | step {x y : Int} : Rch m ms f x → y ∈ ms → meet m x y = true → Rch m ms f y
def clo (m : MapD) (ms : List Int) : Nat → List Int → List Int
  | 0, rs => rs
  | n + 1, rs => clo m ms n (rs ++ ms.filter fun y => !rs.contains y && rs.any fun x => meet m x y)
def conL (m : MapD) (ms : List Int) : Bool :=
  match ms with
  | [] => false
  | f :: t => (f :: t).all fun y => (clo m (f :: t) (t.length + 1) [f]).contains y
/-- whether a new district is connected, in borders -/
def conB (m : MapD) (l : Nat → Int) (d : Int) : Bool := conL m (mem l d m.ss.length)
theorem clo_sound {m : MapD} {ms : List Int} {f : Int} : ∀ (n : Nat) (rs : List Int), (∀ y ∈ rs, Rch m ms f y) → ∀ y ∈ clo m ms n rs, Rch m ms f y
  | 0, _, h => h
  | n + 1, rs, h => by
    refine clo_sound n _ fun y hy => ?_
    rcases List.mem_append.1 hy with hy | hy
    · exact h y hy
    · simp only [List.mem_filter, Bool.and_eq_true, List.any_eq_true] at hy
      obtain ⟨h1, _, x, hx, h3⟩ := hy
      exact .step (h x hx) h1 h3
theorem clo_mono {m : MapD} {ms : List Int} : ∀ (n : Nat) (rs : List Int) (y : Int), y ∈ rs → y ∈ clo m ms n rs
  | 0, _, _, h => h
  | n + 1, _, y, h => clo_mono n _ y (List.mem_append.2 (.inl h))
theorem clo_still {m : MapD} {ms : List Int} : ∀ (n : Nat) (rs : List Int), (ms.filter fun y => !rs.contains y && rs.any fun x => meet m x y) = [] → clo m ms n rs = rs
  | 0, _, _ => rfl
  | n + 1, rs, h => by
    show clo m ms n (rs ++ _) = rs
    rw [h, List.append_nil]
    exact clo_still n rs h
def Closed (m : MapD) (ms rs : List Int) : Prop := ∀ x ∈ rs, ∀ y ∈ ms, meet m x y = true → y ∈ rs
theorem flt_le {p q : Int → Bool} (h : ∀ y, p y = true → q y = true) : ∀ l : List Int, (l.filter p).length ≤ (l.filter q).length
  | [] => by simp
  | a :: l => by
    have ih := flt_le h l
    cases hp : p a <;> cases hq : q a
    · simp [hp, hq]; exact ih
    · simp [hp, hq]; omega
    · have := h a hp
      rw [hq] at this; cases this
    · simp [hp, hq]; exact ih
theorem flt_lt {p q : Int → Bool} (h : ∀ y, p y = true → q y = true) : ∀ {l : List Int} {z : Int}, z ∈ l → q z = true → p z = false → (l.filter p).length < (l.filter q).length
  | a :: l, z, hz, h1, h2 => by
    rcases List.mem_cons.1 hz with rfl | hz
    · have ih := flt_le h l
      simp [h1, h2]; omega
    · have ih := flt_lt h hz h1 h2
      cases hp : p a <;> cases hq : q a
      · simp [hp, hq]; exact ih
      · simp [hp, hq]; omega
      · have := h a hp
        rw [hq] at this; cases this
      · simp [hp, hq]; exact ih
theorem clo_closed {m : MapD} {ms : List Int} : ∀ (n : Nat) (rs : List Int), (ms.filter fun y => !rs.contains y).length ≤ n → Closed m ms (clo m ms n rs)
  | 0, rs, h => by
    intro x hx y hy _
    have h0 := List.eq_nil_of_length_eq_zero (Nat.le_zero.1 h)
    have := List.filter_eq_nil_iff.1 h0 y hy
    show y ∈ rs
    simpa using this
  | n + 1, rs, h => by
    by_cases hn : (ms.filter fun y => !rs.contains y && rs.any fun x => meet m x y) = []
    · rw [clo_still _ _ hn]
      intro x hx y hy hm
      have := List.filter_eq_nil_iff.1 hn y hy
      simp only [Bool.and_eq_true, Bool.not_eq_true', not_and, List.any_eq_true] at this
      by_cases hc : rs.contains y = true
      · simpa using hc
      · exact absurd ⟨x, hx, hm⟩ (this (by simpa using hc))
    · refine clo_closed n _ ?_
      obtain ⟨z, hz⟩ := List.exists_mem_of_ne_nil _ hn
      have hz' := hz
      simp only [List.mem_filter, Bool.and_eq_true] at hz'
      have hlt : (ms.filter fun y => !(rs ++ ms.filter fun y => !rs.contains y && rs.any fun x => meet m x y).contains y).length < (ms.filter fun y => !rs.contains y).length := by
        refine flt_lt (fun y h1 => ?_) hz'.1 hz'.2.1 ?_
        · simp only [List.contains_append, Bool.not_eq_true', Bool.or_eq_false_iff] at h1
          rw [h1.1]; rfl
        · have : (rs ++ ms.filter fun y => !rs.contains y && rs.any fun x => meet m x y).contains z = true := by
            rw [List.contains_iff_mem]
            exact List.mem_append.2 (.inr hz)
          rw [this]; rfl
      omega
theorem rch_in {m : MapD} {ms : List Int} {f : Int} (S : Int → Prop) (h0 : S f) (hc : ∀ x y, S x → y ∈ ms → meet m x y = true → S y) {y : Int} (h : Rch m ms f y) : S y := by
  induction h with
  | base => exact h0
  | step _ h2 h3 ih => exact hc _ _ ih h2 h3
theorem conL_iff {m : MapD} {ms : List Int} : conL m ms = true ↔ ∃ f t, ms = f :: t ∧ ∀ y ∈ ms, Rch m ms f y := by
  cases ms with
  | nil => simp [conL]
  | cons f t =>
    have hcl := clo_closed (m := m) (ms := f :: t) (t.length + 1) [f] (by simpa using List.length_filter_le (fun y => ![f].contains y) (f :: t))
    have hso := clo_sound (m := m) (ms := f :: t) (f := f) (t.length + 1) [f] (fun y hy => by simp at hy; subst hy; exact .base)
    have hmo := clo_mono (m := m) (ms := f :: t) (t.length + 1) [f] f (by simp)
    simp only [conL, List.all_eq_true, List.contains_iff_mem]
    constructor
    · intro h
      exact ⟨f, t, rfl, fun y hy => hso y (h y hy)⟩
    · rintro ⟨f', t', e, h⟩ y hy
      cases e
      exact rch_in (fun y => y ∈ clo m (f :: t) (t.length + 1) [f]) hmo (fun x y hx hy hm => hcl x hx y hy hm) (h y hy)
end Go.Proofs.YtlnamjhgbdacbaaGreat
/- Maps whose keys are joins. Conditions stand at each theorem. -/
namespace Go.Proofs.YtlnamjhgbdacbaaGreat
open Go.RowKit Go.Shelf

def jnV (a b : Int) : Value := .agg #[.int .i64 a, .int .i64 b]
theorem jn_law : WideMaps.KeyLaw Tryz.prog 77 := deep_law (m := 2) (by decide) (by kernel_rfl) (by kernel_rfl) (by kernel_rfl)
theorem mwf64 {x : Int} (h : -1000000000 ≤ x) (h2 : x ≤ 1000000000) : (Lit.int .i64 x).wf = true := by
  have h3 : IntKind.i64.min = -9223372036854775808 := by rfl
  have h4 : IntKind.i64.max = 9223372036854775807 := by rfl
  simp [Lit.wf, h3, h4]; omega
theorem mtwo_fields {P : Program} {t : TypeId} {n0 n1 : String} {t0 t1 o0 o1 : Nat} (h1 : (P.fieldsOf t).toList.map (fun f => (f.name, f.type, f.offset)) = [(n0, t0, o0), (n1, t1, o1)]) (h2 : P.underlying t = some (.struct (P.fieldsOf t))) :
    ∃ f0 f1 : Field, P.underlying t = some (.struct #[f0, f1]) ∧ f0.name = n0 ∧ f0.type = t0 ∧ f0.offset = o0 ∧ f1.name = n1 ∧ f1.type = t1 ∧ f1.offset = o1 := by
  revert h1 h2
  generalize P.fieldsOf t = fs
  intro h1 h2
  obtain ⟨l⟩ := fs
  match l, h1 with
  | [f0, f1], h1 =>
    simp only [List.map_cons, List.map_nil, List.cons.injEq, Prod.mk.injEq, and_true] at h1
    obtain ⟨⟨a, b, c⟩, d, e, f⟩ := h1
    exact ⟨f0, f1, h2, a, b, c, d, e, f⟩
theorem jn_fields : ∃ f0 f1 : Field, Tryz.prog.underlying 77 = some (.struct #[f0, f1]) ∧ f0.name = "A" ∧ f0.type = 3 ∧ f0.offset = 0 ∧ f1.name = "B" ∧ f1.type = 3 ∧ f1.offset = 1 :=
  mtwo_fields (by kernel_rfl) (by kernel_rfl)
theorem jn_cells : Tryz.prog.cellsOf 77 = 2 ∧ Tryz.prog.cellsOf 3 = 1 := ⟨by kernel_rfl, by kernel_rfl⟩
theorem mint_lits (d : Nat) {x : Int} (h : (Lit.int .i64 x).wf = true) : Tryz.prog.keyLits (d + 1) 3 [.int .i64 x] = some [.int .i64 x] := by
  simp [Program.keyLits, Tryz.underlying3, h]
def Ix (a : Int) : Prop := 0 ≤ a ∧ a ≤ 1000
theorem jn_key {a b : Int} (ha : Ix a) (hb : Ix b) : ∃ l, keyOf Tryz.prog 77 (jnV a b) = some l := by
  obtain ⟨f0, f1, h0, h1, h2, h3, h4, h5, h6⟩ := jn_fields
  unfold Ix at ha hb
  have hkt : Tryz.prog.keyType 77 = true := by kernel_rfl
  have hsz : decide (2 ≤ Tryz.prog.types.size) = true := by kernel_rfl
  obtain ⟨m, hm⟩ : ∃ m, Tryz.prog.types.size + 1 = m + 3 := ⟨Tryz.prog.types.size - 2, by have := of_decide_eq_true hsz; omega⟩
  have hfm : (jnV a b).formed Tryz.prog 77 = true := by
    simp only [jnV, Value.formed, h0, jn_cells.1]; rfl
  unfold keyOf
  simp only [h0, hkt, hfm, Bool.and_self, if_true, hm]
  unfold Program.keyLits
  have hnm : (#[f0, f1].all fun x => x.name != "_") = true := by simp [h1, h4]
  simp only [h0, jn_cells.1, jnV, Value.cells, List.length_cons, List.length_nil, Nat.zero_add, Nat.reduceAdd, hnm, and_self, if_true]
  simp only [List.mapM_cons, List.mapM_nil, h2, h3, h5, h6, jn_cells.2, List.drop_zero, List.drop_succ_cons, List.take_succ_cons, List.take_zero]
  rw [mint_lits (m + 1) (mwf64 (by omega) (by omega)), mint_lits (m + 1) (mwf64 (by omega) (by omega))]
  exact ⟨_, rfl⟩
theorem jnV_inj {a b a' b' : Int} (h : jnV a b = jnV a' b') : a = a' ∧ b = b' := by
  simp [jnV] at h
  exact h

theorem set_getElem_same {α : Type} {l : List α} {j : Nat} {a : α} (h : l[j]? = some a) : l.set j a = l := WideElems.set_self _ _ _ h
/-- the keys are the pairs of K; the value of each is true, but for those of U -/
structure JW (K U : Int → Int → Prop) (es : Array MapEntry) (clock : Nat) : Prop where
  keys : ∀ e ∈ es.toList, ∃ a b, e.key = jnV a b ∧ Ix a ∧ Ix b ∧ K a b ∧ (U a b ∨ e.val = .bool true)
  has : ∀ a b, K a b → ∃ e ∈ es.toList, e.key = jnV a b
  lt : ∀ e ∈ es.toList, e.born < clock
  nd : (es.toList.map (·.born)).Nodup
  kd : (es.toList.map (·.key)).Nodup
def MapAt (K U : Int → Int → Prop) (b : Nat) (W : World) : Prop := ∃ es clock, W.heap[b]? = some (.map es clock) ∧ JW K U es clock
/-- an entry of a map that stays where it is -/
def EntAt (b : Nat) (x y : Int) (st : Nat) (W : World) : Prop := ∃ es clock, W.heap[b]? = some (.map es clock) ∧ ∃ e ∈ es.toList, e.key = jnV x y ∧ e.born = st
/-- what may change: one map, and its entries stay -/
structure StM (b : Nat) (A B : World) : Prop where
  chg : MChg (fun q => q = b) A B
  ent : ∀ x y st, EntAt b x y st A → EntAt b x y st B
theorem StM.refl {b : Nat} {A : World} : StM b A A := ⟨MChg.refl, fun _ _ _ h => h⟩
theorem StM.trans {b : Nat} {A B D : World} (h : StM b A B) (k : StM b B D) : StM b A D := ⟨h.chg.trans k.chg, fun x y st e => k.ent x y st (h.ent x y st e)⟩
theorem MapAt.congr {K U K' U' : Int → Int → Prop} {b : Nat} {W : World} (h : MapAt K U b W) (hK : ∀ x y, K' x y ↔ K x y) (hU : ∀ x y, U x y → U' x y) : MapAt K' U' b W := by
  obtain ⟨es, c, h1, h2⟩ := h
  refine ⟨es, c, h1, ⟨fun e he => ?_, fun x y hxy => h2.has x y ((hK x y).1 hxy), h2.lt, h2.nd, h2.kd⟩⟩
  obtain ⟨x, y, a1, a2, a3, a4, a5⟩ := h2.keys e he
  exact ⟨x, y, a1, a2, a3, (hK x y).2 a4, a5.imp (hU x y) id⟩
theorem JW.ok {K U : Int → Int → Prop} {es : Array MapEntry} {clock : Nat} (h : JW K U es clock) : ∀ e ∈ es.toList, ∃ l, keyOf Tryz.prog 77 e.key = some l := fun e he => by
  obtain ⟨a, b, e1, h1, h2, _, _⟩ := h.keys e he
  rw [e1]; exact jn_key h1 h2
theorem MChg.putObj {Z : Nat → Prop} {A B : World} (h : MChg Z A B) {b : Nat} (hz : Z b) (o : Obj) : MChg Z A (B.putObj b o) :=
  ⟨h.os, h.tape, h.output, by simp [World.putObj]; exact h.size, fun k hk hn => by
    have hne : b ≠ k := fun e => hn (e ▸ hz)
    simp only [World.putObj]
    rw [Array.getElem?_setIfInBounds_ne hne]
    exact h.block k hk hn⟩
theorem putObj_at {W : World} {b : Nat} {o o' : Obj} (hb : W.heap[b]? = some o) : (W.putObj b o').heap[b]? = some o' := by
  have hlt := (Array.getElem?_eq_some_iff.1 hb).1
  simp [World.putObj, hlt]
section
variable {W : World} {b t e : Nat} {K U : Int → Int → Prop} {x y : Int}
theorem jn_look (ht : Tryz.prog.underlying t = some (.map 77 e)) (hz : (zeroValue e).run Tryz.prog W = .ok (.bool false) W) (h : MapAt K (fun _ _ => False) b W) (hx : Ix x) (hy : Ix y) {r : Bool} (hr : r = true ↔ K x y) :
    (Instr.lookup t (.map (some b)) (jnV x y) false).run Tryz.prog W = .ok (.bool r) W := by
  obtain ⟨es, clock, hb, hj⟩ := h
  obtain ⟨l, hk⟩ := jn_key hx hy
  rcases jn_law.find W hk es.toList hj.ok with ⟨h1, h2⟩ | ⟨j, e0, h1, h2, h3⟩
  · have : r = false := by
      cases r with
      | false => rfl
      | true =>
        obtain ⟨e1, he1, hk1⟩ := hj.has x y (hr.1 rfl)
        exact absurd hk1 (h2 e1 he1)
    rw [this]
    simp [Instr.lookup, run_underlying ht, MapKept.run_getObj_map hb, jn_law.check W _ hk, h1, hz, Result.andThen]
  · have hm := List.mem_of_getElem? h2
    obtain ⟨a', b', e1, _, _, hK, hv⟩ := hj.keys e0 hm
    rw [h3] at e1
    obtain ⟨rfl, rfl⟩ := jnV_inj e1
    have : r = true := hr.2 hK
    rw [this]
    have hv' : e0.val = .bool true := hv.resolve_left id
    simp [Instr.lookup, run_underlying ht, MapKept.run_getObj_map hb, jn_law.check W _ hk, h1, hv', Result.andThen]
theorem jn_entry (ht : Tryz.prog.underlying t = some (.map 77 e)) (hz : (zeroValue e).run Tryz.prog W = .ok (.bool false) W) (h : MapAt K (fun _ _ => False) b W) (hx : Ix x) (hy : Ix y) :
    ∃ (v : Value) (st : Nat) (W' : World), (Instr.mapEntry t (.map (some b)) (jnV x y)).run Tryz.prog W = .ok (.tuple #[v, goInt st]) W' ∧ StM b W W' ∧ EntAt b x y st W' ∧ MapAt (fun p q => K p q ∨ (p = x ∧ q = y)) (fun p q => p = x ∧ q = y) b W' := by
  obtain ⟨es, clock, hb, hj⟩ := h
  obtain ⟨l, hk⟩ := jn_key hx hy
  rcases jn_law.find W hk es.toList hj.ok with ⟨h1, h2⟩ | ⟨j, e0, h1, h2, h3⟩
  · refine ⟨.bool false, clock, W.putObj b (.map (es.push ⟨jnV x y, .bool false, clock⟩) (clock + 1)), ?_, ⟨MChg.putObj (Z := fun q => q = b) MChg.refl rfl _, ?_⟩, ⟨_, _, putObj_at hb, ⟨jnV x y, .bool false, clock⟩, by simp, rfl, rfl⟩, _, _, putObj_at hb, ?_⟩
    · simp [Instr.mapEntry, run_underlying ht, MapKept.run_getObj_map hb, jn_law.check W false hk, h1, hz, MapKept.run_setObj_map _ hb, Result.andThen, World.putObj]
    · rintro p q st ⟨es', c', hb', e', he', hk', hs'⟩
      rw [hb] at hb'
      cases hb'
      exact ⟨_, _, putObj_at hb, e', by simp [he'], hk', hs'⟩
    · refine ⟨fun e' he' => ?_, fun p q hpq => ?_, fun e' he' => ?_, ?_, ?_⟩
      · simp only [Array.toList_push, List.mem_append, List.mem_singleton] at he'
        rcases he' with he' | rfl
        · obtain ⟨p, q, a1, a2, a3, a4, a5⟩ := hj.keys e' he'
          exact ⟨p, q, a1, a2, a3, .inl a4, .inr (a5.resolve_left id)⟩
        · exact ⟨x, y, rfl, hx, hy, .inr ⟨rfl, rfl⟩, .inl ⟨rfl, rfl⟩⟩
      · rcases hpq with hpq | ⟨rfl, rfl⟩
        · obtain ⟨e1, he1, hk1⟩ := hj.has p q hpq
          exact ⟨e1, by simp [he1], hk1⟩
        · exact ⟨⟨jnV p q, .bool false, clock⟩, by simp, rfl⟩
      · simp only [Array.toList_push, List.mem_append, List.mem_singleton] at he'
        rcases he' with he' | rfl
        · have := hj.lt e' he'; omega
        · exact Nat.lt_succ_self _
      · simp only [Array.toList_push, List.map_append, List.map_cons, List.map_nil]
        refine List.nodup_append.2 ⟨hj.nd, by simp, fun p hp q hq e1 => ?_⟩
        simp only [List.mem_singleton] at hq
        obtain ⟨e1', he1, rfl⟩ := List.mem_map.1 hp
        have := hj.lt e1' he1
        omega
      · simp only [Array.toList_push, List.map_append, List.map_cons, List.map_nil]
        refine List.nodup_append.2 ⟨hj.kd, by simp, fun p hp q hq e1 => ?_⟩
        simp only [List.mem_singleton] at hq
        obtain ⟨e1', he1, rfl⟩ := List.mem_map.1 hp
        exact h2 e1' he1 (e1.trans hq)
  · have hj' : es[j]? = some e0 := by simpa using h2
    have hsame : es.modify j (fun e => { e with key := jnV x y }) = es := by
      apply Array.ext'
      rw [Array.toList_modify, ChangeMaps.modify_eq_set _ _ _ _ h2]
      have : ({ e0 with key := jnV x y } : MapEntry) = e0 := by rw [← h3]
      rw [this]
      exact WideElems.set_self _ _ _ h2
    have hm := List.mem_of_getElem? h2
    refine ⟨e0.val, e0.born, W.putObj b (.map es clock), ?_, ⟨MChg.putObj (Z := fun q => q = b) MChg.refl rfl _, ?_⟩, ⟨_, _, putObj_at hb, e0, hm, h3, rfl⟩, _, _, putObj_at hb, ?_⟩
    · simp [Instr.mapEntry, run_underlying ht, MapKept.run_getObj_map hb, jn_law.check W false hk, h1, hj', h3, jn_law.stays W hk, hsame, MapKept.run_setObj_map _ hb, Result.andThen, World.putObj]
    · rintro p q st ⟨es', c', hb', e', he', hk', hs'⟩
      rw [hb] at hb'
      cases hb'
      exact ⟨_, _, putObj_at hb, e', he', hk', hs'⟩
    · obtain ⟨a', b', e1, _, _, hK, hv⟩ := hj.keys e0 hm
      rw [h3] at e1
      obtain ⟨rfl, rfl⟩ := jnV_inj e1
      refine ⟨fun e' he' => ?_, fun p q hpq => ?_, hj.lt, hj.nd, hj.kd⟩
      · obtain ⟨p, q, a1, a2, a3, a4, a5⟩ := hj.keys e' he'
        exact ⟨p, q, a1, a2, a3, .inl a4, .inr (a5.resolve_left id)⟩
      · rcases hpq with hpq | ⟨rfl, rfl⟩
        · exact hj.has p q hpq
        · exact hj.has _ _ hK
theorem jn_store (h : MapAt K (fun p q => p = x ∧ q = y) b W) {st : Nat} (he : EntAt b x y st W) :
    ∃ W', (Instr.entryStore t (.map (some b)) (goInt st) (.bool true)).run Tryz.prog W = .ok () W' ∧ StM b W W' ∧ MapAt K (fun _ _ => False) b W' := by
  obtain ⟨es, clock, hb, hj⟩ := h
  obtain ⟨es', c', hb', e0, hm, hk0, hs0⟩ := he
  rw [hb] at hb'
  cases hb'
  obtain ⟨j, h2⟩ := List.getElem?_of_mem hm
  have hj' : es[j]? = some e0 := by simpa using h2
  have hidx : es.findIdx? (fun e => ((e.born : Nat) : Int) == ((st : Nat) : Int)) = some j := by
    rw [WideElems.findIdx_arr, ← hs0]
    exact WideElems.findIdx_born hj.nd h2
  have hmod : (es.modify j fun e => { e with val := .bool true }).toList = es.toList.set j { e0 with val := .bool true } := by
    rw [Array.toList_modify, ChangeMaps.modify_eq_set _ _ _ _ h2]
  have hjl : j < es.toList.length := (List.getElem?_eq_some_iff.1 h2).1
  have hmem : ∀ z ∈ (es.modify j fun e => { e with val := .bool true }).toList, z = { e0 with val := .bool true } ∨ (z ∈ es.toList ∧ z.key ≠ e0.key) := by
    intro z hz
    rw [hmod] at hz
    obtain ⟨i, hi⟩ := List.getElem?_of_mem hz
    by_cases e : j = i
    · subst e
      rw [List.getElem?_set_self hjl] at hi
      cases hi
      exact .inl rfl
    · rw [List.getElem?_set_ne e] at hi
      refine .inr ⟨List.mem_of_getElem? hi, fun ek => e ?_⟩
      have hil : i < es.toList.length := (List.getElem?_eq_some_iff.1 hi).1
      have h1 : (es.toList.map (·.key))[i]? = some z.key := by rw [List.getElem?_map, hi]; rfl
      have h3 : (es.toList.map (·.key))[j]? = some z.key := by rw [List.getElem?_map, h2, ek]; rfl
      exact (List.getElem?_inj (by simpa using hjl) hj.kd).1 (h3.trans h1.symm)
  have hkeys : (es.modify j fun e => { e with val := .bool true }).toList.map (·.key) = es.toList.map (·.key) := by
    rw [hmod, List.map_set, set_getElem_same (by rw [List.getElem?_map, h2]; rfl)]
  have hborn : (es.modify j fun e => { e with val := .bool true }).toList.map (·.born) = es.toList.map (·.born) := by
    rw [hmod, List.map_set, set_getElem_same (by rw [List.getElem?_map, h2]; rfl)]
  have hback : ∀ z ∈ es.toList, ∃ z' ∈ (es.modify j fun e => { e with val := .bool true }).toList, z'.key = z.key ∧ z'.born = z.born := by
    intro z hz
    obtain ⟨i, hi⟩ := List.getElem?_of_mem hz
    by_cases e : j = i
    · subst e
      rw [h2] at hi
      cases hi
      exact ⟨{ e0 with val := .bool true }, by rw [hmod]; exact List.mem_of_getElem? (List.getElem?_set_self hjl), rfl, rfl⟩
    · exact ⟨z, by rw [hmod]; exact List.mem_of_getElem? (by rw [List.getElem?_set_ne e]; exact hi), rfl, rfl⟩
  refine ⟨W.putObj b (.map (es.modify j fun e => { e with val := .bool true }) clock), ?_, ⟨MChg.putObj (Z := fun q => q = b) MChg.refl rfl _, ?_⟩, _, _, putObj_at hb, ?_⟩
  · simp [Instr.entryStore, MapKept.run_getObj_map hb, asInt, asIntOf, goInt, hidx, MapKept.run_setObj_map _ hb, Result.andThen, World.putObj]
  · rintro p q st' ⟨es', c', hb', e', he', hk', hs'⟩
    rw [hb] at hb'
    cases hb'
    obtain ⟨z', hz1, hz2, hz3⟩ := hback e' he'
    exact ⟨_, _, putObj_at hb, z', hz1, hz2.trans hk', hz3.trans hs'⟩
  · obtain ⟨a0, b0, k0, i1, i2, K0, _⟩ := hj.keys e0 hm
    refine ⟨fun z hz => ?_, fun p q hpq => ?_, fun z hz => ?_, by rw [hborn]; exact hj.nd, by rw [hkeys]; exact hj.kd⟩
    · rcases hmem z hz with rfl | ⟨h1, h3⟩
      · exact ⟨a0, b0, k0, i1, i2, K0, .inr rfl⟩
      · obtain ⟨p, q, a1, a2, a3, a4, a5⟩ := hj.keys z h1
        refine ⟨p, q, a1, a2, a3, a4, .inr (a5.resolve_left ?_)⟩
        rintro ⟨rfl, rfl⟩
        exact h3 (a1.trans hk0.symm)
    · obtain ⟨e1, he1, hk1⟩ := hj.has p q hpq
      obtain ⟨z', hz1, hz2, _⟩ := hback e1 he1
      exact ⟨z', hz1, hz2.trans hk1⟩
    · rcases hmem z hz with rfl | ⟨h1, _⟩
      · exact hj.lt e0 hm
      · exact hj.lt z h1
end
end Go.Proofs.YtlnamjhgbdacbaaGreat
