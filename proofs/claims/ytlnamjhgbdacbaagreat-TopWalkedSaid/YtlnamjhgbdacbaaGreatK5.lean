/- The walks and the plain laws of this part of the program, part 5: what each computes. Conditions stand at each theorem. -/
import Derived.Deep.OwnRows
import Derived.Test.YtlnamjhgbdacbaaGreatK1
import Derived.Test.YtlnamjhgbdacbaaGreatK3
import Derived.Test.YtlnamjhgbdacbaaGreatK4
/- A map at work: its joins, in both directions, as a map. Conditions stand at each theorem. -/
namespace Go.Proofs.YtlnamjhgbdacbaaGreat
open Go.RowKit Go.Shelf

theorem mbool_zero (W : World) : (zeroValue 4).run Tryz.prog W = .ok (.bool false) W := by kernel_rfl
theorem MapAt.lt {K U : Int → Int → Prop} {b : Nat} {W : World} (h : MapAt K U b W) : b < W.heap.size := by
  obtain ⟨es, ck, h, _⟩ := h
  exact (Array.getElem?_eq_some_iff.1 h).1
theorem MapAt.ne {K U : Int → Int → Prop} {b g t : Nat} {us : Array Value} {W : World} (h : MapAt K U b W) (hg : Blk W g t us) : g ≠ b := fun e => by
  obtain ⟨es, ck, hm, _⟩ := h
  subst e
  unfold Blk at hg
  rw [hg] at hm
  cases hm
theorem MapAt.chg {K U : Int → Int → Prop} {b : Nat} {Z : Nat → Prop} {W W' : World} (h : MapAt K U b W) (hc : MChg Z W W') (hz : ¬ Z b) : MapAt K U b W' := by
  obtain ⟨es, ck, hm, hj⟩ := h
  exact ⟨es, ck, (hc.block b (Array.getElem?_eq_some_iff.1 hm).1 hz).trans hm, hj⟩
theorem MapAt.below {K U : Int → Int → Prop} {b : Nat} {W W' : World} (h : MapAt K U b W) (hb : Below W.heap.size W W') : MapAt K U b W' := h.chg (Z := fun _ => False) (MChg.of_below hb) id
theorem MapAt.new (W : World) : MapAt (fun _ _ => False) (fun _ _ => False) W.heap.size (W.alloc (.map #[] 0)) :=
  ⟨#[], 0, World.alloc_heap_new W _, ⟨fun e h => by simp at h, fun a b h => h.elim, fun e h => by simp at h, by simp, by simp⟩⟩
/-- the joins of the first k, in both directions -/
def kTo (m : MapD) (k : Nat) (x y : Int) : Prop := ∃ (i : Nat) (j : Jn), i < k ∧ m.js[i]? = some j ∧ ((j.a = x ∧ j.b = y) ∨ (j.b = x ∧ j.a = y))
theorem kTo_zero {m : MapD} {x y : Int} : kTo m 0 x y ↔ False := ⟨fun ⟨i, _, h, _⟩ => by omega, False.elim⟩
theorem kTo_succ {m : MapD} {k : Nat} {j : Jn} (h : m.js[k]? = some j) (x y : Int) : kTo m (k + 1) x y ↔ (kTo m k x y ∨ (x = j.a ∧ y = j.b)) ∨ (x = j.b ∧ y = j.a) := by
  constructor
  · rintro ⟨i, j', h1, h2, h3⟩
    by_cases e : i = k
    · subst e
      rw [h] at h2
      cases h2
      rcases h3 with ⟨e1, e2⟩ | ⟨e1, e2⟩
      · exact .inl (.inr ⟨e1.symm, e2.symm⟩)
      · exact .inr ⟨e1.symm, e2.symm⟩
    · exact .inl (.inl ⟨i, j', by omega, h2, h3⟩)
  · rintro ((⟨i, j', h1, h2, h3⟩ | ⟨e1, e2⟩) | ⟨e1, e2⟩)
    · exact ⟨i, j', by omega, h2, h3⟩
    · exact ⟨k, j, by omega, h, .inl ⟨e1.symm, e2.symm⟩⟩
    · exact ⟨k, j, by omega, h, .inr ⟨e1.symm, e2.symm⟩⟩
theorem kTo_all {m : MapD} {x y : Int} : kTo m m.js.length x y ↔ meet m x y = true := by
  rw [meet_iff]
  constructor
  · rintro ⟨i, j, _, h2, h3⟩
    exact ⟨j, List.mem_of_getElem? h2, h3.imp id fun ⟨a, b⟩ => ⟨b, a⟩⟩
  · rintro ⟨j, hj, h3⟩
    obtain ⟨i, hi⟩ := List.getElem?_of_mem hj
    exact ⟨i, j, (List.getElem?_eq_some_iff.1 hi).1, hi, h3.imp id fun ⟨a, b⟩ => ⟨b, a⟩⟩
/-- the map of joins, before and behind the first entry (operation 14) and its value (operation 16) -/
def PhJ (K : Int → Int → Prop) (x y : Int) (b : Nat) (li : Array Bool) (W : World) : Prop :=
  if li.getD 16 false = true then MapAt (fun p q => K p q ∨ (p = x ∧ q = y)) (fun _ _ => False) b W else
  if li.getD 14 false = true then MapAt (fun p q => K p q ∨ (p = x ∧ q = y)) (fun p q => p = x ∧ q = y) b W else MapAt K (fun _ _ => False) b W
theorem PhJ.other {K : Int → Int → Prop} {x y : Int} {b i : Nat} {li : Array Bool} {W : World} (h : PhJ K x y b li W) (h1 : i ≠ 14) (h2 : i ≠ 16) : PhJ K x y b (li.setIfInBounds i true) W := by
  unfold PhJ at *
  rw [getD_set_oth h1, getD_set_oth h2]
  exact h
/-- a map at work lies in memory: its struct at g, its joins at b -/
structure WAt (m : MapD) (A : Option Addr) (c : Nat) (A2 : Option Addr) (c2 : Nat) (A3 : Option Addr) (c3 : Nat) (g b : Nat) (W : World) : Prop where
  blk : Blk W g 159 #[.slice A m.old.length c, .int .i64 m.nw, .slice A2 m.ss.length c2, .slice A3 m.js.length c3, .map (some b)]
  mp : MapAt (fun x y => meet m x y = true) (fun _ _ => False) b W
theorem WAt.keep {m : MapD} {A : Option Addr} {c : Nat} {A2 : Option Addr} {c2 : Nat} {A3 : Option Addr} {c3 : Nat} {g b : Nat} {W W' : World} (h : WAt m A c A2 c2 A3 c3 g b W) (hb : Below W.heap.size W W') : WAt m A c A2 c2 A3 c3 g b W' := ⟨h.blk.keep hb, h.mp.below hb⟩

set_option maxRecDepth 100000 in
set_option maxHeartbeats 2000000 in
theorem bwork_any (m : MapD) (A : Option Addr) (c : Nat) (A2 : Option Addr) (c2 : Nat) (A3 : Option Addr) (c3 : Nat) (w : World) (h : MIn m A c A2 c2 A3 c3 w) (ok : OkM m) :
    Calls Tryz.prog 38 #[.agg #[.slice A m.old.length c, .int .i64 m.nw, .slice A2 m.ss.length c2, .slice A3 m.js.length c3]] w fun e w' => ∃ g b, e = .returned (.pointer (some ⟨g, 0, none⟩)) ∧ w.heap.size ≤ g ∧ w.heap.size ≤ b ∧ WAt m A c A2 c2 A3 c3 g b w' ∧ Below w.heap.size w w' := by
  have hm3 := h.m3
  have hl3 := h.l3
  unfold maxLen at hm3
  have hs8 := ok.s8
  have hj20 := ok.j20
  have hB := below_box (w := w) #[.slice A m.old.length c, .int .i64 m.nw, .slice A2 m.ss.length c2, .slice A3 m.js.length c3] 36
  have hT := Blk.new w 36 #[.slice A m.old.length c, .int .i64 m.nw, .slice A2 m.ss.length c2, .slice A3 m.js.length c3]
  obtain ⟨t0, t1, t2, t3⟩ := hT.c4
  have k1 := (hT.alloc (.map #[] 0)).alloc (.cells #[.slice A m.old.length c, .int .i64 m.nw, .slice A2 m.ss.length c2, .slice A3 m.js.length c3, .map (some (w.heap.size + 1))] 159)
  have k2 := Blk.new ((w.alloc (.cells #[.slice A m.old.length c, .int .i64 m.nw, .slice A2 m.ss.length c2, .slice A3 m.js.length c3] 36)).alloc (.map #[] 0)) 159 #[.slice A m.old.length c, .int .i64 m.nw, .slice A2 m.ss.length c2, .slice A3 m.js.length c3, .map (some (w.heap.size + 1))]
  have k3 := (MapAt.new (w.alloc (.cells #[.slice A m.old.length c, .int .i64 m.nw, .slice A2 m.ss.length c2, .slice A3 m.js.length c3] 36))).below (below_box #[.slice A m.old.length c, .int .i64 m.nw, .slice A2 m.ss.length c2, .slice A3 m.js.length c3, .map (some (w.heap.size + 1))] 159)
  have hb := (hB.alloc hB.size (.map #[] 0)).alloc (by simp; omega) (.cells #[.slice A m.old.length c, .int .i64 m.nw, .slice A2 m.ss.length c2, .slice A3 m.js.length c3, .map (some (w.heap.size + 1))] 159)
  simp only [World.size_alloc] at k2 k3
  have HS := hid (And.intro k1 (And.intro k2 (And.intro k3 hb)))
  have HH := hid h
  have OK := hid ok
  have hmm := @run_makeMap Tryz.prog
  clear h ok hB hT k1 k2 k3 hb
  go_enter Tryz.func38, Tryz.ntmps38
  go_wp2
  clear t0 t1 t2 t3 hmm
  generalize hW1 : (((w.alloc (.cells #[.slice A m.old.length c, .int .i64 m.nw, .slice A2 m.ss.length c2, .slice A3 m.js.length c3] 36)).alloc (.map #[] 0)).alloc (.cells #[.slice A m.old.length c, .int .i64 m.nw, .slice A2 m.ss.length c2, .slice A3 m.js.length c3, .map (some (w.heap.size + 1))] 159)) = w1 at *
  clear hW1
  go_loopw [13] (fun i W => ∃ k : Nat, k ≤ m.js.length ∧ i = .int .i64 k ∧ MapAt (kTo m k) (fun _ _ => False) (w.heap.size + 1) W ∧ MChg (fun q => q = w.heap.size + 1) w1 W) (fun i _ => m.js.length - (intOf i).toNat)
  case atStart => exact ⟨0, Nat.zero_le _, rfl, HS.out.2.2.1.congr (fun x y => kTo_zero) (fun _ _ h => h), MChg.refl⟩
  case round =>
    obtain ⟨k, hk, rfl, hmp, hcg⟩ := hrel
    have hbr : Below w.heap.size w wr := HS.out.2.2.2.trans (hcg.below (n := w.heap.size) (fun q e => by omega) HS.out.2.2.2.size)
    have hg1 := hcg.blk HS.out.2.1 (fun e => by omega)
    have HR := hid (And.intro hmp (And.intro hcg (And.intro hbr hg1)))
    clear hmp hcg hbr hg1
    by_cases hlt : k < m.js.length
    · have hkI : (k : Int) < (m.js.length : Int) := by omega
      obtain ⟨j, hj⟩ : ∃ j, m.js[k]? = some j := ⟨_, List.getElem?_eq_getElem hlt⟩
      obtain ⟨a, rfl, g1, g2, g3⟩ := (HH.out.at_ HR.out.2.2.1).ij k j hj
      have hjb := OK.out.jn j (List.mem_of_getElem? hj)
      have HIA := hid (show Ix j.a ∧ Ix j.b by unfold Ix; omega)
      have HJ := hid hj
      have hz := Blk.new wr 77 #[.int .i64 j.a, .int .i64 j.b]
      have hzb := below_box (w := wr) #[.int .i64 j.a, .int .i64 j.b] 77
      have HZ := hid (And.intro hz (And.intro (HR.out.1.below hzb) (And.intro (HR.out.2.2.2.keep hzb) (HR.out.2.1.trans (MChg.of_below hzb)))))
      have HN := hid (And.intro ((HR.out.1.below hzb).ne hz) (show w.heap.size + 1 + 1 ≠ w.heap.size + 1 by omega))
      clear hj hjb hz hzb g1
      go_wp2
      clear g2 g3
      generalize (wr.alloc (.cells #[.int .i64 j.a, .int .i64 j.b] 77)) = w2 at *
      generalize wr.heap.size = z at *
      obtain ⟨ja, hja⟩ : ∃ x, j.a = x := ⟨_, rfl⟩
      obtain ⟨jb, hjb⟩ : ∃ x, j.b = x := ⟨_, rfl⟩
      rw [hja, hjb] at HIA HZ
      have HJE := hid (And.intro hja hjb)
      clear hja hjb
      refine (wpIn_wide (n := 0)).1 ?_
      refine wpIn_region_each 17 (fun i v W' => match i with | 0 => v = .pointer (some ⟨w.heap.size + 1 + 1, 0, none⟩) | 1 => v = .pointer (some ⟨w.heap.size + 1 + 1, 0, none⟩) | 2 => v = .pointer (some ⟨w.heap.size + 1 + 1, 4, none⟩) | 3 => v = .map (some (w.heap.size + 1)) | 4 => v = .agg #[.int .i64 ja, .int .i64 jb] | 5 => v = .pointer (some ⟨w.heap.size + 1 + 1, 0, none⟩) | 6 => v = .pointer (some ⟨w.heap.size + 1 + 1, 0, none⟩) | 7 => v = .pointer (some ⟨w.heap.size + 1 + 1, 4, none⟩) | 8 => v = .map (some (w.heap.size + 1)) | 9 => v = .pointer (some ⟨z, 1, none⟩) | 10 => v = .int .i64 jb | 11 => v = .pointer (some ⟨z, 0, none⟩) | 12 => v = .int .i64 ja | 13 => v = .agg #[.int .i64 jb, .int .i64 ja] | 14 => ∃ q : Nat × Value, v = .tuple #[q.2, .int .i64 (q.1 : Int)] ∧ EntAt (w.heap.size + 1) ja jb q.1 W' | 15 => ∃ st : Nat, v = .int .i64 (st : Int) ∧ EntAt (w.heap.size + 1) ja jb st W' | 16 => ∃ v4, v = v4 ∧ True | _ => True) (StM (w.heap.size + 1)) (PhJ (kTo m k) ja jb (w.heap.size + 1)) (by kernel_rfl) (by kernel_rfl) ?_ (fun h k => h.trans k) ⟨⟨rfl, rfl, rfl, Nat.le_refl _, fun _ _ _ => rfl⟩, fun _ _ _ h => h⟩ (by unfold PhJ; rw [getD_replicate_false, getD_replicate_false]; simp only [Bool.false_eq_true, if_false]; exact HZ.out.2.1) (by kernel_rfl) ?_ ?_
      · intro i v W1 W2 hb h
        match i, h with
        | 0, h => exact h
        | 1, h => exact h
        | 2, h => exact h
        | 3, h => exact h
        | 4, h => exact h
        | 5, h => exact h
        | 6, h => exact h
        | 7, h => exact h
        | 8, h => exact h
        | 9, h => exact h
        | 10, h => exact h
        | 11, h => exact h
        | 12, h => exact h
        | 13, h => exact h
        | 14, h =>
          obtain ⟨q, rfl, h1⟩ := h
          exact ⟨_, rfl, hb.ent _ _ _ h1⟩
        | 15, h =>
          obtain ⟨st, rfl, h1⟩ := h
          exact ⟨_, rfl, hb.ent _ _ _ h1⟩
        | 16, h =>
          obtain ⟨v4, rfl, h1⟩ := h
          exact ⟨_, rfl, trivial⟩
        | i + 17, h => trivial
      · refine ⟨?_, ?_, ?_, ?_, ?_, ?_, ?_, ?_, ?_, ?_, ?_, ?_, ?_, ?_, ?_, ?_, ?_, trivial⟩
        · -- 0
          intro li a1 W2 hA K hK
          have e3 := hA.par 3 (by kernel_rfl)
          refine opStep none 0 rfl rfl (fun c hc => by cases hc) ?_
          go_simp
          exact hK _ _ rfl StM.refl (hA.ph.other (by decide) (by decide))
        · -- 1
          intro li a1 W2 hA K hK
          have e17 : a1.tmps.getD 17 undef = .pointer (some ⟨w.heap.size + 1 + 1, 0, none⟩) := hA.val 0 17 (by kernel_rfl) (by kernel_rfl)
          refine opStep none 0 rfl rfl (fun c hc => by cases hc) ?_
          go_simp
          exact hK _ _ rfl StM.refl (hA.ph.other (by decide) (by decide))
        · -- 2
          intro li a1 W2 hA K hK
          have e18 : a1.tmps.getD 18 undef = .pointer (some ⟨w.heap.size + 1 + 1, 0, none⟩) := hA.val 1 18 (by kernel_rfl) (by kernel_rfl)
          refine opStep none 0 rfl rfl (fun c hc => by cases hc) ?_
          go_simp
          exact hK _ _ rfl StM.refl (hA.ph.other (by decide) (by decide))
        · -- 3
          intro li a1 W2 hA K hK
          have e19 : a1.tmps.getD 19 undef = .pointer (some ⟨w.heap.size + 1 + 1, 4, none⟩) := hA.val 2 19 (by kernel_rfl) (by kernel_rfl)
          obtain ⟨_, _, _, _, q1⟩ := (hA.st.chg.blk HZ.out.2.2.1 HN.out.2).c5
          refine opStep none 0 rfl rfl (fun c hc => by cases hc) ?_
          go_simp
          exact hK _ _ rfl StM.refl (hA.ph.other (by decide) (by decide))
        · -- 4
          intro li a1 W2 hA K hK
          have e5 := hA.par 5 (by kernel_rfl)
          obtain ⟨q1, q2⟩ := (hA.st.chg.blk HZ.out.1 HN.out.1).c2
          refine opStep none 0 rfl rfl (fun c hc => by cases hc) ?_
          go_simp
          exact hK _ _ rfl StM.refl (hA.ph.other (by decide) (by decide))
        · -- 5
          intro li a1 W2 hA K hK
          have e3 := hA.par 3 (by kernel_rfl)
          refine opStep none 0 rfl rfl (fun c hc => by cases hc) ?_
          go_simp
          exact hK _ _ rfl StM.refl (hA.ph.other (by decide) (by decide))
        · -- 6
          intro li a1 W2 hA K hK
          have e22 : a1.tmps.getD 22 undef = .pointer (some ⟨w.heap.size + 1 + 1, 0, none⟩) := hA.val 5 22 (by kernel_rfl) (by kernel_rfl)
          refine opStep none 0 rfl rfl (fun c hc => by cases hc) ?_
          go_simp
          exact hK _ _ rfl StM.refl (hA.ph.other (by decide) (by decide))
        · -- 7
          intro li a1 W2 hA K hK
          have e23 : a1.tmps.getD 23 undef = .pointer (some ⟨w.heap.size + 1 + 1, 0, none⟩) := hA.val 6 23 (by kernel_rfl) (by kernel_rfl)
          refine opStep none 0 rfl rfl (fun c hc => by cases hc) ?_
          go_simp
          exact hK _ _ rfl StM.refl (hA.ph.other (by decide) (by decide))
        · -- 8
          intro li a1 W2 hA K hK
          have e24 : a1.tmps.getD 24 undef = .pointer (some ⟨w.heap.size + 1 + 1, 4, none⟩) := hA.val 7 24 (by kernel_rfl) (by kernel_rfl)
          obtain ⟨_, _, _, _, q1⟩ := (hA.st.chg.blk HZ.out.2.2.1 HN.out.2).c5
          refine opStep none 0 rfl rfl (fun c hc => by cases hc) ?_
          go_simp
          exact hK _ _ rfl StM.refl (hA.ph.other (by decide) (by decide))
        · -- 9
          intro li a1 W2 hA K hK
          have e5 := hA.par 5 (by kernel_rfl)
          refine opStep none 0 rfl rfl (fun c hc => by cases hc) ?_
          go_simp
          exact hK _ _ rfl StM.refl (hA.ph.other (by decide) (by decide))
        · -- 10
          intro li a1 W2 hA K hK
          have e26 : a1.tmps.getD 26 undef = .pointer (some ⟨z, 1, none⟩) := hA.val 9 26 (by kernel_rfl) (by kernel_rfl)
          obtain ⟨q1, q2⟩ := (hA.st.chg.blk HZ.out.1 HN.out.1).c2
          refine opStep none 0 rfl rfl (fun c hc => by cases hc) ?_
          go_simp
          exact hK _ _ rfl StM.refl (hA.ph.other (by decide) (by decide))
        · -- 11
          intro li a1 W2 hA K hK
          have e5 := hA.par 5 (by kernel_rfl)
          refine opStep none 0 rfl rfl (fun c hc => by cases hc) ?_
          go_simp
          exact hK _ _ rfl StM.refl (hA.ph.other (by decide) (by decide))
        · -- 12
          intro li a1 W2 hA K hK
          have e28 : a1.tmps.getD 28 undef = .pointer (some ⟨z, 0, none⟩) := hA.val 11 28 (by kernel_rfl) (by kernel_rfl)
          obtain ⟨q1, q2⟩ := (hA.st.chg.blk HZ.out.1 HN.out.1).c2
          refine opStep none 0 rfl rfl (fun c hc => by cases hc) ?_
          go_simp
          exact hK _ _ rfl StM.refl (hA.ph.other (by decide) (by decide))
        · -- 13
          intro li a1 W2 hA K hK
          have e27 : a1.tmps.getD 27 undef = .int .i64 jb := hA.val 10 27 (by kernel_rfl) (by kernel_rfl)
          have e29 : a1.tmps.getD 29 undef = .int .i64 ja := hA.val 12 29 (by kernel_rfl) (by kernel_rfl)
          have e27' := e27
          have e29' := e29
          rw [Array.getD_eq_getD_getElem?] at e27' e29'
          refine opStep none 0 rfl rfl (fun c hc => by cases hc) ?_
          go_simp
          exact hK _ _ rfl StM.refl (hA.ph.other (by decide) (by decide))
        · -- 14
          intro li a1 W2 hA K hK
          have e20 : a1.tmps.getD 20 undef = .map (some (w.heap.size + 1)) := hA.val 3 20 (by kernel_rfl) (by kernel_rfl)
          have e21 : a1.tmps.getD 21 undef = .agg #[.int .i64 ja, .int .i64 jb] := hA.val 4 21 (by kernel_rfl) (by kernel_rfl)
          have hl16 : li.getD 16 false = false := by
            cases hl : li.getD 16 false
            · rfl
            · have := hA.past hl 14 (by kernel_rfl); rw [hA.new] at this; cases this
          have hp := hA.ph
          unfold PhJ at hp
          rw [hl16, show li.getD 14 false = false from hA.new] at hp
          simp only [Bool.false_eq_true, if_false] at hp
          obtain ⟨v, st, W', hrun, hs, he, hm'⟩ := jn_entry (t := 157) Tryz.underlying157 (mbool_zero _) hp HIA.out.1 HIA.out.2
          unfold jnV goInt at hrun
          refine opValue none 0 rfl rfl (fun c hc => by cases hc) (v := .tuple #[v, .int .i64 (st : Int)]) (W' := W') (by simp [execOp, Act.eval, e20, e21, hrun, Result.andThen]) ?_
          refine hK _ W' ⟨(st, v), rfl, he⟩ hs ?_
          unfold PhJ
          rw [getD_set_oth (by decide), hl16, getD_set_eq (by rw [hA.lsize]; decide)]
          simp only [Bool.false_eq_true, if_false, if_true]
          exact hm'
        · -- 15
          intro li a1 W2 hA K hK
          obtain ⟨q, e31, h31⟩ := hA.val 14 31 (by kernel_rfl) (by kernel_rfl)
          refine opStep none 0 rfl rfl (fun c hc => by cases hc) ?_
          go_simp
          exact hK _ _ ⟨q.1, rfl, h31⟩ StM.refl (hA.ph.other (by decide) (by decide))
        · -- 16
          intro li a1 W2 hA K hK
          have e20 : a1.tmps.getD 20 undef = .map (some (w.heap.size + 1)) := hA.val 3 20 (by kernel_rfl) (by kernel_rfl)
          obtain ⟨st, e32, h32⟩ := hA.val 15 32 (by kernel_rfl) (by kernel_rfl)
          have hp := hA.ph
          unfold PhJ at hp
          rw [show li.getD 16 false = false from hA.new, hA.has 14 (by kernel_rfl)] at hp
          simp only [Bool.false_eq_true, if_false, if_true] at hp
          obtain ⟨W', hrun, hs, hm'⟩ := jn_store (t := 157) hp h32
          unfold goInt at hrun
          refine opStep none 0 rfl rfl (fun c hc => by cases hc) ?_
          unfold Oper.wp
          rw [show (execOp a1.eval _).run Tryz.prog W2 = .ok .skip W' by simp [execOp, Act.eval, e20, e32, hrun, Result.andThen]]
          refine hK undef W' ⟨undef, rfl, trivial⟩ hs ?_
          unfold PhJ
          rw [getD_set_eq (by rw [hA.lsize]; decide)]
          simp only [if_true]
          exact hm'
      · intro li a1 W2 hD
        have hp := hD.ph
        unfold PhJ at hp
        rw [hD.all 16 (by decide)] at hp
        simp only [if_true] at hp
        have e25 : a1.tmps.getD 25 undef = .map (some (w.heap.size + 1)) := hD.val 8 25 (by kernel_rfl) (by kernel_rfl)
        have e30 : a1.tmps.getD 30 undef = .agg #[.int .i64 jb, .int .i64 ja] := hD.val 13 30 (by kernel_rfl) (by kernel_rfl)
        obtain ⟨v, st, w5, hrun, hs5, he, hm5⟩ := jn_entry (t := 157) Tryz.underlying157 (mbool_zero _) hp HIA.out.2 HIA.out.1
        unfold jnV goInt at hrun
        obtain ⟨w6, hrun2, hs6, hm6⟩ := jn_store (t := 157) hm5 he
        unfold goInt at hrun2
        have HNX := hid (show MapAt (kTo m (k + 1)) (fun _ _ => False) (w.heap.size + 1) w6 ∧ MChg (fun q => q = w.heap.size + 1) w1 w6 from ⟨hm6.congr (fun x y => by rw [kTo_succ HJ.out, HJE.out.1, HJE.out.2]) (fun _ _ h => h), HZ.out.2.2.2.trans (hD.st.chg.trans (hs5.chg.trans hs6.chg))⟩)
        have hkp2 := hD.keeps (ds := [17, 18, 19, 20, 21, 22, 23, 24, 25, 26, 27, 28, 29, 30, 31, 32, 33, 34]) (by kernel_rfl)
        have hds := hD.size
        have hsz : a1.tmps.size = 37 := hD.size
        have hdd := hD.defers
        clear hp hs5 he hm5 hs6 hm6
        refine tail_val (i := 17) (v := .tuple #[v, .int .i64 (st : Int)]) (W' := w5) none 0 rfl rfl rfl (fun c hc => by cases hc) (by simp [execOp, Act.eval, e25, e30, hrun, Result.andThen]) (by rw [hsz]; decide) ?_
        intro a3 s3 d3 f3 o3
        have hkp3 := keeps_then hkp2 o3 (by decide)
        refine tail_val (i := 18) (v := .int .i64 (st : Int)) (W' := w5) none 0 rfl rfl rfl (fun c hc => by cases hc) (by go_simp) (by rw [s3, hsz]; decide) ?_
        intro a4 s4 d4 f4 o4
        have hkp4 := keeps_then hkp3 o4 (by decide)
        have e25' := (o4 25 (by decide)).trans ((o3 25 (by decide)).trans e25)
        refine tail_store (i := 19) (W' := w6) none 0 rfl rfl rfl (fun c hc => by cases hc) (by simp [execOp, Act.eval, e25', f4, hrun2, Result.andThen]) ?_
        have e := act_mix [17, 18, 19, 20, 21, 22, 23, 24, 25, 26, 27, 28, 29, 30, 31, 32, 33, 34] (s4.trans (s3.trans hds)) (d4.trans (d3.trans hdd)) (fun i _ hc => hkp4 i hc)
        generalize (fun i => a4.tmps.getD i undef) = g' at e
        refine wpListIn_nil ?_
        rw [e]
        clear e hD hkp2 hkp3 hkp4 s3 s4 d3 d4 f3 f4 o3 o4 e25 e25' e30 hds hdd hsz hrun hrun2 HZ HN HJ HJE
        simp only [mix, List.contains_cons, List.contains_nil, Nat.reduceAdd, Nat.reduceBEq, Bool.or_false, Bool.or_true, cond_true, cond_false]
        go_wp2
        go_roundw
        case rel => exact ⟨k + 1, by omega, by go_num, HNX.out⟩
        case measure => first | (simp [intOf]; done) | (simp [intOf]; omega)
    · have hkI : decide ((k : Int) < (m.js.length : Int)) = false := by simp; omega
      obtain rfl : k = m.js.length := by omega
      have HF := hid (show WAt m A c A2 c2 A3 c3 (w.heap.size + 1 + 1) (w.heap.size + 1) wr ∧ Below w.heap.size w wr from ⟨⟨HR.out.2.2.2, HR.out.1.congr (fun x y => kTo_all.symm) (fun _ _ h => h)⟩, HR.out.2.2.1⟩)
      go_wp2
      go_ret
      exact ⟨w.heap.size + 1 + 1, w.heap.size + 1, rfl, by omega, by omega, HF.out⟩
end Go.Proofs.YtlnamjhgbdacbaaGreat
/- The program's search of connected streets, in plain words: a list whose front is reached. No condition. -/
namespace Go.Proofs.YtlnamjhgbdacbaaGreat

/-- two elements change places -/
def SW (ms ms' : List Int) (r k : Nat) : Prop := ms'.length = ms.length ∧ ∀ i, ms'[i]? = if i = r then ms[k]? else if i = k then ms[r]? else ms[i]?
theorem sw_of {ms : List Int} {r k : Nat} {x y : Int} (hr : ms[r]? = some x) (hk : ms[k]? = some y) : SW ms ((ms.set k x).set r y) r k := by
  have h1 := (List.getElem?_eq_some_iff.1 hr).1
  have h2 := (List.getElem?_eq_some_iff.1 hk).1
  refine ⟨by simp, fun i => ?_⟩
  by_cases e1 : i = r
  · subst e1
    rw [if_pos rfl, List.getElem?_set_self (by simpa using h1), hk]
  · rw [if_neg e1, List.getElem?_set_ne (fun e => e1 e.symm)]
    by_cases e2 : i = k
    · subst e2
      rw [if_pos rfl, List.getElem?_set_self h2, hr]
    · rw [if_neg e2, List.getElem?_set_ne (fun e => e2 e.symm)]
structure CS (m : MapD) (ms0 : List Int) (f : Int) (ms : List Int) (next reached : Nat) : Prop where
  len : ms.length = ms0.length
  sub : ∀ y, y ∈ ms → y ∈ ms0
  sup : ∀ y, y ∈ ms0 → y ∈ ms
  inj : ∀ (i j : Nat) (x : Int), ms[i]? = some x → ms[j]? = some x → i = j
  hd : ms[0]? = some f
  r1 : 1 ≤ reached
  rl : reached ≤ ms.length
  nr : next ≤ reached
  rch : ∀ (i : Nat) (x : Int), i < reached → ms[i]? = some x → Rch m ms0 f x
  cl : ∀ (i k : Nat) (x y : Int), i < next → reached ≤ k → ms[i]? = some x → ms[k]? = some y → meet m x y = false
/-- within the loop over those that are not reached -/
structure CI (m : MapD) (ms0 : List Int) (f : Int) (ms : List Int) (next reached k : Nat) : Prop extends CS m ms0 f ms next reached where
  lt : next < reached
  rk : reached ≤ k
  kl : k ≤ ms.length
  no : ∀ (j : Nat) (x y : Int), reached ≤ j → j < k → ms[next]? = some x → ms[j]? = some y → meet m x y = false
theorem CS.start {m : MapD} {f : Int} {t : List Int} (h : (f :: t).Nodup) : CS m (f :: t) f (f :: t) 0 1 :=
  ⟨rfl, fun _ h => h, fun _ h => h, fun i j x hi hj => by
    obtain ⟨h1, h2⟩ := List.getElem?_eq_some_iff.1 hi
    obtain ⟨h3, h4⟩ := List.getElem?_eq_some_iff.1 hj
    exact (List.getElem?_inj h1 h).1 (hi.trans hj.symm), rfl, Nat.le_refl _, by simp, by omega, fun i x hi hx => by
    obtain rfl : i = 0 := by omega
    simp at hx
    subst hx
    exact .base, fun i k x y hi => by omega⟩
theorem CI.start {m : MapD} {ms0 ms : List Int} {f : Int} {next reached : Nat} (h : CS m ms0 f ms next reached) (hlt : next < reached) : CI m ms0 f ms next reached reached :=
  ⟨h, hlt, Nat.le_refl _, h.rl, fun j x y h1 h2 => by omega⟩
theorem CI.miss {m : MapD} {ms0 ms : List Int} {f : Int} {next reached k : Nat} (h : CI m ms0 f ms next reached k) (hk : k < ms.length) {a b : Int} (ha : ms[next]? = some a) (hb : ms[k]? = some b) (hm : meet m a b = false) : CI m ms0 f ms next reached (k + 1) :=
  ⟨h.toCS, h.lt, by have := h.rk; omega, hk, fun j x y h1 h2 hx hy => by
    by_cases e : j = k
    · subst e
      rw [ha] at hx; rw [hb] at hy
      cases hx; cases hy
      exact hm
    · exact h.no j x y h1 (by omega) hx hy⟩
theorem CI.hit {m : MapD} {ms0 ms ms' : List Int} {f : Int} {next reached k : Nat} (h : CI m ms0 f ms next reached k) (hk : k < ms.length) {a b : Int} (ha : ms[next]? = some a) (hb : ms[k]? = some b) (hm : meet m a b = true) (hs : SW ms ms' reached k) : CI m ms0 f ms' next (reached + 1) (k + 1) := by
  obtain ⟨s1, s2⟩ := hs
  have hrk := h.rk
  have hlt := h.lt
  have hr1 := h.r1
  have lo : ∀ i, i < reached → ms'[i]? = ms[i]? := fun i hi => by rw [s2, if_neg (by omega), if_neg (by omega)]
  have at_ : ms'[reached]? = some b := by rw [s2, if_pos rfl, hb]
  have hi_ : ∀ i (x : Int), reached + 1 ≤ i → ms'[i]? = some x → ∃ j, reached ≤ j ∧ (i < k + 1 → j < k) ∧ ms[j]? = some x := fun i x hi hx => by
    rw [s2, if_neg (by omega)] at hx
    by_cases e : i = k
    · rw [if_pos e] at hx
      exact ⟨reached, Nat.le_refl _, fun _ => by omega, hx⟩
    · rw [if_neg e] at hx
      exact ⟨i, by omega, fun _ => by omega, hx⟩
  have to : ∀ y, y ∈ ms' → y ∈ ms := fun y hy => by
    obtain ⟨i, hi⟩ := List.getElem?_of_mem hy
    rw [s2] at hi
    split at hi
    · exact List.mem_of_getElem? hi
    · split at hi
      · exact List.mem_of_getElem? hi
      · exact List.mem_of_getElem? hi
  have fro : ∀ y, y ∈ ms → y ∈ ms' := fun y hy => by
    obtain ⟨i, hi⟩ := List.getElem?_of_mem hy
    by_cases e1 : i = reached
    · subst e1
      by_cases e2 : i = k
      · subst e2
        exact List.mem_of_getElem? (i := i) (by rw [s2, if_pos rfl, hi])
      · exact List.mem_of_getElem? (i := k) (by rw [s2, if_neg (fun e => e2 e.symm), if_pos rfl, hi])
    · by_cases e2 : i = k
      · subst e2
        exact List.mem_of_getElem? (i := reached) (by rw [s2, if_pos rfl, hi])
      · exact List.mem_of_getElem? (i := i) (by rw [s2, if_neg e1, if_neg e2, hi])
  refine ⟨⟨s1.trans h.len, fun y hy => h.sub y (to y hy), fun y hy => fro y (h.sup y hy), fun i j x hi hj => ?_, ?_, by omega, by rw [s1]; omega, by omega, fun i x hi hx => ?_, fun i j x y hi hj hx hy => ?_⟩, by omega, by omega, by rw [s1]; omega, fun j x y h1 h2 hx hy => ?_⟩
  · rw [s2] at hi hj
    by_cases i1 : i = reached <;> by_cases j1 : j = reached
    · omega
    · rw [if_pos i1] at hi
      rw [if_neg j1] at hj
      by_cases j2 : j = k
      · rw [if_pos j2] at hj
        have := h.inj _ _ _ hi hj
        omega
      · rw [if_neg j2] at hj
        have := h.inj _ _ _ hi hj
        omega
    · rw [if_pos j1] at hj
      rw [if_neg i1] at hi
      by_cases i2 : i = k
      · rw [if_pos i2] at hi
        have := h.inj _ _ _ hi hj
        omega
      · rw [if_neg i2] at hi
        have := h.inj _ _ _ hi hj
        omega
    · rw [if_neg i1] at hi
      rw [if_neg j1] at hj
      by_cases i2 : i = k <;> by_cases j2 : j = k
      · omega
      · rw [if_pos i2] at hi
        rw [if_neg j2] at hj
        have := h.inj _ _ _ hi hj
        omega
      · rw [if_neg i2] at hi
        rw [if_pos j2] at hj
        have := h.inj _ _ _ hi hj
        omega
      · rw [if_neg i2] at hi
        rw [if_neg j2] at hj
        exact h.inj _ _ _ hi hj
  · rw [lo 0 (by omega)]; exact h.hd
  · by_cases e : i = reached
    · subst e
      rw [at_] at hx
      cases hx
      exact .step (h.rch next a hlt ha) (h.sub b (List.mem_of_getElem? hb)) hm
    · rw [lo i (by omega)] at hx
      exact h.rch i x (by omega) hx
  · have hnr := h.nr
    rw [lo i (by omega)] at hx
    obtain ⟨q, q1, _, q2⟩ := hi_ j y hj hy
    exact h.cl i q x y hi q1 hx q2
  · rw [lo next hlt] at hx
    obtain ⟨q, q1, q3, q2⟩ := hi_ j y h1 hy
    exact h.no q x y q1 (q3 h2) hx q2
theorem CI.done {m : MapD} {ms0 ms : List Int} {f : Int} {next reached : Nat} (h : CI m ms0 f ms next reached ms.length) : CS m ms0 f ms (next + 1) reached :=
  ⟨h.len, h.sub, h.sup, h.inj, h.hd, h.r1, h.rl, h.lt, h.rch, fun i k x y hi hk hx hy => by
    by_cases e : i = next
    · subst e
      exact h.no k x y hk (List.getElem?_eq_some_iff.1 hy).1 hx hy
    · exact h.cl i k x y (by omega) hk hx hy⟩
theorem CS.ends {m : MapD} {t ms : List Int} {f : Int} {reached : Nat} (h : CS m (f :: t) f ms reached reached) : decide (reached = ms.length) = conL m (f :: t) := by
  rw [Bool.eq_iff_iff, decide_eq_true_iff, conL_iff]
  constructor
  · intro e
    refine ⟨f, t, rfl, fun y hy => ?_⟩
    obtain ⟨i, hi⟩ := List.getElem?_of_mem (h.sup y hy)
    exact h.rch i y (by have := (List.getElem?_eq_some_iff.1 hi).1; omega) hi
  · rintro ⟨f', t', e, hall⟩
    cases e
    rcases Nat.lt_or_ge reached ms.length with hlt | hge
    · exfalso
      have hx : ms[reached]? = some ms[reached] := List.getElem?_eq_getElem hlt
      have hr := hall ms[reached] (h.sub _ (List.getElem_mem hlt))
      obtain ⟨i, hi, e⟩ := rch_in (fun y => ∃ i, i < reached ∧ ms[i]? = some y) ⟨0, h.r1, h.hd⟩ (fun x y ⟨i, hi, hx⟩ hy hm => by
        obtain ⟨j, hj⟩ := List.getElem?_of_mem (h.sup y hy)
        rcases Nat.lt_or_ge j reached with hl | hl
        · exact ⟨j, hl, hj⟩
        · have := h.cl i j x y hi hl hx hj
          rw [hm] at this; cases this) hr
      have := h.inj _ _ _ e hx
      omega
    · have := h.rl; omega
theorem conL_nil {m : MapD} : conL m [] = false := rfl
/-- the borders count only as far as there are streets -/
theorem mem_congr {l l' : Nat → Int} {d : Int} {k : Nat} (h : ∀ i, i < k → l i = l' i) : mem l d k = mem l' d k := by
  unfold mem
  congr 1
  refine List.filter_congr fun i hi => ?_
  simp only [inD]
  rw [h i (List.mem_range.1 hi)]
theorem conB_congr {m : MapD} {l l' : Nat → Int} {d : Int} (h : ∀ i, i < m.ss.length → l i = l' i) : conB m l d = conB m l' d := by
  unfold conB
  rw [mem_congr h]
theorem sumO_congr {m : MapD} {d : Nat} {p q : Nat → Bool} {g : Stt → Int} {k : Nat} (h : ∀ i, i < k → p i = q i) : sumO m d p g k = sumO m d q g k := by
  unfold sumO
  exact sumN_congr fun i hi => by rw [h i hi]
theorem partLo_congr {m : MapD} {p q : Nat → Bool} {d : Nat} (h : ∀ i, i < m.ss.length → p i = q i) : partLo m p d = partLo m q d := by
  unfold partLo
  rw [sumO_congr h, sumO_congr (p := nt p) (q := nt q) fun i hi => by simp only [nt]; rw [h i hi]]
theorem partHi_congr {m : MapD} {p q : Nat → Bool} {d : Nat} (h : ∀ i, i < m.ss.length → p i = q i) : partHi m p d = partHi m q d := by
  unfold partHi
  rw [sumO_congr h, sumO_congr (p := nt p) (q := nt q) fun i hi => by simp only [nt]; rw [h i hi]]
theorem sizeLo_congr {m : MapD} {p q : Nat → Bool} {k : Nat} (h : ∀ i, i < m.ss.length → p i = q i) : sizeLo m p k = sizeLo m q k := sumN_congr fun _ _ => partLo_congr h
theorem sizeHi_congr {m : MapD} {p q : Nat → Bool} {k : Nat} (h : ∀ i, i < m.ss.length → p i = q i) : sizeHi m p k = sizeHi m q k := sumN_congr fun _ _ => partHi_congr h
theorem inD_congr {l l' : Nat → Int} {d : Int} {k : Nat} (h : ∀ i, i < k → l i = l' i) : ∀ i, i < k → inD l d i = inD l' d i := fun i hi => by simp only [inD]; rw [h i hi]
end Go.Proofs.YtlnamjhgbdacbaaGreat
/- The order of Divide's parts: what it is, in plain words. -/
namespace Go.Proofs.YtlnamjhgbdacbaaGreat

theorem getD_set_at {α : Type} (l : List α) (i k : Nat) (a d : α) (hi : i < l.length) : (l.set i a).getD k d = if i = k then a else l.getD k d := by
  simp only [List.getD, List.getElem?_set]
  by_cases h : i = k
  · subst h; simp [hi]
  · simp [h]
theorem sum_set (l : List Int) : ∀ (i : Nat) (a : Int), i < l.length → (l.set i a).sum = l.sum - l.getD i 0 + a := by
  induction l with
  | nil => intro i a h; simp at h
  | cons x l ih =>
    intro i a h
    cases i with
    | zero => simp [List.getD]; omega
    | succ i =>
      have := ih i a (by simpa using h)
      simp only [List.set_cons_succ, List.sum_cons, this]
      simp [List.getD]; omega
theorem map_set' {α β : Type} (f : α → β) (l : List α) (i : Nat) (a : α) : (l.set i a).map f = (l.map f).set i (f a) := by
  rw [List.map_set]
theorem getD_map' (g : Nat → Int) (l : List Nat) (i : Nat) (hi : i < l.length) : (l.map g).getD i 0 = g (l.getD i 0) := by
  simp [List.getD, List.getElem?_map, List.getElem?_eq_getElem hi]
theorem sink_sum (key g : Nat → Int) : ∀ (j : Nat) (l : List Nat), j < l.length → ((sink key j l).map g).sum = (l.map g).sum
  | 0, _, _ => rfl
  | j + 1, l, hj => by
    unfold sink
    split
    · rw [sink_sum key g j _ (by simp; omega), map_set', map_set', sum_set _ _ _ (by simp; omega), sum_set _ _ _ (by simpa using hj), getD_set_at _ _ _ _ _ (by simpa using hj), if_neg (by omega), getD_map' g l _ hj, getD_map' g l _ (by omega)]
      omega
    · rfl
theorem insTo_sum (key g : Nat → Int) (l : List Nat) : ∀ i, i ≤ l.length → ((insTo key l i).map g).sum = (l.map g).sum
  | 0, _ => rfl
  | i + 1, hi => by rw [insTo, sink_sum key g i _ (by rw [insTo_len]; omega), insTo_sum key g l i (by omega)]

/-- a comes ahead of b -/
def Rk (key : Nat → Int) (a b : Nat) : Prop := key b < key a ∨ (key a = key b ∧ a < b)
theorem sink_sorted (key : Nat → Int) : ∀ (j t : Nat) (l : List Nat), j ≤ t → t < l.length →
    (∀ p q, p < q → q ≤ t → p ≠ j → q ≠ j → Rk key (l.getD p 0) (l.getD q 0)) → (∀ q, j < q → q ≤ t → Rk key (l.getD j 0) (l.getD q 0)) → (∀ p, p ≤ t → p ≠ j → l.getD p 0 < l.getD j 0) →
    (∀ p q, p < q → q ≤ t → Rk key ((sink key j l).getD p 0) ((sink key j l).getD q 0)) ∧ (∀ q, t < q → (sink key j l).getD q 0 = l.getD q 0)
  | 0, t, l, _, _, h1, h2, _ => by
    refine ⟨fun p q hpq hq => ?_, fun q _ => rfl⟩
    show Rk key (l.getD p 0) (l.getD q 0)
    by_cases hp : p = 0
    · subst hp; exact h2 q hpq hq
    · exact h1 p q hpq hq hp (by omega)
  | j + 1, t, l, hj, ht, h1, h2, h3 => by
    unfold sink
    split
    · rename_i hlt
      have hg : ∀ k, ((l.set (j + 1) (l.getD j 0)).set j (l.getD (j + 1) 0)).getD k 0 = if j = k then l.getD (j + 1) 0 else if j + 1 = k then l.getD j 0 else l.getD k 0 := fun k => by
        rw [getD_set_at _ _ _ _ _ (by simp; omega), getD_set_at _ _ _ _ _ (by omega)]
      have := sink_sorted key j t ((l.set (j + 1) (l.getD j 0)).set j (l.getD (j + 1) 0)) (by omega) (by simpa using ht) ?_ ?_ ?_
      · refine ⟨this.1, fun q hq => ?_⟩
        rw [this.2 q hq, hg, if_neg (by omega), if_neg (by omega)]
      · intro p q hpq hq hp hq'
        rw [hg, hg, if_neg (show ¬ j = p by omega), if_neg (show ¬ j = q by omega)]
        by_cases e : j + 1 = p
        · rw [if_pos e, if_neg (by omega)]
          exact h1 j q (by omega) hq (by omega) (by omega)
        · rw [if_neg e]
          by_cases e2 : j + 1 = q
          · rw [if_pos e2]
            exact h1 p j (by omega) (by omega) (by omega) (by omega)
          · rw [if_neg e2]
            exact h1 p q hpq hq (by omega) (by omega)
      · intro q hjq hq
        rw [hg, hg, if_pos rfl, if_neg (show ¬ j = q by omega)]
        by_cases e : j + 1 = q
        · rw [if_pos e]; exact .inl hlt
        · rw [if_neg e]; exact h2 q (by omega) hq
      · intro p hp hpj
        rw [hg, hg, if_pos rfl, if_neg (show ¬ j = p by omega)]
        by_cases e : j + 1 = p
        · rw [if_pos e]; exact h3 j (by omega) (by omega)
        · rw [if_neg e]; exact h3 p hp (by omega)
    · rename_i hlt
      refine ⟨fun p q hpq hq => ?_, fun q _ => rfl⟩
      by_cases hp : p = j + 1
      · subst hp; exact h2 q hpq hq
      · by_cases hq' : q = j + 1
        · subst hq'
          have hx := h3 p (by omega) hp
          by_cases e : p = j
          · subst e
            unfold Rk; omega
          · have := h1 p j (by omega) (by omega) hp (by omega)
            unfold Rk at this ⊢; omega
        · exact h1 p q hpq hq hp hq'
theorem sink_bound (key : Nat → Int) (M : Nat) : ∀ (j t : Nat) (l : List Nat), j ≤ t → t < l.length → (∀ p, p ≤ t → l.getD p 0 < M) → ∀ p, p ≤ t → (sink key j l).getD p 0 < M
  | 0, _, _, _, _, h => h
  | j + 1, t, l, hj, ht, h => by
    unfold sink
    split
    · refine sink_bound key M j t _ (by omega) (by simpa using ht) fun p hp => ?_
      rw [getD_set_at _ _ _ _ _ (by simp; omega), getD_set_at _ _ _ _ _ (by omega)]
      split
      · exact h _ (by omega)
      · split
        · exact h _ (by omega)
        · exact h p hp
    · exact h
theorem insTo_sorted (key : Nat → Int) (n : Nat) : ∀ i, i ≤ n → (∀ p q, p < q → q < i → Rk key ((insTo key (List.range n) i).getD p 0) ((insTo key (List.range n) i).getD q 0)) ∧
    (∀ q, i ≤ q → q < n → (insTo key (List.range n) i).getD q 0 = q) ∧ (∀ p, p < i → (insTo key (List.range n) i).getD p 0 < i)
  | 0, _ => ⟨fun p q _ h => absurd h (Nat.not_lt_zero _), fun q _ hq => by simp [insTo, List.getD, hq], fun p h => absurd h (Nat.not_lt_zero _)⟩
  | i + 1, hi => by
    obtain ⟨a1, a2, a3⟩ := insTo_sorted key n i (by omega)
    have hl : (insTo key (List.range n) i).length = n := by rw [insTo_len, List.length_range]
    have hx := a2 i (Nat.le_refl _) (by omega)
    have := sink_sorted key i i (insTo key (List.range n) i) (Nat.le_refl _) (by omega) (fun p q hpq hq hp hq' => a1 p q hpq (by omega)) (fun q h1 h2 => absurd h1 (by omega)) (fun p hp hp' => by rw [hx]; exact a3 p (by omega))
    refine ⟨fun p q hpq hq => this.1 p q hpq (by omega), fun q hq hqn => by rw [insTo, this.2 q (by omega)]; exact a2 q (by omega) hqn, ?_⟩
    intro p hp
    rw [insTo]
    exact sink_bound key (i + 1) i i _ (Nat.le_refl _) (by omega) (fun p hp => by
      by_cases e : p = i
      · rw [e, hx]; omega
      · have := a3 p (by omega); omega) p (by omega)

/-- an order of the first n numbers by a key, the greatest first -/
structure Ord (key : Nat → Int) (n : Nat) (o : List Nat) : Prop where
  len : o.length = n
  lt : ∀ p, p < n → o.getD p 0 < n
  srt : ∀ p q, p < q → q < n → Rk key (o.getD p 0) (o.getD q 0)
  sum : ∀ g : Nat → Int, (o.map g).sum = ((List.range n).map g).sum
theorem ord_ins (key : Nat → Int) (n : Nat) : Ord key n (insTo key (List.range n) n) := by
  have h := insTo_sorted key n n (Nat.le_refl _)
  exact ⟨by rw [insTo_len, List.length_range], h.2.2, fun p q h1 h2 => h.1 p q h1 h2, fun g => insTo_sum key g _ _ (by simp)⟩
theorem sum_nonneg : ∀ (l : List Int), (∀ y ∈ l, 0 ≤ y) → 0 ≤ l.sum
  | [], _ => by simp
  | y :: l, h => by
    rw [List.sum_cons]
    have := sum_nonneg l fun z hz => h z (List.mem_cons_of_mem _ hz)
    have := h y (by simp)
    omega
theorem sum_ge : ∀ (l : List Int), (∀ y ∈ l, 0 ≤ y) → ∀ y ∈ l, y ≤ l.sum
  | [], _, y, hy => by simp at hy
  | x :: l, h, y, hy => by
    rw [List.sum_cons]
    have h1 := sum_nonneg l fun z hz => h z (List.mem_cons_of_mem _ hz)
    rcases List.mem_cons.1 hy with rfl | hy
    · omega
    · have := sum_ge l (fun z hz => h z (List.mem_cons_of_mem _ hz)) y hy
      have := h x (by simp)
      omega
section
variable {key : Nat → Int} {n : Nat} {o : List Nat}
theorem Ord.inj (h : Ord key n o) {p q : Nat} (hp : p < n) (hq : q < n) (e : o.getD p 0 = o.getD q 0) : p = q := by
  rcases Nat.lt_trichotomy p q with hl | hl | hl
  · have := h.srt p q hl hq; unfold Rk at this; rw [e] at this; omega
  · exact hl
  · have := h.srt q p hl hp; unfold Rk at this; rw [e] at this; omega
theorem Ord.mem (h : Ord key n o) {i : Nat} (hi : i < n) : ∃ p, p < n ∧ o.getD p 0 = i := by
  have hs := h.sum fun x => if x = i then 1 else 0
  have h1 : (1 : Int) ≤ ((List.range n).map fun x => if x = i then (1 : Int) else 0).sum :=
    sum_ge _ (fun y hy => by obtain ⟨x, _, rfl⟩ := List.mem_map.1 hy; show (0 : Int) ≤ if x = i then 1 else 0; split <;> omega) 1 (List.mem_map.2 ⟨i, by simpa using hi, by simp⟩)
  by_cases hm : i ∈ o
  · obtain ⟨p, hp⟩ := List.getElem?_of_mem hm
    exact ⟨p, by rw [← h.len]; exact (List.getElem?_eq_some_iff.1 hp).1, by simp [List.getD, hp]⟩
  · have : (o.map fun x => if x = i then (1 : Int) else 0).sum = 0 := by
      have hz : ∀ l : List Nat, i ∉ l → (l.map fun x => if x = i then (1 : Int) else 0).sum = 0 := by
        intro l
        induction l with
        | nil => intro _; rfl
        | cons x l ih =>
          intro hx
          rw [List.map_cons, List.sum_cons, ih (fun hh => hx (List.mem_cons_of_mem _ hh)), if_neg (fun e => hx (by rw [e]; simp))]; rfl
      exact hz o hm
    omega
end
theorem order_ord (whole sum : Int) (ws : List Int) : Ord (restOf whole sum ws) ws.length (orderOf whole sum ws) := ord_ins _ _

theorem bumpTo_at (whole sum : Int) (ws : List Int) {i p : Nat} (hp : p < ws.length) (hi : (orderOf whole sum ws).getD p 0 = i) : ∀ j, j ≤ ws.length →
    (bumpTo whole sum ws j).getD i 0 = (baseOf whole sum ws).getD i 0 + if p < j then 1 else 0
  | 0, _ => by simp [bumpTo]
  | j + 1, hj => by
    have O := order_ord whole sum ws
    have hl := O.len
    have ih := bumpTo_at whole sum ws hp hi j (by omega)
    have hil : i < ws.length := by rw [← hi]; exact O.lt p hp
    have hgj : (orderOf whole sum ws).getD j 0 = (orderOf whole sum ws)[j]'(by omega) := by simp [List.getD, List.getElem?_eq_getElem (show j < (orderOf whole sum ws).length by omega)]
    rw [bumpTo_succ (List.getElem?_eq_getElem (by omega : j < (orderOf whole sum ws).length)), ← hgj]
    have hjl := O.lt j (by omega)
    unfold bump
    rw [getD_set_at _ _ _ _ _ (by rw [bumpTo_len]; exact hjl)]
    by_cases e : j = p
    · subst e
      rw [if_pos hi, hi, ih, if_neg (by omega), if_pos (by omega)]; omega
    · have hne : (orderOf whole sum ws).getD j 0 ≠ i := fun h => e (O.inj (by omega) hp (h.trans hi.symm))
      rw [if_neg hne, ih]
      by_cases hpj : p < j
      · rw [if_pos hpj, if_pos (by omega)]
      · rw [if_neg hpj, if_neg (by omega)]
theorem bumpTo_sum (whole sum : Int) (ws : List Int) : ∀ j, j ≤ ws.length → (bumpTo whole sum ws j).sum = (baseOf whole sum ws).sum + j
  | 0, _ => by simp [bumpTo]
  | j + 1, hj => by
    have O := order_ord whole sum ws
    have hl := O.len
    have hgj : (orderOf whole sum ws).getD j 0 = (orderOf whole sum ws)[j]'(by omega) := by simp [List.getD, List.getElem?_eq_getElem (show j < (orderOf whole sum ws).length by omega)]
    rw [bumpTo_succ (List.getElem?_eq_getElem (by omega : j < (orderOf whole sum ws).length)), ← hgj]
    have hjl := O.lt j (by omega)
    unfold bump
    rw [sum_set _ _ _ (by rw [bumpTo_len]; exact hjl), bumpTo_sum whole sum ws j (by omega)]
    omega

theorem range_map (f : Int → Int) (ws : List Int) : (List.range ws.length).map (fun i => f (ws.getD i 0)) = ws.map f := by
  refine List.ext_getElem (by simp) fun i h1 h2 => ?_
  simp at h2
  simp [List.getD, List.getElem?_eq_getElem h2]
theorem rest_sum (whole sum : Int) : ∀ ws : List Int, (ws.map fun x => (whole * x) % sum).sum = whole * ws.sum - sum * (baseOf whole sum ws).sum
  | [] => by simp [baseOf]
  | x :: ws => by
    have ih := rest_sum whole sum ws
    have e1 : (baseOf whole sum (x :: ws)).sum = whole * x / sum + (baseOf whole sum ws).sum := by simp [baseOf]
    have h1 := Int.mul_ediv_add_emod (whole * x) sum
    rw [List.map_cons, List.sum_cons, ih, e1, List.sum_cons, Int.mul_add, Int.mul_add]
    omega
theorem take_sum_le (b : Int) : ∀ (l : List Int), (∀ y ∈ l, y ≤ b) → l.sum ≤ l.length * b
  | [], _ => by simp
  | y :: l, h => by
    rw [List.sum_cons, List.length_cons, Int.natCast_add, Int.add_mul]
    have := take_sum_le b l fun z hz => h z (List.mem_cons_of_mem _ hz)
    have := h y (by simp)
    simp only [Int.natCast_one, Int.one_mul]; omega

section
variable {whole : Int} {ws : List Int}
theorem left_le (ok : DOk whole ws.sum ws) (hne : ws ≠ []) : (leftOf whole ws.sum ws : Int) = whole - (baseOf whole ws.sum ws).sum ∧ leftOf whole ws.sum ws < ws.length := by
  have := left_bounds (whole := whole) ok.s0 hne
  unfold leftOf
  omega
theorem rest_range (ok : DOk whole ws.sum ws) (i : Nat) : 0 ≤ restOf whole ws.sum ws i ∧ restOf whole ws.sum ws i < ws.sum := by
  have := ok.s0
  unfold restOf
  exact ⟨Int.emod_nonneg _ (by omega), Int.emod_lt_of_pos _ (by omega)⟩
/-- who gets one more has a rest -/
theorem rest_pos (ok : DOk whole ws.sum ws) (hne : ws ≠ []) {p : Nat} (hp : p < leftOf whole ws.sum ws) : 0 < restOf whole ws.sum ws ((orderOf whole ws.sum ws).getD p 0) := by
  obtain ⟨e1, e2⟩ := left_le ok hne
  have O := order_ord whole ws.sum ws
  by_cases hz : 0 < restOf whole ws.sum ws ((orderOf whole ws.sum ws).getD p 0)
  · exact hz
  · exfalso
    have hs := O.sum (restOf whole ws.sum ws)
    rw [show (List.range ws.length).map (restOf whole ws.sum ws) = ws.map fun x => (whole * x) % ws.sum from range_map (fun x => (whole * x) % ws.sum) ws, rest_sum] at hs
    have hsplit : ((orderOf whole ws.sum ws).map (restOf whole ws.sum ws)).sum = (((orderOf whole ws.sum ws).map (restOf whole ws.sum ws)).take p).sum + (((orderOf whole ws.sum ws).map (restOf whole ws.sum ws)).drop p).sum := by rw [← List.sum_append, List.take_append_drop]
    have hd : (((orderOf whole ws.sum ws).map (restOf whole ws.sum ws)).drop p).sum ≤ 0 := by
      have := take_sum_le 0 (((orderOf whole ws.sum ws).map (restOf whole ws.sum ws)).drop p) fun y hy => by
        obtain ⟨q, hq⟩ := List.getElem?_of_mem hy
        rw [List.getElem?_drop, List.getElem?_map] at hq
        cases hx : (orderOf whole ws.sum ws)[p + q]? with
        | none => rw [hx] at hq; cases hq
        | some x =>
          rw [hx] at hq
          have hlt := (List.getElem?_eq_some_iff.1 hx).1
          rw [O.len] at hlt
          have hgx : (orderOf whole ws.sum ws).getD (p + q) 0 = x := by simp [List.getD, hx]
          simp at hq
          by_cases e : q = 0
          · subst e
            rw [Nat.add_zero] at hgx
            rw [hgx] at hz
            omega
          · have := O.srt p (p + q) (by omega) hlt
            rw [hgx] at this
            unfold Rk at this
            omega
      simpa using this
    have ht := take_sum_le (ws.sum - 1) (((orderOf whole ws.sum ws).map (restOf whole ws.sum ws)).take p) fun y hy => by
      obtain ⟨x, _, rfl⟩ := List.mem_map.1 (List.mem_of_mem_take hy)
      have := (rest_range ok x).2
      omega
    have hlen : (((orderOf whole ws.sum ws).map (restOf whole ws.sum ws)).take p).length = p := by simp [O.len]; omega
    rw [hlen] at ht
    have e3 : whole * ws.sum - ws.sum * (baseOf whole ws.sum ws).sum = (leftOf whole ws.sum ws : Int) * ws.sum := by
      rw [e1, Int.sub_mul, Int.mul_comm ws.sum]
    rw [e3] at hs
    have hs0 := ok.s0
    have h4 : (leftOf whole ws.sum ws : Int) * ws.sum ≤ (p : Int) * (ws.sum - 1) := by omega
    have h5 : (p : Int) * (ws.sum - 1) ≤ (p : Int) * ws.sum := Int.mul_le_mul_of_nonneg_left (by omega) (by omega)
    have h6 : ((p : Int) + 1) * ws.sum ≤ (leftOf whole ws.sum ws : Int) * ws.sum := Int.mul_le_mul_of_nonneg_right (by omega) (by omega)
    rw [Int.add_mul, Int.one_mul] at h6
    omega
end
end Go.Proofs.YtlnamjhgbdacbaaGreat
/- The parts of a total: what they are, in plain words. -/
namespace Go.Proofs.YtlnamjhgbdacbaaGreat

theorem getD_some {α : Type} {l : List α} {i : Nat} {x d : α} (h : l[i]? = some x) : l.getD i d = x := by simp [List.getD, h]
section
variable {whole : Int} {ws : List Int}
theorem div_len (ws : List Int) (whole : Int) : (divOf ws whole).length = ws.length := bumpTo_len _ _ _ _
theorem div_sum (ok : DOk whole ws.sum ws) (hne : ws ≠ []) : (divOf ws whole).sum = whole := by
  obtain ⟨e1, e2⟩ := left_le ok hne
  unfold divOf
  rw [bumpTo_sum _ _ _ _ (by omega)]
  omega
theorem div_at (ok : DOk whole ws.sum ws) (hne : ws ≠ []) {i : Nat} {x o : Int} (hx : ws[i]? = some x) (ho : (divOf ws whole)[i]? = some o) :
    ∃ p, p < ws.length ∧ (orderOf whole ws.sum ws).getD p 0 = i ∧ o = whole * x / ws.sum + if p < leftOf whole ws.sum ws then 1 else 0 := by
  obtain ⟨e1, e2⟩ := left_le ok hne
  have hi := (List.getElem?_eq_some_iff.1 hx).1
  obtain ⟨p, hp, e⟩ := (order_ord whole ws.sum ws).mem hi
  refine ⟨p, hp, e, ?_⟩
  have := bumpTo_at whole ws.sum ws hp e (leftOf whole ws.sum ws) (by omega)
  have hb : (baseOf whole ws.sum ws).getD i 0 = whole * x / ws.sum := getD_some (by simp [baseOf, hx])
  rw [hb] at this
  rw [← this]
  exact (getD_some ho).symm
theorem rest_at (s : Int) {i : Nat} {x : Int} (hx : ws[i]? = some x) : restOf whole s ws i = whole * x % s := by unfold restOf; rw [getD_some hx]
/-- each part differs from its share by less than one -/
theorem div_near (ok : DOk whole ws.sum ws) (hne : ws ≠ []) {i : Nat} {x o : Int} (hx : ws[i]? = some x) (ho : (divOf ws whole)[i]? = some o) : -ws.sum < o * ws.sum - whole * x ∧ o * ws.sum - whole * x < ws.sum := by
  obtain ⟨p, hp, e, rfl⟩ := div_at ok hne hx ho
  have hr := rest_range ok i
  rw [rest_at _ hx] at hr
  have h1 := Int.mul_ediv_add_emod (whole * x) ws.sum
  rw [Int.mul_comm ws.sum] at h1
  by_cases h : p < leftOf whole ws.sum ws
  · rw [if_pos h, Int.add_mul]
    have := rest_pos ok hne h
    rw [e, rest_at _ hx] at this
    omega
  · rw [if_neg h, Int.add_mul]
    omega
/-- the greater weight never gets less -/
theorem div_mono (ok : DOk whole ws.sum ws) (hne : ws ≠ []) {i k : Nat} {x y o u : Int} (hx : ws[i]? = some x) (ho : (divOf ws whole)[i]? = some o) (hy : ws[k]? = some y) (hu : (divOf ws whole)[k]? = some u) (h : y < x) : u ≤ o := by
  obtain ⟨p, hp, e, rfl⟩ := div_at ok hne hx ho
  obtain ⟨q, hq, e', rfl⟩ := div_at ok hne hy hu
  obtain ⟨l1, l2⟩ := left_le ok hne
  have h1 := Int.mul_ediv_add_emod (whole * x) ws.sum
  have h2 := Int.mul_ediv_add_emod (whole * y) ws.sum
  have hs := ok.s0
  have hle : whole * y ≤ whole * x := Int.mul_le_mul_of_nonneg_left (by omega) ok.w0
  have hd : whole * y / ws.sum ≤ whole * x / ws.sum := Int.ediv_le_ediv (by omega) hle
  by_cases hw : whole = 0
  · have hb : (baseOf whole ws.sum ws).sum = 0 := by
      rw [hw]
      have : ∀ l : List Int, (baseOf 0 ws.sum l).sum = 0 := by
        intro l
        induction l with
        | nil => rfl
        | cons z l ih =>
          have : (baseOf 0 ws.sum (z :: l)).sum = 0 * z / ws.sum + (baseOf 0 ws.sum l).sum := by simp [baseOf]
          rw [this, ih]; simp
      exact this ws
    rw [if_neg (show ¬ p < leftOf whole ws.sum ws by omega), if_neg (show ¬ q < leftOf whole ws.sum ws by omega)]
    omega
  · have hlt : whole * y < whole * x := Int.mul_lt_mul_of_pos_left h (by have := ok.w0; omega)
    by_cases heq : whole * y / ws.sum = whole * x / ws.sum
    · rw [heq] at h2
      have hk : restOf whole ws.sum ws k < restOf whole ws.sum ws i := by
        rw [rest_at _ hx, rest_at _ hy]
        omega
      have hpq : p < q := by
        rcases Nat.lt_trichotomy p q with hl | hl | hl
        · exact hl
        · subst hl; rw [e] at e'; subst e'; omega
        · have := (order_ord whole ws.sum ws).srt q p hl hp
          rw [e, e'] at this
          unfold Rk at this; omega
      rw [heq]
      by_cases hql : q < leftOf whole ws.sum ws
      · rw [if_pos hql, if_pos (show p < leftOf whole ws.sum ws by omega)]; omega
      · rw [if_neg hql]
        split <;> omega
    · split <;> split <;> omega
end
/-- all weights times the same number -/
theorem sink_key {f g : Nat → Int} (h : ∀ a b, f a < f b ↔ g a < g b) : ∀ (j : Nat) (l : List Nat), sink f j l = sink g j l
  | 0, _ => rfl
  | j + 1, l => by
    unfold sink
    by_cases hc : g (l.getD j 0) < g (l.getD (j + 1) 0)
    · rw [if_pos hc, if_pos ((h _ _).2 hc)]
      exact sink_key h j _
    · rw [if_neg hc, if_neg (fun hh => hc ((h _ _).1 hh))]
theorem insTo_key {f g : Nat → Int} (h : ∀ a b, f a < f b ↔ g a < g b) (l : List Nat) : ∀ i, insTo f l i = insTo g l i
  | 0 => rfl
  | i + 1 => by rw [insTo, insTo, insTo_key h l i, sink_key h]
theorem sum_times (n : Int) : ∀ ws : List Int, (ws.map fun x => n * x).sum = n * ws.sum
  | [] => by simp
  | x :: ws => by rw [List.map_cons, List.sum_cons, List.sum_cons, sum_times n ws, Int.mul_add]
theorem div_times {n whole : Int} (hn : 1 ≤ n) (ws : List Int) : divOf (ws.map fun x => n * x) whole = divOf ws whole := by
  have hb : baseOf whole (n * ws.sum) (ws.map fun x => n * x) = baseOf whole ws.sum ws := by
    unfold baseOf
    rw [List.map_map]
    refine List.map_congr_left fun x _ => ?_
    show whole * (n * x) / (n * ws.sum) = whole * x / ws.sum
    rw [show whole * (n * x) = n * (whole * x) by rw [← Int.mul_assoc, Int.mul_comm whole n, Int.mul_assoc]]
    exact Int.mul_ediv_mul_of_pos _ _ (by omega)
  have hr : ∀ i, restOf whole (n * ws.sum) (ws.map fun x => n * x) i = n * restOf whole ws.sum ws i := fun i => by
    unfold restOf
    have hg : (ws.map fun x => n * x).getD i 0 = n * ws.getD i 0 := by
      simp only [List.getD, List.getElem?_map]
      cases ws[i]? <;> simp
    rw [hg, show whole * (n * ws.getD i 0) = n * (whole * ws.getD i 0) by rw [← Int.mul_assoc, Int.mul_comm whole n, Int.mul_assoc]]
    exact Int.mul_emod_mul_of_pos _ _ (by omega)
  have ho : orderOf whole (n * ws.sum) (ws.map fun x => n * x) = orderOf whole ws.sum ws := by
    unfold orderOf
    rw [List.length_map]
    refine insTo_key (fun a b => ?_) _ _
    rw [hr, hr]
    exact Int.mul_lt_mul_left (by omega)
  unfold divOf bumpTo leftOf
  rw [sum_times, hb, ho]
theorem div_e {ws : List Int} {whole m : Int} (hm : m ≤ 10000) (hl : ws.length ≤ 12) (hx : ∀ x ∈ ws, 0 ≤ x ∧ x ≤ m) (hs : ws.sum ≠ 0) (hw : 0 ≤ whole ∧ whole ≤ 100000) : divE ws whole = 0 := by
  unfold divE
  rw [if_neg (by omega), if_neg, if_neg (by simpa using hs)]
  have h1 : (ws.all fun x => withinB x 0 10000) = true := List.all_eq_true.2 fun x hx' => by have := hx x hx'; simp [withinB]; omega
  have h2 : withinB whole 0 100000 = true := by simp [withinB]; omega
  rw [h1, h2]; simp
end Go.Proofs.YtlnamjhgbdacbaaGreat
/- The carried counts of all streets, in plain words. Conditions stand at each theorem. -/
namespace Go.Proofs.YtlnamjhgbdacbaaGreat

/-- the streets of old district d among the first k, and their weights -/
def atTo (m : MapD) (d : Nat) : Nat → List Nat
  | 0 => []
  | k + 1 => atTo m d k ++ (if (m.S k).o = (d : Int) then [k] else [])
def wsTo (m : MapD) (d : Nat) : Nat → List Int
  | 0 => []
  | k + 1 => wsTo m d k ++ (if (m.S k).o = (d : Int) then [(m.S k).wt] else [])
theorem atTo_skip {m : MapD} {d k : Nat} {s : Stt} (h : m.ss[k]? = some s) (hd : s.o ≠ (d : Int)) : atTo m d (k + 1) = atTo m d k ∧ wsTo m d (k + 1) = wsTo m d k := by
  simp only [atTo, wsTo, MapD.S_eq h, if_neg hd, List.append_nil, and_self]
theorem atTo_take {m : MapD} {d k : Nat} {s : Stt} (h : m.ss[k]? = some s) (hd : s.o = (d : Int)) : atTo m d (k + 1) = atTo m d k ++ [k] ∧ wsTo m d (k + 1) = wsTo m d k ++ [s.wt] := by
  simp only [atTo, wsTo, MapD.S_eq h, if_pos hd, and_self]
theorem atTo_len (m : MapD) (d : Nat) : ∀ k, (atTo m d k).length = (wsTo m d k).length ∧ (atTo m d k).length ≤ k
  | 0 => ⟨rfl, Nat.le_refl _⟩
  | k + 1 => by
    obtain ⟨h1, h2⟩ := atTo_len m d k
    simp only [atTo, wsTo, List.length_append]
    split <;> simp <;> omega
theorem atTo_mem {m : MapD} {d : Nat} : ∀ {k i : Nat}, i ∈ atTo m d k ↔ i < k ∧ (m.S i).o = (d : Int)
  | 0, i => by simp [atTo]
  | k + 1, i => by
    simp only [atTo, List.mem_append, atTo_mem (k := k)]
    by_cases e : (m.S k).o = (d : Int)
    · rw [if_pos e]
      simp only [List.mem_singleton]
      constructor
      · rintro (⟨h1, h2⟩ | rfl)
        · exact ⟨by omega, h2⟩
        · exact ⟨by omega, e⟩
      · rintro ⟨h1, h2⟩
        by_cases e' : i = k
        · exact .inr e'
        · exact .inl ⟨by omega, h2⟩
    · rw [if_neg e]
      constructor
      · rintro (⟨h1, h2⟩ | h)
        · exact ⟨by omega, h2⟩
        · simp at h
      · rintro ⟨h1, h2⟩
        by_cases e' : i = k
        · subst e'; exact absurd h2 e
        · exact .inl ⟨by omega, h2⟩
theorem wsTo_mem {m : MapD} {d : Nat} (h : ∀ i, i < m.ss.length → 0 ≤ (m.S i).wt ∧ (m.S i).wt ≤ 1000) : ∀ {k : Nat}, k ≤ m.ss.length → ∀ x ∈ wsTo m d k, 0 ≤ x ∧ x ≤ 1000
  | 0, _, x, hx => by simp [wsTo] at hx
  | k + 1, hk, x, hx => by
    simp only [wsTo, List.mem_append] at hx
    rcases hx with hx | hx
    · exact wsTo_mem h (k := k) (by omega) x hx
    · by_cases e : (m.S k).o = (d : Int)
      · rw [if_pos e] at hx
        simp at hx
        subst hx
        exact h k (by omega)
      · rw [if_neg e] at hx; simp at hx
theorem wsTo_sum (m : MapD) (d : Nat) : ∀ k, (wsTo m d k).sum = sumO m d tt Stt.wt k
  | 0 => rfl
  | k + 1 => by
    have ih := wsTo_sum m d k
    unfold sumO at *
    simp only [wsTo, List.sum_append, ih, sumN_succ]
    by_cases e : (m.S k).o = (d : Int)
    · simp [e, tt]
    · simp [e]
def putTo (out : List Int) (at_ : List Nat) (ps : List Int) : Nat → List Int
  | 0 => out
  | j + 1 => (putTo out at_ ps j).set (at_.getD j 0) (ps.getD j 0)
theorem putTo_len (out : List Int) (at_ : List Nat) (ps : List Int) : ∀ j, (putTo out at_ ps j).length = out.length
  | 0 => rfl
  | j + 1 => by simp [putTo, putTo_len out at_ ps j]
/-- the parts of district d -/
def parts (m : MapD) (d : Nat) : List Int := divOf (wsTo m d m.ss.length) (m.at_ d)
def carTo (m : MapD) : Nat → List Int
  | 0 => List.replicate m.ss.length 0
  | d + 1 => putTo (carTo m d) (atTo m d m.ss.length) (parts m d) (atTo m d m.ss.length).length
theorem carTo_len (m : MapD) : ∀ d, (carTo m d).length = m.ss.length
  | 0 => by simp [carTo]
  | d + 1 => by rw [carTo, putTo_len, carTo_len m d]
def car (m : MapD) : List Int := carTo m m.old.length
theorem OkM.divE {m : MapD} (ok : OkM m) {d : Nat} (hd : d < m.old.length) : divE (wsTo m d m.ss.length) (m.at_ d) = 0 := by
  have hs8 := ok.s8
  have hl := atTo_len m d m.ss.length
  refine div_e (m := 1000) (by omega) (by omega) (wsTo_mem (fun i hi => by have := ok.sAt hi; omega) (Nat.le_refl _)) ?_ ⟨(ok.atB hd).1, by have := (ok.atB hd).2; omega⟩
  rw [wsTo_sum]
  exact ok.wgh d hd
theorem parts_len (m : MapD) (d : Nat) : (parts m d).length = (atTo m d m.ss.length).length := by
  unfold parts
  rw [div_len, (atTo_len m d m.ss.length).1]
end Go.Proofs.YtlnamjhgbdacbaaGreat
/- Two lists that grow side by side within one statement whose order is open. No condition. -/
namespace Go.Proofs.YtlnamjhgbdacbaaGreat
open Go.RowKit Go.Shelf

/-- two rows of the call's own, each before or behind its append (operations 4 and 8, slots 35 and 39) -/
structure PhC (B n6 n7 : Nat) (c6 c7 : List Value) (x6 x7 v6 v7 : Value) (li : Array Bool) (a : Act) (W : World) : Prop where
  r6 : W.ownsRow B 3 1 (if li.getD 4 false then a.tmps.getD 35 undef else v6) (if li.getD 4 false then n6 + 1 else n6) (if li.getD 4 false then c6 ++ [x6] else c6)
  r7 : W.ownsRow B 3 1 (if li.getD 8 false then a.tmps.getD 39 undef else v7) (if li.getD 8 false then n7 + 1 else n7) (if li.getD 8 false then c7 ++ [x7] else c7)
  ne : (if li.getD 4 false then a.tmps.getD 35 undef else v6).ownBlock = none ∨ (if li.getD 4 false then a.tmps.getD 35 undef else v6).ownBlock ≠ (if li.getD 8 false then a.tmps.getD 39 undef else v7).ownBlock
section
variable {B n6 n7 : Nat} {c6 c7 : List Value} {x6 x7 v6 v7 : Value} {li : Array Bool} {a : Act} {W W' : World}
theorem ne_swap {x y : Option Nat} (h : x = none ∨ x ≠ y) : y = none ∨ y ≠ x := by
  rcases h with h | h
  · cases y with
    | none => exact .inl rfl
    | some z => exact .inr (by rw [h]; intro e; cases e)
  · exact .inr fun e => h e.symm
theorem PhC.other (h : PhC B n6 n7 c6 c7 x6 x7 v6 v7 li a W) {i d : Nat} {v : Value} (h4 : i ≠ 4) (h8 : i ≠ 8) (hd : d ≠ 35) (hd2 : d ≠ 39) (hb : Below W.heap.size W W') : PhC B n6 n7 c6 c7 x6 x7 v6 v7 (li.setIfInBounds i true) (a.put (some d) v) W' := by
  have e4 : (li.setIfInBounds i true).getD 4 false = li.getD 4 false := getD_set_oth h4
  have e8 : (li.setIfInBounds i true).getD 8 false = li.getD 8 false := getD_set_oth h8
  have e35 : (a.put (some d) v).tmps.getD 35 undef = a.tmps.getD 35 undef := put_getD_other hd
  have e39 : (a.put (some d) v).tmps.getD 39 undef = a.tmps.getD 39 undef := put_getD_other hd2
  obtain ⟨r6, r7, ne⟩ := h
  refine ⟨?_, ?_, ?_⟩
  · rw [e4, e35]; exact row_kept (vo := .slice none 0 0) r6 (grown_of_below hb _) (.inl rfl)
  · rw [e8, e39]; exact row_kept (vo := .slice none 0 0) r7 (grown_of_below hb _) (.inl rfl)
  · rw [e4, e8, e35, e39]; exact ne
theorem PhC.step6 (h : PhC B n6 n7 c6 c7 x6 x7 v6 v7 li a W) {v' : Value} (hn : li.getD 4 false = false) (hs : 4 < li.size) (ht : 35 < a.tmps.size) (ho : W'.ownsRow B 3 1 v' (n6 + 1) (c6 ++ [x6])) (hg : W.grownBy W' v6.ownBlock) (hf : v'.ownBlock = v6.ownBlock ∨ v'.ownBlock = some W.heap.size) :
    PhC B n6 n7 c6 c7 x6 x7 v6 v7 (li.setIfInBounds 4 true) (a.put (some 35) v') W' := by
  have e4 : (li.setIfInBounds 4 true).getD 4 false = true := getD_set_eq hs
  have e8 : (li.setIfInBounds 4 true).getD 8 false = li.getD 8 false := getD_set_oth (by decide)
  have e35 : (a.put (some 35) v').tmps.getD 35 undef = v' := put_getD_same ht
  have e39 : (a.put (some 35) v').tmps.getD 39 undef = a.tmps.getD 39 undef := put_getD_other (by decide)
  obtain ⟨r6, r7, ne⟩ := h
  rw [hn] at ne
  simp only [Bool.false_eq_true, if_false] at ne
  refine ⟨?_, ?_, ?_⟩
  · rw [e4, e35]; exact ho
  · rw [e8, e39]; exact row_kept r7 hg ne
  · rw [e4, e8, e35, e39]
    simp only [if_true]
    rcases hf with e | e
    · rw [e]; exact ne
    · refine .inr fun e' => ?_
      rw [e] at e'
      have := (r7.lt _ e'.symm).2
      omega
theorem PhC.step7 (h : PhC B n6 n7 c6 c7 x6 x7 v6 v7 li a W) {v' : Value} (hn : li.getD 8 false = false) (hs : 8 < li.size) (ht : 39 < a.tmps.size) (ho : W'.ownsRow B 3 1 v' (n7 + 1) (c7 ++ [x7])) (hg : W.grownBy W' v7.ownBlock) (hf : v'.ownBlock = v7.ownBlock ∨ v'.ownBlock = some W.heap.size) :
    PhC B n6 n7 c6 c7 x6 x7 v6 v7 (li.setIfInBounds 8 true) (a.put (some 39) v') W' := by
  have e8 : (li.setIfInBounds 8 true).getD 8 false = true := getD_set_eq hs
  have e4 : (li.setIfInBounds 8 true).getD 4 false = li.getD 4 false := getD_set_oth (by decide)
  have e39 : (a.put (some 39) v').tmps.getD 39 undef = v' := put_getD_same ht
  have e35 : (a.put (some 39) v').tmps.getD 35 undef = a.tmps.getD 35 undef := put_getD_other (by decide)
  obtain ⟨r6, r7, ne⟩ := h
  rw [hn] at ne
  simp only [Bool.false_eq_true, if_false] at ne
  refine ⟨?_, ?_, ?_⟩
  · rw [e4, e35]; exact row_kept r6 hg (ne_swap ne)
  · rw [e8, e39]; exact ho
  · rw [e4, e8, e35, e39]
    simp only [if_true]
    rcases hf with e | e
    · rw [e]; exact ne
    · refine .inr fun e' => ?_
      rw [e] at e'
      have := (r6.lt _ e').2
      omega
end
theorem row_own {β : Type} (B base e size : Nat) (v : β → Value) (n : β → Nat) (xs : β → List Value) : OwnFrom B (fun (s : β) W => W.ownsRow base e size (v s) (n s) (xs s)) := fun s W W' row hs hg hr =>
  hs.kept hg (by
    cases row with
    | none => cases h : (v s).ownBlock with
      | none => exact .inl rfl
      | some z => exact .inr (by intro e; cases e)
    | some r =>
      obtain ⟨_, o, ho, hc⟩ := hr r rfl
      refine mown_ne hs fun cs hcs => ?_
      rw [hcs] at ho
      cases ho; cases hc)
end Go.Proofs.YtlnamjhgbdacbaaGreat
/- The carried counts of all streets. Conditions stand at the theorem. -/
namespace Go.Proofs.YtlnamjhgbdacbaaGreat
open Go.RowKit Go.Shelf

attribute [local go_sem] Oper.semAt_some

def intC (xs : List Int) : Array Value := (xs.map (Value.int .i64)).toArray
theorem intC_get {xs : List Int} {i : Nat} {x : Int} (h : xs[i]? = some x) : (intC xs)[i]? = some (.int .i64 x) := by
  unfold intC
  rw [List.getElem?_toArray, List.getElem?_map, h]; rfl
theorem intC_set (xs : List Int) (i : Nat) (x : Int) : (intC xs).setIfInBounds i (.int .i64 x) = intC (xs.set i x) := by
  unfold intC
  simp [List.map_set]
theorem intC_zero (n : Nat) : madeCells #[.int .i64 0] n = intC (List.replicate n 0) := by
  unfold madeCells intC
  apply Array.ext
  · simp
  · intro i h1 h2
    simp [Nat.mod_one]
theorem MChg.rows {Z Y : Nat → Prop} {A B D : World} (h : MChg Z A B) (k : MChg Y B D) (hY : ∀ q, Y q → A.heap.size ≤ q) : MChg Z A D :=
  ⟨k.os.trans h.os, k.tape.trans h.tape, k.output.trans h.output, Nat.le_trans h.size k.size, fun i hi hn => (k.block i (Nat.lt_of_lt_of_le hi h.size) (fun e => by have := hY i e; omega)).trans (h.block i hi hn)⟩
theorem keepsFrom_chg {B : Nat} {Z : Nat → Prop} {W W' : World} (h : MChg Z W W') (hz : ∀ q, Z q → ∃ o, W.heap[q]? = some o ∧ o.isCells = true) : KeepsFrom B W W' :=
  ⟨h.size, fun k o _ hk hn => (h.block k (Array.getElem?_eq_some_iff.1 hk).1 (fun e => by
    obtain ⟨o', ho, hc⟩ := hz k e
    rw [hk] at ho
    cases ho
    rw [hn] at hc
    cases hc)).trans hk⟩
theorem row_cells {W : World} {base e size n q : Nat} {v : Value} {xs : List Value} (h : W.ownsRow base e size v n xs) (hq : v.ownBlock = some q) : ∃ o, W.heap[q]? = some o ∧ o.isCells = true := by
  rcases h.2 with ⟨rfl, _⟩ | ⟨g, cap, cur, rfl, _, hb, _⟩
  · cases hq
  · injection hq with hq
    simp only at hq
    subst hq
    exact ⟨_, hb, rfl⟩
theorem row_set {W : World} {base e size n g t i : Nat} {v : Value} {xs : List Value} {us : Array Value} (h : W.ownsRow base e size v n xs) (hb : Blk W g t us) (hne : t ≠ e) (u : Value) : (W.setCell ⟨g, i, none⟩ u).ownsRow base e size v n xs :=
  h.kept ⟨rfl, rfl, rfl, by simp [World.setCell], fun k _ hk => Below.heap_setCell W ⟨g, i, none⟩ u k (fun e => hk (by rw [e]))⟩ (mown_ne h (mblk_not hb hne))
theorem one_blk {W : World} {g t : Nat} {u : Value} (h : Blk W g t #[u]) : ∀ (j : Nat) (x : Value), [u][j]? = some x → W.cell? ((⟨g, 0, none⟩ : Addr).add j) = some x := by
  intro q x hq
  match q, hq with
  | 0, hq => injection hq with hq; subst hq; exact h.c1
  | q + 1, hq => simp at hq
def IJ (m : MapD) (d B B6 B7 : Nat) (W0 : World) (j : Nat) (W : World) : Prop :=
  ∃ v6 v7, Blk W B6 22 #[v6] ∧ Blk W B7 22 #[v7] ∧ W.ownsRow B 3 1 v6 (wsTo m d j).length ((wsTo m d j).map (Value.int .i64)) ∧ W.ownsRow B 3 1 v7 (atTo m d j).length ((atTo m d j).map fun (i : Nat) => Value.int .i64 (i : Int)) ∧ (v6.ownBlock = none ∨ v6.ownBlock ≠ v7.ownBlock) ∧ MChg (fun q => q = B6 ∨ q = B7) W0 W
theorem IJ.own {m : MapD} {d B B6 B7 : Nat} {W0 : World} {D : Nat} (h : W0.heap.size ≤ D) : OwnFrom D (IJ m d B B6 B7 W0) := fun j W W' row hs hg hr => by
  obtain ⟨v6, v7, h1, h2, h3, h4, h5, h6⟩ := hs
  exact ⟨v6, v7, blk_own D B6 _ (fun (_ : Unit) => #[v6]) () W W' row h1 hg hr, blk_own D B7 _ (fun (_ : Unit) => #[v7]) () W W' row h2 hg hr, row_own D B _ 1 (fun (_ : Unit) => v6) (fun _ => (wsTo m d j).length) (fun _ => (wsTo m d j).map (Value.int .i64)) () W W' row h3 hg hr, row_own D B _ 1 (fun (_ : Unit) => v7) (fun _ => (atTo m d j).length) (fun _ => (atTo m d j).map fun (i : Nat) => Value.int .i64 (i : Int)) () W W' row h4 hg hr, h5, chg_own (β := Unit) h () W W' row h6 hg hr⟩

set_option maxRecDepth 100000 in
set_option maxHeartbeats 4000000 in
theorem carried_any (m : MapD) (A : Option Addr) (c : Nat) (A2 : Option Addr) (c2 : Nat) (A3 : Option Addr) (c3 : Nat) (w : World) (h : MIn m A c A2 c2 A3 c3 w) (ok : OkM m) :
    Calls Tryz.prog 23 #[.agg #[.slice A m.old.length c, .int .i64 m.nw, .slice A2 m.ss.length c2, .slice A3 m.js.length c3]] w (GivesInts (car m) w) := by
  have hm1 := h.m1
  have hl1 := h.l1
  unfold maxLen at hm1
  have hs8 := ok.s8
  have hB := below_box (w := w) #[.slice A m.old.length c, .int .i64 m.nw, .slice A2 m.ss.length c2, .slice A3 m.js.length c3] 36
  have hT := Blk.new w 36 #[.slice A m.old.length c, .int .i64 m.nw, .slice A2 m.ss.length c2, .slice A3 m.js.length c3]
  obtain ⟨t0, t1, t2, t3⟩ := hT.c4
  have HH := hid h
  have OK := hid ok
  have hmk := run_make_row' (P := Tryz.prog) 22 3 (.int .i64 0) 8 Tryz.underlying22 int_info rfl .i64 .i64 m.ss.length (by omega) (by omega)
  have HS := hid (show Blk ((w.alloc (.cells #[.slice A m.old.length c, .int .i64 m.nw, .slice A2 m.ss.length c2, .slice A3 m.js.length c3] 36)).alloc (.cells (madeCells #[.int .i64 0] m.ss.length) 3)) (w.heap.size + 1) 3 (intC (carTo m 0)) ∧ Below w.heap.size w ((w.alloc (.cells #[.slice A m.old.length c, .int .i64 m.nw, .slice A2 m.ss.length c2, .slice A3 m.js.length c3] 36)).alloc (.cells (madeCells #[.int .i64 0] m.ss.length) 3)) ∧ Blk ((w.alloc (.cells #[.slice A m.old.length c, .int .i64 m.nw, .slice A2 m.ss.length c2, .slice A3 m.js.length c3] 36)).alloc (.cells (madeCells #[.int .i64 0] m.ss.length) 3)) w.heap.size 36 #[.slice A m.old.length c, .int .i64 m.nw, .slice A2 m.ss.length c2, .slice A3 m.js.length c3] from
    ⟨by have := Blk.new (w.alloc (.cells #[.slice A m.old.length c, .int .i64 m.nw, .slice A2 m.ss.length c2, .slice A3 m.js.length c3] 36)) 3 (madeCells #[.int .i64 0] m.ss.length); rw [intC_zero] at this ⊢; rwa [World.size_alloc] at this, hB.alloc hB.size _, hT.alloc _⟩)
  clear h ok hB hT
  refine callsOf (ro := none) (n := 0) ?_
  refine callsIn_of_wp_marks Tryz.func23 rfl trivial ?_ rfl
  refine wpIn_wide.2 ?_
  simp only [Tryz.ntmps23, List.size_toArray, List.length_cons, List.length_nil, Nat.reduceAdd, Nat.reduceSub, Array.replicate_succ, Array.replicate_zero, List.push_toArray, List.append_toArray, List.nil_append, List.cons_append]
  go_wp2
  clear t0 t1 t2 t3 hmk
  refine wp_loop (fun a W => ∃ (k : Nat) (Ds : List Nat) (u4 u5 u6 u7 u8 u9 u10 u11 u12 u13 u22 u23 u24 u25 u26 u27 u28 u31 u32 u33 u34 u35 u36 u37 u38 u39 u40 u41 u42 u43 u44 u45 u46 u47 u48 u49 u50 u51 u52 u53 u54 u55 u56 u57 u58 u59 u60 u61 : Value), (k ≤ m.old.length ∧ Blk W (w.heap.size + 1) 3 (intC (carTo m k)) ∧ Below w.heap.size w W ∧ Blk W w.heap.size 36 #[.slice A m.old.length c, .int .i64 m.nw, .slice A2 m.ss.length c2, .slice A3 m.js.length c3] ∧ Marks w.heap.size Ds W) ∧ a = { tmps := #[.agg #[.slice A m.old.length c, .int .i64 m.nw, .slice A2 m.ss.length c2, .slice A3 m.js.length c3], .pointer (some ⟨w.heap.size, 0, none⟩), .slice none 0 0, .slice (some ⟨w.heap.size + 1, 0, none⟩) m.ss.length m.ss.length, u4, u5, u6, u7, u8, u9, u10, u11, u12, u13, .pointer (some ⟨w.heap.size, 2, none⟩), .slice A2 m.ss.length c2, .int .i64 (m.ss.length : Int), .slice (some ⟨w.heap.size + 1, 0, none⟩) m.ss.length m.ss.length, .pointer (some ⟨w.heap.size, 0, none⟩), .slice A m.old.length c, .int .i64 (m.old.length : Int), .int .i64 (k : Int), u22, u23, u24, u25, u26, u27, u28, undef, undef, u31, u32, u33, u34, u35, u36, u37, u38, u39, u40, u41, u42, u43, u44, u45, u46, u47, u48, u49, u50, u51, u52, u53, u54, u55, u56, u57, u58, u59, u60, u61, undef], defers := Ds.map mkD }) (fun a _ => m.old.length - (intOf (a.tmps.getD 21 undef)).toNat) ?_ ?_
  · refine ⟨0, [], ?_⟩
    (repeat apply Exists.intro)
    exact ⟨⟨Nat.zero_le _, HS.out.1, HS.out.2.1, HS.out.2.2, Marks.nil _ _⟩, rfl⟩
  rintro _ wr ⟨k, Ds, u4, u5, u6, u7, u8, u9, u10, u11, u12, u13, u22, u23, u24, u25, u26, u27, u28, u31, u32, u33, u34, u35, u36, u37, u38, u39, u40, u41, u42, u43, u44, u45, u46, u47, u48, u49, u50, u51, u52, u53, u54, u55, u56, u57, u58, u59, u60, u61, ⟨hk, hbo, hbr, hbm, hmk⟩, rfl⟩
  clear HS
  have HR := hid (And.intro hbo (And.intro hbr (And.intro hbm hmk)))
  obtain ⟨t0, t1, t2, t3⟩ := hbm.c4
  have bl := hbm.lt
  have bl1 : w.heap.size < wr.heap.size + 1 := by omega
  by_cases hlt : k < m.old.length
  · have hkI : (k : Int) < (m.old.length : Int) := by omega
    obtain ⟨x, hx⟩ : ∃ x, m.old[k]? = some x := ⟨_, List.getElem?_eq_getElem hlt⟩
    obtain ⟨aa, hA, g1, g2⟩ := (HH.out.at_ hbr).io k x hx
    subst hA
    have HX := hid (MapD.at_eq hx)
    clear hbo hbr hbm hmk hx
    go_wp2_with fail
    refine (of_any _ _ _ _ _ _).mono ?_
    rintro e w2 ⟨rfl, h1, h2, h3⟩
    have hba : Below wr.heap.size wr ((wr.alloc (.cells #[.slice none 0 0] 22)).alloc (.cells #[.slice none 0 0] 22)) := (((Below.refl wr.heap.size wr).alloc (Nat.le_refl _) (.cells #[.slice none 0 0] 22)).alloc (by simp) (.cells #[.slice none 0 0] 22))
    have k6 := ((Blk.new wr 22 #[.slice none 0 0]).alloc (.cells #[.slice none 0 0] 22))
    have k7 := (Blk.new (wr.alloc (.cells #[.slice none 0 0] 22)) 22 #[.slice none 0 0])
    simp only [World.size_alloc] at k7
    have hss : ((wr.alloc (.cells #[.slice none 0 0] 22)).alloc (.cells #[.slice none 0 0] 22)).heap.size = wr.heap.size + 1 + 1 := by simp only [World.size_alloc]
    rw [hss] at h2 h3
    have hbw := hba.trans (h1.mono hba.size)
    obtain ⟨Bd, eBd⟩ : ∃ B, B = wr.heap.size + 1 + 1 + 1 := ⟨_, rfl⟩
    obtain ⟨Bm, eBm⟩ : ∃ B, B = wr.heap.size + 1 + 1 := ⟨_, rfl⟩
    obtain ⟨B7, eB7⟩ : ∃ B, B = wr.heap.size + 1 := ⟨_, rfl⟩
    obtain ⟨B6, eB6⟩ : ∃ B, B = wr.heap.size := ⟨_, rfl⟩
    have H2 := hid (And.intro h2 (And.intro h3 (And.intro (k6.keep h1) (And.intro (k7.keep h1) hbw))))
    rw [← eBd, ← eBm, ← eB7] at H2
    have hlt2 := h3.lt
    rw [← eBd] at hlt2
    clear h1 h2 h3 k6 k7 hba hbw t0 t1 t2 t3 hss g2
    go_wp2
    rw [← eBd, ← eBm, ← eB7]
    have HE := hid (show wr.heap.size = B6 ∧ B6 < B7 ∧ B7 < Bm ∧ Bm < Bd ∧ Bd < w2.heap.size ∧ w.heap.size + 1 < B6 by have := HR.out.1.lt; omega)
    rw [show wr.heap.size = B6 from eB6.symm]
    have H6 := hid (show Blk w2 B6 22 #[.slice none 0 0] by rw [eB6]; exact H2.out.2.2.1)
    clear eBd eBm eB7 eB6 hlt2 bl bl1
    have HBW := hid (HR.out.2.1.trans (H2.out.2.2.2.2.mono HR.out.2.1.size))
    refine (wpIn_wide (n := 0)).1 ?_
    refine wpIn_rangeFunc_of (m := m) (d := (k : Int)) (X := fun q => q = B6 ∨ q = B7 ∨ w2.heap.size ≤ q) rfl (enters_of Tryz.func80 (by kernel_rfl) rfl)
      (of1_any H2.out.1 H2.out.2.1 (n := w.heap.size) HBW.out.size (HH.out.is.below HBW.out) HH.out.l2 HH.out.m2 (fun q e => by have := HE.out; have := HBW.out.size; rcases e with e | e | e <;> exact ⟨by omega, by omega⟩)) (Below.refl _ _)
      (IJ m k w2.heap.size B6 B7 w2) (fun _ _ => False)
      (IJ.own (Nat.le_refl _)) (fun c s W W' row hs _ _ => hs) ⟨.slice none 0 0, .slice none 0 0, H6.out, H2.out.2.2.2.1, ⟨rfl, .inl ⟨rfl, rfl⟩⟩, ⟨rfl, .inl ⟨rfl, rfl⟩⟩, .inl rfl, MChg.refl⟩
      (fun j s W hs hne hi => by unfold IJ at *; rw [(atTo_skip hs hne).1, (atTo_skip hs hne).2]; exact hi)
      (fun j s z => { tmps := #[.agg #[.slice (some aa) m.old.length c, .int .i64 m.nw, .slice A2 m.ss.length c2, .slice A3 m.js.length c3], .pointer (some ⟨w.heap.size, 0, none⟩), .slice none 0 0, .slice (some ⟨w.heap.size + 1, 0, none⟩) m.ss.length m.ss.length, .int .i64 (k : Int), .int .i64 x, .pointer (some ⟨B6, 0, none⟩), .pointer (some ⟨B7, 0, none⟩), .int .i64 (j : Int), .pointer (some ⟨z, 0, none⟩), u10, u11, u12, u13, .pointer (some ⟨w.heap.size, 2, none⟩), .slice A2 m.ss.length c2, .int .i64 (m.ss.length : Int), .slice (some ⟨w.heap.size + 1, 0, none⟩) m.ss.length m.ss.length, .pointer (some ⟨w.heap.size, 0, none⟩), .slice (some aa) m.old.length c, .int .i64 (m.old.length : Int), .int .i64 (k : Int), .bool true, .int .i64 (k : Int), .pointer (some (aa.add k)), .int .i64 x, .agg #[.slice (some aa) m.old.length c, .int .i64 m.nw, .slice A2 m.ss.length c2, .slice A3 m.js.length c3], .int .i64 (k : Int), .func (.func 80) #[] #[.pointer (some ⟨Bm, 0, none⟩), .pointer (some ⟨Bd, 0, none⟩)], .int .i64 (j : Int), .agg #[.int .i64 s.o, .int .i64 s.n, .int .i64 s.wt, .int .i64 s.lo, .int .i64 s.hi], u31, u32, u33, u34, u35, u36, u37, u38, u39, u40, u41, u42, u43, u44, u45, u46, u47, u48, u49, u50, u51, u52, u53, u54, u55, u56, u57, u58, u59, u60, u61, undef], defers := [] }) ?assign ?body ?done ?stop
    case assign =>
      intro l j s W K hK
      gi_wp2
      exact hK
    case body =>
      rintro l j s z W hl hz hlp hs hod ⟨v6, v7, hb6, hb7, hr6, hr7, hne, hch⟩ hbz
      have hjl := (List.getElem?_eq_some_iff.1 hs).1
      have hs8 := OK.out.s8
      have HTK := hid (atTo_take hs hod)
      obtain ⟨hl1, hl2⟩ := atTo_len m k j
      have hn6 : (wsTo m k j).length ≤ 8 := by omega
      have hn7 : (atTo m k j).length ≤ 8 := by omega
      obtain ⟨i0, hi0, hz0, hz1, hz2⟩ := info_parts int_info
      have HIN := hid (And.intro hi0 (And.intro hz0 (And.intro hz1 hz2)))
      have HZR := hid (fun (g t : Nat) (us : Array Value) (hb : Blk W g t us) (ht : t ≠ 3) => show ¬ (some g = v6.ownBlock ∨ some g = v7.ownBlock) by
        rintro (e | e)
        · rcases mown_ne hr6 (mblk_not hb ht) with q | q
          · rw [q] at e; cases e
          · exact q e.symm
        · rcases mown_ne hr7 (mblk_not hb ht) with q | q
          · rw [q] at e; cases e
          · exact q e.symm)
      have HNW := hid (fun (g : Nat) (hg : W.heap.size ≤ g) => show ¬ (some g = v6.ownBlock ∨ some g = v7.ownBlock) by
        rintro (e | e)
        · have := (hr6.lt _ e.symm).2; omega
        · have := (hr7.lt _ e.symm).2; omega)
      have HZG := hid (fun (g : Nat) (e : some g = v6.ownBlock ∨ some g = v7.ownBlock) => show w2.heap.size ≤ g ∧ ∃ o, W.heap[g]? = some o ∧ o.isCells = true by
        rcases e with e | e
        · exact ⟨(hr6.lt _ e.symm).1, row_cells hr6 e.symm⟩
        · exact ⟨(hr7.lt _ e.symm).1, row_cells hr7 e.symm⟩)
      have HB6 := hid hb6
      have HB7 := hid hb7
      have HBZ := hid hbz
      have HCH := hid hch
      have HG0 := hid (show PhC w2.heap.size (wsTo m k j).length (atTo m k j).length ((wsTo m k j).map (Value.int .i64)) ((atTo m k j).map fun (i : Nat) => Value.int .i64 (i : Int)) (.int .i64 s.wt) (.int .i64 (j : Int)) v6 v7 (Array.replicate 11 false) { tmps := #[], defers := [] } W from ⟨by simpa using hr6, by simpa using hr7, by simpa using hne⟩)
      have HWL := hid hl
      clear hlp hs hod hb6 hb7 hr6 hr7 hne hch hbz hjl hl hz hl1 hl2 hi0 hz0 hz1 hz2
      gi_wp2
      refine wpIn_region_each2 9 (fun i v W' => match i with | 0 => v = v6 | 1 => v = .pointer (some ⟨z, 2, none⟩) | 2 => v = .int .i64 s.wt | 3 => ∃ gl, v = .slice (some ⟨gl, 0, none⟩) 1 1 ∧ W.heap.size ≤ gl ∧ Blk W' gl 3 #[.int .i64 s.wt] | 4 => ∃ v4, v = v4 ∧ True | 5 => v = v7 | 6 => v = .int .i64 (j : Int) | 7 => ∃ gm, v = .slice (some ⟨gm, 0, none⟩) 1 1 ∧ W.heap.size ≤ gm ∧ Blk W' gm 3 #[.int .i64 (j : Int)] | 8 => ∃ v4, v = v4 ∧ True | _ => True) (MChg (fun q => some q = v6.ownBlock ∨ some q = v7.ownBlock)) (PhC w2.heap.size (wsTo m k j).length (atTo m k j).length ((wsTo m k j).map (Value.int .i64)) ((atTo m k j).map fun (i : Nat) => Value.int .i64 (i : Int)) (.int .i64 s.wt) (.int .i64 (j : Int)) v6 v7) (by kernel_rfl) (by kernel_rfl) ?_ (fun h k => h.trans k) ⟨rfl, rfl, rfl, Nat.le_refl _, fun _ _ _ => rfl⟩ ⟨by have q := HG0.out.r6.drew; simpa using q, by have q := HG0.out.r7.drew; simpa using q, by simpa using HG0.out.ne⟩ (by kernel_rfl) ?_ ?_
      · intro i v W1 W2 hb h
        match i, h with
        | 0, h => exact h
        | 1, h => exact h
        | 2, h => exact h
        | 3, h =>
          obtain ⟨gl, rfl, h1⟩ := h
          exact ⟨_, rfl, h1.1, hb.blk h1.2 (HNW.out _ h1.1)⟩
        | 4, h =>
          obtain ⟨v4, rfl, h1⟩ := h
          exact ⟨_, rfl, trivial⟩
        | 5, h => exact h
        | 6, h => exact h
        | 7, h =>
          obtain ⟨gm, rfl, h1⟩ := h
          exact ⟨_, rfl, h1.1, hb.blk h1.2 (HNW.out _ h1.1)⟩
        | 8, h =>
          obtain ⟨v4, rfl, h1⟩ := h
          exact ⟨_, rfl, trivial⟩
        | i + 9, h => trivial
      · refine ⟨?_, ?_, ?_, ?_, ?_, ?_, ?_, ?_, ?_, trivial⟩
        · -- 0
          intro li a1 W2 hA K hK
          have e6 := hA.par 6 (by kernel_rfl)
          have q1 := (hA.st.blk HB6.out (HZR.out _ _ _ HB6.out (by decide))).c1
          refine opStep (some l) 0 rfl rfl (fun c hc => by cases hc) ?_
          go_simp
          exact hK _ _ rfl MChg.refl (hA.ph.other (by decide) (by decide) (by decide) (by decide) (Below.refl _ _))
        · -- 1
          intro li a1 W2 hA K hK
          have e9 := hA.par 9 (by kernel_rfl)
          refine opStep (some l) 0 rfl rfl (fun c hc => by cases hc) ?_
          go_simp
          exact hK _ _ rfl MChg.refl (hA.ph.other (by decide) (by decide) (by decide) (by decide) (Below.refl _ _))
        · -- 2
          intro li a1 W2 hA K hK
          have e32 : a1.tmps.getD 32 undef = .pointer (some ⟨z, 2, none⟩) := hA.val 1 32 (by kernel_rfl) (by kernel_rfl)
          have hz5 := hA.st.blk HBZ.out (HZR.out _ _ _ HBZ.out (by decide))
          unfold stC at hz5
          obtain ⟨_, _, q1, _, _⟩ := hz5.c5
          refine opStep (some l) 0 rfl rfl (fun c hc => by cases hc) ?_
          go_simp
          exact hK _ _ rfl MChg.refl (hA.ph.other (by decide) (by decide) (by decide) (by decide) (Below.refl _ _))
        · -- 3
          intro li a1 W2 hA K hK
          have e33 : a1.tmps.getD 33 undef = .int .i64 s.wt := hA.val 2 33 (by kernel_rfl) (by kernel_rfl)
          have e33' := e33
          rw [Array.getD_eq_getD_getElem?] at e33'
          refine opStep (some l) 0 rfl rfl (fun c hc => by cases hc) ?_
          go_simp
          exact hK _ _ ⟨_, rfl, hA.st.size, Blk.new _ _ _⟩ (MChg.of_below (below_box _ _)) (hA.ph.other (by decide) (by decide) (by decide) (by decide) (below_box _ _))
        · -- 4
          intro li a1 W2 hA K hK
          have e31 : a1.tmps.getD 31 undef = v6 := hA.val 0 31 (by kernel_rfl) (by kernel_rfl)
          obtain ⟨gl, e34, h34⟩ := hA.val 3 34 (by kernel_rfl) (by kernel_rfl)
          have hr := hA.ph.r6
          rw [show li.getD 4 false = false from hA.new] at hr
          simp only [Bool.false_eq_true, if_false] at hr
          obtain ⟨v', w', hrun, ho', hg', _, hf'⟩ := run_append_own_at (P := Tryz.prog) W2 w2.heap.size 22 22 3 i0 (.int .i64 0) 1 8 Tryz.underlying22 HIN.out.1 HIN.out.2.1 HIN.out.2.2.1 HIN.out.2.2.2 rfl (by decide) v6 _ _ hr ⟨gl, 0, none⟩ 1 1 [.int .i64 s.wt] rfl (one_blk h34.2) (by intro u hu; simp at hu; subst hu; rfl) (by simp only [maxLen]; omega) (by omega) (by have := hA.st.size; have := HCH.out.size; omega)
          refine opValue (some l) 0 rfl rfl (fun c hc => by cases hc) (v := v') (W' := w') (by simp [execOp, resolve, invoke, builtin, Act.eval, e31, e34, hrun, Result.andThen]) ?_
          exact hK v' w' ⟨v', rfl, trivial⟩ (MChg.of_grown hg' (fun q e => .inl e.symm)) (hA.ph.step6 hA.new (by rw [hA.lsize]; decide) (by rw [hA.size]; show 35 < 63; decide) ho' hg' hf')
        · -- 5
          intro li a1 W2 hA K hK
          have e7 := hA.par 7 (by kernel_rfl)
          have q1 := (hA.st.blk HB7.out (HZR.out _ _ _ HB7.out (by decide))).c1
          refine opStep (some l) 0 rfl rfl (fun c hc => by cases hc) ?_
          go_simp
          exact hK _ _ rfl MChg.refl (hA.ph.other (by decide) (by decide) (by decide) (by decide) (Below.refl _ _))
        · -- 6
          intro li a1 W2 hA K hK
          have e8 := hA.par 8 (by kernel_rfl)
          refine opStep (some l) 0 rfl rfl (fun c hc => by cases hc) ?_
          go_simp
          exact hK _ _ rfl MChg.refl (hA.ph.other (by decide) (by decide) (by decide) (by decide) (Below.refl _ _))
        · -- 7
          intro li a1 W2 hA K hK
          have e37 : a1.tmps.getD 37 undef = .int .i64 (j : Int) := hA.val 6 37 (by kernel_rfl) (by kernel_rfl)
          have e37' := e37
          rw [Array.getD_eq_getD_getElem?] at e37'
          refine opStep (some l) 0 rfl rfl (fun c hc => by cases hc) ?_
          go_simp
          exact hK _ _ ⟨_, rfl, hA.st.size, Blk.new _ _ _⟩ (MChg.of_below (below_box _ _)) (hA.ph.other (by decide) (by decide) (by decide) (by decide) (below_box _ _))
        · -- 8
          intro li a1 W2 hA K hK
          have e36 : a1.tmps.getD 36 undef = v7 := hA.val 5 36 (by kernel_rfl) (by kernel_rfl)
          obtain ⟨gm, e38, h38⟩ := hA.val 7 38 (by kernel_rfl) (by kernel_rfl)
          have hr := hA.ph.r7
          rw [show li.getD 8 false = false from hA.new] at hr
          simp only [Bool.false_eq_true, if_false] at hr
          obtain ⟨v', w', hrun, ho', hg', _, hf'⟩ := run_append_own_at (P := Tryz.prog) W2 w2.heap.size 22 22 3 i0 (.int .i64 0) 1 8 Tryz.underlying22 HIN.out.1 HIN.out.2.1 HIN.out.2.2.1 HIN.out.2.2.2 rfl (by decide) v7 _ _ hr ⟨gm, 0, none⟩ 1 1 [.int .i64 (j : Int)] rfl (one_blk h38.2) (by intro u hu; simp at hu; subst hu; rfl) (by simp only [maxLen]; omega) (by omega) (by have := hA.st.size; have := HCH.out.size; omega)
          refine opValue (some l) 0 rfl rfl (fun c hc => by cases hc) (v := v') (W' := w') (by simp [execOp, resolve, invoke, builtin, Act.eval, e36, e38, hrun, Result.andThen]) ?_
          exact hK v' w' ⟨v', rfl, trivial⟩ (MChg.of_grown hg' (fun q e => .inr e.symm)) (hA.ph.step7 hA.new (by rw [hA.lsize]; decide) (by rw [hA.size]; show 39 < 63; decide) ho' hg' hf')
      · intro li a1 W2 hD
        have r6 := hD.ph.r6
        have r7 := hD.ph.r7
        have rne := hD.ph.ne
        rw [hD.all 4 (by decide)] at r6 rne
        rw [hD.all 8 (by decide)] at r7 rne
        simp only [if_true] at r6 r7 rne
        obtain ⟨y6, hy6⟩ : ∃ u, a1.tmps.getD 35 undef = u := ⟨_, rfl⟩
        obtain ⟨y7, hy7⟩ : ∃ u, a1.tmps.getD 39 undef = u := ⟨_, rfl⟩
        rw [hy6] at r6 rne
        rw [hy7] at r7 rne
        obtain ⟨g6, cap6, rfl⟩ := Go.ownsRow_succ r6
        obtain ⟨g7, cap7, rfl⟩ := Go.ownsRow_succ r7
        have e6 := hD.par 6 (by kernel_rfl)
        have e7 := hD.par 7 (by kernel_rfl)
        have hst := hD.st
        have h6 := hst.blk HB6.out (HZR.out _ _ _ HB6.out (by decide))
        have h7 := hst.blk HB7.out (HZR.out _ _ _ HB7.out (by decide))
        have HN67 := hid (show B6 ≠ B7 by have := HE.out; omega)
        have c6 := h6.c1
        have c7 := h7.c1
        have f6 := h6.frozen 0
        have f7 := h7.frozen 0
        have l6 := h6.lt
        have l7 := h7.lt
        have hkp := hD.keeps (ds := [31, 32, 33, 34, 35, 36, 37, 38, 39]) (by kernel_rfl)
        have hds := hD.size
        have hdd := hD.defers
        have HROW := hid (And.intro r6 (And.intro r7 (And.intro rne (And.intro h6 (And.intro h7 hst)))))
        clear r6 r7 rne h6 h7 hst
        refine tail_store (i := 9) (W' := W2.setCell ⟨B6, 0, none⟩ (.slice (some ⟨g6, 0, none⟩) ((wsTo m k j).length + 1) cap6)) (some l) 0 rfl rfl rfl (fun c hc => by cases hc) (by go_simp) ?_
        have c7' : (W2.setCell ⟨B6, 0, none⟩ (.slice (some ⟨g6, 0, none⟩) ((wsTo m k j).length + 1) cap6)).cell? ⟨B7, 0, none⟩ = some v7 := (HROW.out.2.2.2.2.1.far (p := ⟨B6, 0, none⟩) (fun e => HN67.out e.symm) _).c1
        clear c6 c7
        refine tail_store (i := 10) (W' := (W2.setCell ⟨B6, 0, none⟩ (.slice (some ⟨g6, 0, none⟩) ((wsTo m k j).length + 1) cap6)).setCell ⟨B7, 0, none⟩ (.slice (some ⟨g7, 0, none⟩) ((atTo m k j).length + 1) cap7)) (some l) 0 rfl rfl rfl (fun c hc => by cases hc) (by go_simp) ?_
        have e := act_mix [31, 32, 33, 34, 35, 36, 37, 38, 39] hds hdd (fun i _ hc => hkp i hc)
        generalize (fun i => a1.tmps.getD i undef) = g' at e
        refine wpListIn_nil ?_
        rw [e]
        clear e hD hkp e6 e7 hds hdd c7' f6 f7 l6 l7 hy6 hy7
        simp only [mix, List.contains_cons, List.contains_nil, Nat.reduceAdd, Nat.reduceBEq, Bool.or_false, Bool.or_true, cond_true, cond_false]
        obtain ⟨r6, r7, rne, h6, h7, hst⟩ := HROW.out
        have hc0 := HCH.out.rows hst (fun q e => (HZG.out q e).1)
        have k6 := h6.set_ 0 (.slice (some ⟨g6, 0, none⟩) ((wsTo m k j).length + 1) cap6)
        have k7 := h7.far (p := ⟨B6, 0, none⟩) (fun e => HN67.out e.symm) (.slice (some ⟨g6, 0, none⟩) ((wsTo m k j).length + 1) cap6)
        have s6 := row_set (i := 0) (row_set (i := 0) r6 h6 (by decide) (.slice (some ⟨g6, 0, none⟩) ((wsTo m k j).length + 1) cap6)) k7 (by decide) (.slice (some ⟨g7, 0, none⟩) ((atTo m k j).length + 1) cap7)
        have s7 := row_set (i := 0) (row_set (i := 0) r7 h6 (by decide) (.slice (some ⟨g6, 0, none⟩) ((wsTo m k j).length + 1) cap6)) k7 (by decide) (.slice (some ⟨g7, 0, none⟩) ((atTo m k j).length + 1) cap7)
        have HNX := hid (show IJ m k w2.heap.size B6 B7 w2 (j + 1) ((W2.setCell ⟨B6, 0, none⟩ (.slice (some ⟨g6, 0, none⟩) ((wsTo m k j).length + 1) cap6)).setCell ⟨B7, 0, none⟩ (.slice (some ⟨g7, 0, none⟩) ((atTo m k j).length + 1) cap7)) by
          refine ⟨_, _, k6.far (p := ⟨B7, 0, none⟩) HN67.out _, k7.set_ 0 _, ?_, ?_, rne, (hc0.set (.inl rfl) _).set (.inr rfl) _⟩
          · rw [HTK.out.2, List.length_append, List.map_append]; exact s6
          · rw [HTK.out.1, List.length_append, List.map_append]; exact s7)
        have HKF := hid (show KeepsFrom w2.heap.size W ((W2.setCell ⟨B6, 0, none⟩ (.slice (some ⟨g6, 0, none⟩) ((wsTo m k j).length + 1) cap6)).setCell ⟨B7, 0, none⟩ (.slice (some ⟨g7, 0, none⟩) ((atTo m k j).length + 1) cap7)) ∧ Keep (fun q => q = B6 ∨ q = B7 ∨ w2.heap.size ≤ q) W ((W2.setCell ⟨B6, 0, none⟩ (.slice (some ⟨g6, 0, none⟩) ((wsTo m k j).length + 1) cap6)).setCell ⟨B7, 0, none⟩ (.slice (some ⟨g7, 0, none⟩) ((atTo m k j).length + 1) cap7)) from
          ⟨(keepsFrom_chg hst (fun q e => (HZG.out q e).2)).trans ((KeepsFrom.of_set _ _).trans (KeepsFrom.of_set _ _)), (((hst.sub (fun q e => .inr (.inr (HZG.out q e).1))).set (.inl rfl) _).set (.inr (.inl rfl)) _).keep⟩)
        clear r6 r7 rne h6 h7 hst hc0 k6 k7 s6 s7 HROW
        gi_wp2
        exact ⟨HKF.out.1, HKF.out.2, HNX.out⟩
    case done =>
      rintro D W hDl ⟨v6, v7, hb6, hb7, hr6, hr7, hne, hch⟩ hdf
      have hbw : Below w.heap.size w W := HBW.out.trans (hch.below (fun q e => by have := HE.out; rcases e with e | e <;> omega) HBW.out.size)
      have hm2 := HR.out.2.2.2.below H2.out.2.2.2.2
      have hm3 := hm2.chg hch (fun D' hD' e => by
        rcases e with e | e
        · exact hm2.ne H6.out D' hD' e
        · exact hm2.ne H2.out.2.2.2.1 D' hD' e)
      have HM := hid (Marks.cons hm2 hm3 (by have := HBW.out.size; omega) hDl hdf)
      have HBM := hid (hch.blk (HR.out.2.2.1.keep H2.out.2.2.2.2) (fun e => by have := HE.out; rcases e with e | e <;> omega))
      have HBO := hid (hch.blk (HR.out.1.keep H2.out.2.2.2.2) (fun e => by have := HE.out; rcases e with e | e <;> omega))
      obtain ⟨A6, c6, hv6, p1, p2, p3, _, _⟩ := own_ints rfl hr6
      have hmm : ((atTo m k m.ss.length).map fun (i : Nat) => Value.int .i64 (i : Int)) = (((atTo m k m.ss.length).map fun (i : Nat) => (i : Int)).map (Value.int .i64)) := by rw [List.map_map]; rfl
      rw [hmm] at hr7
      obtain ⟨A7, c7, hv7, r1, r2, r3, r4, _⟩ := own_ints (by simp) hr7
      rw [List.length_map] at hv7 r1
      subst hv6 hv7
      have hde := OK.out.divE hlt
      rw [HX.out] at hde
      have KD := divide_any A6 c6 (wsTo m k m.ss.length) x W p3 p1 p2
      simp only [hde, ne_eq, not_true_eq_false, if_false] at KD
      unfold GivesDiv at KD
      have KD := hid KD
      have hln := (atTo_len m k m.ss.length).1
      have hln2 := (atTo_len m k m.ss.length).2
      have HLN := hid hln
      have y6 := hb6.c1
      have HW := hid hbw
      have HB7 := hid hb7
      have HA7 := hid (And.intro r3 (fun a e => (r4 a e).1))
      have HWS := hid (show w2.heap.size ≤ W.heap.size from hch.size)
      unfold maxLen at r2
      clear hbw hm2 hm3 hdf hb6 hb7 hr6 hr7 hne hch hmm p1 p2 p3 r3 r4 hde hln
      go_wp2_with fail
      refine KD.out.mono ?_
      rintro e w4 ⟨A5, c5, rfl, q1, q2, q3, q4, q5, hb5⟩
      have H4 := hid (And.intro (HW.out.trans (hb5.mono HW.out.size)) (And.intro (HM.out.below hb5) (And.intro (HBM.out.keep hb5) (And.intro (HBO.out.keep hb5) (HB7.out.keep hb5)))))
      have HI5 := hid (And.intro q1 q5)
      have HI7 := hid (And.intro (HA7.out.1.at_ hb5) HA7.out.2)
      have HS4 := hid hb5.size
      unfold maxLen at q3
      rw [show (wsTo m k m.ss.length).length = (atTo m k m.ss.length).length from HLN.out.symm] at q2 ⊢
      clear KD q1 q4 q5 hb5 y6
      go_wp2
      go_loopw [48] (fun i V => ∃ j : Nat, j ≤ (atTo m k m.ss.length).length ∧ i = .int .i64 j ∧ Blk V (w.heap.size + 1) 3 (intC (putTo (carTo m k) (atTo m k m.ss.length) (parts m k) j)) ∧ MChg (fun q => q = w.heap.size + 1) w4 V) (fun i _ => (atTo m k m.ss.length).length - (intOf i).toNat)
      case atStart => exact ⟨0, Nat.zero_le _, rfl, H4.out.2.2.2.1, MChg.refl⟩
      case round =>
        obtain ⟨j, hj, rfl, hbo, hcg⟩ := hrel
        have HBJ := hid (And.intro hbo hcg)
        by_cases hjl : j < (atTo m k m.ss.length).length
        · have hjI : (j : Int) < ((atTo m k m.ss.length).length : Int) := by omega
          obtain ⟨i, hi⟩ : ∃ i, (atTo m k m.ss.length)[j]? = some i := ⟨_, List.getElem?_eq_getElem hjl⟩
          obtain ⟨p, hp⟩ : ∃ p, (parts m k)[j]? = some p := ⟨_, List.getElem?_eq_getElem (by rw [parts_len]; exact hjl)⟩
          have hil := (atTo_mem.1 (List.mem_of_getElem? hi)).1
          have hiI : (i : Int) < (m.ss.length : Int) := by omega
          have hdp : (divOf (wsTo m k m.ss.length) x)[j]? = some p := by rw [← HX.out]; exact hp
          obtain ⟨a5, e5, g3, g4⟩ := HI5.out.1 j p hdp
          obtain ⟨a7, e7, g5, g6⟩ := HI7.out.1 j (i : Int) (by rw [List.getElem?_map, hi]; rfl)
          have n5 := HI5.out.2 a5 e5
          have n7 := HI7.out.2 a7 e7
          replace g4 := hcg.keep.cell g4 (by rw [block_of_add]; have := HE.out; have := HWS.out; omega)
          replace g6 := hcg.keep.cell g6 (by rw [block_of_add]; have := HE.out; omega)
          have y7 := (hcg.blk H4.out.2.2.2.2 (fun e => by have := HE.out; omega)).c1
          subst e5 e7
          obtain ⟨yv, hyv⟩ : ∃ yv, (putTo (carTo m k) (atTo m k m.ss.length) (parts m k) j)[i]? = some yv := ⟨_, List.getElem?_eq_getElem (by rw [putTo_len, carTo_len]; exact hil)⟩
          have yo := hbo.cell i
          rw [intC_get hyv] at yo
          have fo := hbo.frozen i
          have lo := hbo.lt
          have HNX := hid (show Blk (wr.setCell ⟨w.heap.size + 1, i, none⟩ (.int .i64 p)) (w.heap.size + 1) 3 (intC (putTo (carTo m k) (atTo m k m.ss.length) (parts m k) (j + 1))) ∧ MChg (fun q => q = w.heap.size + 1) w4 (wr.setCell ⟨w.heap.size + 1, i, none⟩ (.int .i64 p)) by
            refine ⟨?_, hcg.set rfl _⟩
            have := hbo.set_ i (.int .i64 p)
            rw [intC_set] at this
            rw [putTo, List.getD, hi, List.getD, hp]
            exact this)
          clear hbo hcg hi hp hdp n5 n7 g3 g5 hyv
          go_wp2
          go_roundw
          case rel => exact ⟨j + 1, by omega, by go_num, HNX.out⟩
          case measure => first | (simp [intOf]; done) | (simp [intOf]; omega)
        · have hjI : decide ((j : Int) < ((atTo m k m.ss.length).length : Int)) = false := by simp; omega
          obtain rfl : j = (atTo m k m.ss.length).length := by omega
          clear hbo hcg
          go_wp2
          refine ⟨⟨k + 1, D :: Ds, ?_⟩, ?measure⟩
          · (repeat apply Exists.intro)
            have hcg := HBJ.out.2
            exact ⟨⟨by omega, HBJ.out.1, H4.out.1.trans (hcg.below (n := w.heap.size) (fun q e => by omega) H4.out.1.size), hcg.blk H4.out.2.2.1 (fun e => by omega), H4.out.2.1.chg hcg (fun D' hD' e => H4.out.2.1.ne H4.out.2.2.2.1 D' hD' e)⟩, by go_num⟩
          case measure => first | (simp [intOf]; done) | (simp [intOf]; omega)
    case stop =>
      rintro D c W _ h _
      exact h.elim
  · have hkI : decide ((k : Int) < (m.old.length : Int)) = false := by simp; omega
    obtain rfl : k = m.old.length := by omega
    have HFB := hid (show Blk wr (w.heap.size + 1) 3 (intC (car m)) from hbo)
    clear hbo hbr hbm hmk
    go_wp2
    refine leaves_marks (B := w.heap.size) Ds _ HR.out.2.2.2 (fun W' hk hb => ?_)
    have hcl : (car m).length = m.ss.length := carTo_len m _
    have hbf := hk.blk HFB.out id
    refine ⟨.slice (some ⟨w.heap.size + 1, 0, none⟩) m.ss.length m.ss.length, results_tmp Tryz.results23 _ _ _, some ⟨w.heap.size + 1, 0, none⟩, m.ss.length, by rw [hcl], by rw [hcl]; exact Nat.le_refl _, by unfold maxLen; omega, fun i y hy => ⟨_, rfl, hbf.lt, ?_⟩, fun a e => ?_, (fun e => by cases e), HR.out.2.1.trans hb⟩
    · rw [add_blk, hbf.cell]; exact intC_get hy
    · injection e with e
      subst e
      exact ⟨Nat.le_succ _, _, hbf⟩
end Go.Proofs.YtlnamjhgbdacbaaGreat
