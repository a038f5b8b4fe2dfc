/- The walks and the plain laws of this part of the program, part 4: what each computes. Conditions stand at each theorem. -/
import Derived.IntWalk
import Derived.Test.YtoeabajigfdkaaaG2
import Derived.Test.YtoeabajigfdkaaaG3
/- The bounds of the people of an old district in the streets that pass a test. Conditions stand at the theorem. -/
namespace Go.Proofs.Ytoeabajigfdkaaa
open Go.RowKit Go.Shelf

attribute [local go_sem] Oper.semAt_some

theorem two_ints {W : World} {g : Nat} {x y : Int} (h : Blk W g 3 #[.int .i64 x, .int .i64 y]) : IsInts W W.heap.size (some ⟨g, 0, none⟩) [x, y] := fun k v hk => by
  obtain ⟨c0, c1⟩ := h.c2
  match k, hk with
  | 0, hk => injection hk with hk; subst hk; exact ⟨_, rfl, h.lt, c0⟩
  | 1, hk => injection hk with hk; subst hk; exact ⟨_, rfl, h.lt, by rw [add_blk]; exact c1⟩
  | k + 2, hk => simp at hk
set_option maxRecDepth 100000 in
set_option maxHeartbeats 4000000 in
theorem part_any (m : MapD) (p : Nat → Bool) (f : Nat) (cap : Array Value) (d : Nat) (A : Option Addr) (c : Nat) (A2 : Option Addr) (c2 : Nat) (A3 : Option Addr) (c3 : Nat) (w : World) (h : MIn m A c A2 c2 A3 c3 w) (ok : OkM m) (hd : d < m.old.length)
    (ef : ∀ args w, (callFunc f args).run Try.prog w = .ok (.enter f args) w)
    (hin : ∀ W (i : Nat), Below w.heap.size w W → i < m.ss.length → Calls Try.prog f (#[.int .i64 (i : Int)] ++ cap) W fun e W' => e = .returned (.bool (p i)) ∧ Below W.heap.size W W') :
    Calls Try.prog 87 #[.agg #[.slice A m.old.length c, .int .i64 m.nw, .slice A2 m.ss.length c2, .slice A3 m.js.length c3], .int .i64 (d : Int), .func (.func f) #[] cap] w fun e w' => e = .returned (.agg #[.int .i64 (partLo m p d), .int .i64 (partHi m p d)]) ∧ Below w.heap.size w w' := by
  have hm1 := h.m1
  have hl1 := h.l1
  unfold maxLen at hm1
  have HH := hid h
  have OK := hid ok
  have HIN := hid hin
  clear h ok hin
  refine callsOf (ro := none) (n := 0) ?_
  refine callsIn_of_wp_marks Try.func87 rfl trivial ?_ rfl
  refine wpIn_wide.2 ?_
  simp only [Try.ntmps87, List.size_toArray, List.length_cons, List.length_nil, Nat.reduceAdd, Nat.reduceSub, Array.replicate_succ, Array.replicate_zero, List.push_toArray, List.append_toArray, List.nil_append, List.cons_append]
  go_wp2_with fail
  refine (bboth_any _).mono ?_
  rintro e w1 ⟨rfl, h1⟩
  have hb : Below w.heap.size w (((w.alloc (.cells #[.slice A m.old.length c, .int .i64 m.nw, .slice A2 m.ss.length c2, .slice A3 m.js.length c3] 34)).alloc (.cells #[.func (.func f) #[] cap] 94)).alloc (.cells #[.int .i64 0, .int .i64 0] 49)) := ((((Below.refl w.heap.size w).alloc (Nat.le_refl _) (.cells #[.slice A m.old.length c, .int .i64 m.nw, .slice A2 m.ss.length c2, .slice A3 m.js.length c3] 34)).alloc (by simp) (.cells #[.func (.func f) #[] cap] 94)).alloc (by simp; omega) (.cells #[.int .i64 0, .int .i64 0] 49))
  have k1 := (((Blk.new w 34 #[.slice A m.old.length c, .int .i64 m.nw, .slice A2 m.ss.length c2, .slice A3 m.js.length c3]).alloc (.cells #[.func (.func f) #[] cap] 94)).alloc (.cells #[.int .i64 0, .int .i64 0] 49))
  have k2 := ((Blk.new (w.alloc (.cells #[.slice A m.old.length c, .int .i64 m.nw, .slice A2 m.ss.length c2, .slice A3 m.js.length c3] 34)) 94 #[.func (.func f) #[] cap]).alloc (.cells #[.int .i64 0, .int .i64 0] 49))
  have k3 := (Blk.new ((w.alloc (.cells #[.slice A m.old.length c, .int .i64 m.nw, .slice A2 m.ss.length c2, .slice A3 m.js.length c3] 34)).alloc (.cells #[.func (.func f) #[] cap] 94)) 49 #[.int .i64 0, .int .i64 0])
  simp only [World.size_alloc] at k2 k3
  have HB1 := hid (hb.trans (h1.mono hb.size))
  have K1 := hid (k1.keep h1)
  have K2 := hid (k2.keep h1)
  have K3 := hid (k3.keep h1)
  have hz1 : w.heap.size + 2 < w1.heap.size := by
    have := (k3.keep h1).lt
    omega
  clear hb h1 k1 k2 k3
  obtain ⟨t0, t1, t2, t3⟩ := K1.out.c4
  have bl := K1.out.lt
  have bl1 : w.heap.size < w1.heap.size + 1 := by omega
  have bl2 : w.heap.size < w1.heap.size + 1 + 1 := by omega
  have bl3 : w.heap.size < w1.heap.size + 1 + 1 + 1 := by omega
  go_wp2_with fail
  refine (of_any _ _ _ _ _ _).mono ?_
  rintro e w2 ⟨rfl, h1, h2, h3⟩
  have hb : Below w1.heap.size w1 ((((w1.alloc (.cells #[.func (.func 110) #[] #[]] 129)).alloc (.cells #[.func (.func 111) #[] #[]] 129)).alloc (.cells #[.int .i64 0, .int .i64 0] 49)).alloc (.cells #[.int .i64 0, .int .i64 0] 49)) := (((((Below.refl w1.heap.size w1).alloc (Nat.le_refl _) (.cells #[.func (.func 110) #[] #[]] 129)).alloc (by simp) (.cells #[.func (.func 111) #[] #[]] 129)).alloc (by simp; omega) (.cells #[.int .i64 0, .int .i64 0] 49)).alloc (by simp; omega) (.cells #[.int .i64 0, .int .i64 0] 49))
  have k1 := ((((Blk.new w1 129 #[.func (.func 110) #[] #[]]).alloc (.cells #[.func (.func 111) #[] #[]] 129)).alloc (.cells #[.int .i64 0, .int .i64 0] 49)).alloc (.cells #[.int .i64 0, .int .i64 0] 49))
  have k2 := (((Blk.new (w1.alloc (.cells #[.func (.func 110) #[] #[]] 129)) 129 #[.func (.func 111) #[] #[]]).alloc (.cells #[.int .i64 0, .int .i64 0] 49)).alloc (.cells #[.int .i64 0, .int .i64 0] 49))
  have k3 := ((Blk.new ((w1.alloc (.cells #[.func (.func 110) #[] #[]] 129)).alloc (.cells #[.func (.func 111) #[] #[]] 129)) 49 #[.int .i64 0, .int .i64 0]).alloc (.cells #[.int .i64 0, .int .i64 0] 49))
  have k4 := (Blk.new (((w1.alloc (.cells #[.func (.func 110) #[] #[]] 129)).alloc (.cells #[.func (.func 111) #[] #[]] 129)).alloc (.cells #[.int .i64 0, .int .i64 0] 49)) 49 #[.int .i64 0, .int .i64 0])
  simp only [World.size_alloc] at k2 k3 k4
  have hs4 : ((((w1.alloc (.cells #[.func (.func 110) #[] #[]] 129)).alloc (.cells #[.func (.func 111) #[] #[]] 129)).alloc (.cells #[.int .i64 0, .int .i64 0] 49)).alloc (.cells #[.int .i64 0, .int .i64 0] 49)).heap.size = w1.heap.size + 1 + 1 + 1 + 1 := by simp only [World.size_alloc]
  rw [hs4] at h2 h3
  have HB2 := hid (HB1.out.trans ((hb.trans (h1.mono hb.size)).mono HB1.out.size))
  have hbw := hb.trans (h1.mono hb.size)
  have KM := hid (K1.out.keep hbw)
  have KF := hid (K2.out.keep hbw)
  have KR := hid (K3.out.keep hbw)
  have K7 := hid (k1.keep h1)
  have K8 := hid (k2.keep h1)
  have K9 := hid (k3.keep h1)
  have K10 := hid (k4.keep h1)
  have H2 := hid (And.intro h2 h3)
  have hz2 : w1.heap.size + 4 < w2.heap.size := by have := h2.lt; omega
  clear hb h1 h2 h3 k1 k2 k3 k4 hs4 hbw t0 t1 t2 t3 K1 K2 K3 HB1 bl bl1 bl2 bl3
  go_wp2
  obtain ⟨Bd, eBd⟩ : ∃ B, B = w1.heap.size + 1 + 1 + 1 + 1 + 1 := ⟨_, rfl⟩
  obtain ⟨Bm, eBm⟩ : ∃ B, B = w1.heap.size + 1 + 1 + 1 + 1 := ⟨_, rfl⟩
  obtain ⟨B10, eB10⟩ : ∃ B, B = w1.heap.size + 1 + 1 + 1 := ⟨_, rfl⟩
  obtain ⟨B9, eB9⟩ : ∃ B, B = w1.heap.size + 1 + 1 := ⟨_, rfl⟩
  obtain ⟨B8, eB8⟩ : ∃ B, B = w1.heap.size + 1 := ⟨_, rfl⟩
  obtain ⟨B7, eB7⟩ : ∃ B, B = w1.heap.size := ⟨_, rfl⟩
  obtain ⟨B6, eB6⟩ : ∃ B, B = w.heap.size + 1 + 1 := ⟨_, rfl⟩
  obtain ⟨B5, eB5⟩ : ∃ B, B = w.heap.size + 1 := ⟨_, rfl⟩
  rw [← eBd] at H2 ⊢
  rw [← eBm] at H2 ⊢
  rw [← eB10] at K10 ⊢
  rw [← eB9] at K9 ⊢
  rw [← eB8] at K8 ⊢
  rw [← eB7] at K7 ⊢
  rw [← eB6] at KR ⊢
  rw [← eB5] at KF ⊢
  have HE := hid (show w.heap.size < B5 ∧ B5 < B6 ∧ B6 < B7 ∧ B7 < B8 ∧ B8 < B9 ∧ B9 < B10 ∧ B10 < Bm ∧ Bm < Bd ∧ Bd < w2.heap.size by have := H2.out.2.lt; omega)
  clear eBd eBm eB10 eB9 eB8 eB7 eB6 eB5 hz1 hz2
  refine (wpIn_wide (n := 0)).1 ?_
  refine wpIn_rangeFunc_of (m := m) (d := (d : Int)) (X := fun q => q = B9 ∨ q = B10) rfl (enters_of Try.func104 (by kernel_rfl) rfl)
    (of1_any H2.out.1 H2.out.2 (n := w.heap.size) HB2.out.size (HH.out.is.below HB2.out) HH.out.l2 HH.out.m2 (fun q e => by have := HE.out; rcases e with e | e <;> (rw [e]; exact ⟨by omega, by omega⟩))) (Below.refl _ _)
    (fun j W => Blk W B9 49 #[.int .i64 (sumO m d p Stt.lo j), .int .i64 (sumO m d p Stt.hi j)] ∧ Blk W B10 49 #[.int .i64 (sumO m d (nt p) Stt.lo j), .int .i64 (sumO m d (nt p) Stt.hi j)] ∧ Chg (fun q => q = B9 ∨ q = B10) w2 W) (fun _ _ => False)
    (OwnFrom.and (blk_own _ _ _ _) (OwnFrom.and (blk_own _ _ _ _) (chg_own (Nat.le_refl _)))) (fun c s W W' row hs _ _ => hs) ⟨K9.out, K10.out, Chg.refl⟩
    (fun j s W hs hne hi => ⟨by rw [sumO_skip hs hne, sumO_skip hs hne]; exact hi.1, by rw [sumO_skip hs hne, sumO_skip hs hne]; exact hi.2.1, hi.2.2⟩)
    (fun j s z => { tmps := #[.agg #[.slice A m.old.length c, .int .i64 m.nw, .slice A2 m.ss.length c2, .slice A3 m.js.length c3], .int .i64 (d : Int), .func (.func f) #[] cap, .pointer (some ⟨w.heap.size, 0, none⟩), undef, .pointer (some ⟨B5, 0, none⟩), .pointer (some ⟨B6, 0, none⟩), .pointer (some ⟨B7, 0, none⟩), .pointer (some ⟨B8, 0, none⟩), .pointer (some ⟨B9, 0, none⟩), .pointer (some ⟨B10, 0, none⟩), .int .i64 (j : Int), .pointer (some ⟨z, 0, none⟩), undef, .tuple #[.agg #[.func (.func 110) #[] #[]], .agg #[.func (.func 111) #[] #[]]], .tuple #[.agg #[.func (.func 110) #[] #[]], .agg #[.func (.func 111) #[] #[]]], .agg #[.func (.func 110) #[] #[]], .agg #[.func (.func 111) #[] #[]], .agg #[.slice A m.old.length c, .int .i64 m.nw, .slice A2 m.ss.length c2, .slice A3 m.js.length c3], .int .i64 (d : Int), .func (.func 104) #[] #[.pointer (some ⟨Bm, 0, none⟩), .pointer (some ⟨Bd, 0, none⟩)], .int .i64 (j : Int), .agg #[.int .i64 s.o, .int .i64 s.n, .int .i64 s.wt, .int .i64 s.lo, .int .i64 s.hi], undef, undef, undef, undef, undef, undef, undef, undef, undef, undef, undef, undef, undef, undef, undef, undef, undef, undef, undef, undef, undef, undef, undef, undef, undef, undef, undef, undef, undef, undef, undef, undef, undef, undef, undef, undef, undef, undef, undef, undef, undef, undef, undef, undef, undef, undef, undef, undef, undef, undef, undef], defers := [] }) ?assign ?body ?done ?stop
  case assign =>
    intro l j s W K hK
    gi_wp2
    exact hK
  case body =>
    rintro l j s z W hl hz hlp hs hod ⟨hb9, hb10, hch⟩ hbz
    have hjl := (List.getElem?_eq_some_iff.1 hs).1
    have hs8 := OK.out.s8
    have sb : ∀ (g : Stt → Int) (r : Nat → Bool), (g = Stt.lo ∨ g = Stt.hi) → 0 ≤ sumO m d r g j ∧ sumO m d r g j ≤ 80000 := fun g r hg => by
      obtain ⟨b1, b2⟩ := sumO_bounds (m := m) (g := g) (M := 10000) (by omega) d r j (fun i hi => by have := OK.out.sAt (i := i) (by omega); rcases hg with rfl | rfl <;> omega)
      omega
    obtain ⟨a1, a2⟩ := sb Stt.lo p (.inl rfl)
    obtain ⟨a3, a4⟩ := sb Stt.hi p (.inr rfl)
    obtain ⟨a5, a6⟩ := sb Stt.lo (nt p) (.inl rfl)
    obtain ⟨a7, a8⟩ := sb Stt.hi (nt p) (.inr rfl)
    have hsw := OK.out.sAt hjl
    rw [MapD.S_eq hs] at hsw
    obtain ⟨_, _, _, _, _, _, q1, q2, q3⟩ := hsw
    have HT := hid (fun r (hr : r j = true) => And.intro (sumO_take (m := m) (d := d) (p := r) (g := Stt.lo) hs hod hr) (sumO_take (m := m) (d := d) (p := r) (g := Stt.hi) hs hod hr))
    have HD := hid (fun r (hr : r j = false) => And.intro (sumO_drop (m := m) (d := d) (p := r) (g := Stt.lo) (k := j) hr) (sumO_drop (m := m) (d := d) (p := r) (g := Stt.hi) (k := j) hr))
    have hbw : Below w.heap.size w W := HB2.out.trans (hch.below (fun q e => by have := HE.out; rcases e with e | e <;> omega) HB2.out.size)
    have KI := hid (HIN.out W j hbw hjl)
    have f0 := (hch.blk KF.out (fun e => by have := HE.out; rcases e with e | e <;> omega)).c1
    have HI := hid (And.intro hb9 (And.intro hb10 hch))
    have HBZ := hid hbz
    have e7 := hid (hch.blk K7.out (fun e => by have := HE.out; rcases e with e | e <;> omega))
    have e8 := hid (hch.blk K8.out (fun e => by have := HE.out; rcases e with e | e <;> omega))
    have HZ := hid hz
    clear hlp hs hod hb9 hb10 hch hbz sb hjl hbw hl hz
    generalize hS : sumO m d p Stt.lo j = S at *
    generalize hS2 : sumO m d p Stt.hi j = S2 at *
    generalize hT : sumO m d (nt p) Stt.lo j = T at *
    generalize hT2 : sumO m d (nt p) Stt.hi j = T2 at *
    have HSS := hid (And.intro hS (And.intro hS2 (And.intro hT hT2)))
    clear hS hS2 hT hT2
    gi_wp2_with fail
    refine ⟨trivial, (callsFW (some l) 0 KI.out).mono ?_⟩
    rintro e W3 ⟨rfl, hb⟩
    have HB3 := hid hb
    have J9 := hid (HI.out.1.keep hb)
    have J10 := hid (HI.out.2.1.keep hb)
    have Z3 := hid (HBZ.out.keep hb)
    have E7 := hid (e7.out.keep hb)
    have E8 := hid (e8.out.keep hb)
    clear hb KI f0 HBZ e7 e8
    cases hp : p j
    · have hw0 : IntKind.i64.wrap (T + s.lo) = T + s.lo := IntWalk.i64_in _ (by omega)
      have hw1 : IntKind.i64.wrap (T2 + s.hi) = T2 + s.hi := IntWalk.i64_in _ (by omega)
      have HP := hid hp
      clear hp
      gi_wp2
      refine wpIn_region_each 12 (fun i v W' => match i with | 0 => v = .pointer (some ⟨B10, 0, none⟩) | 1 => v = .pointer (some ⟨B10, 0, none⟩) | 2 => v = .pointer (some ⟨B10, 0, none⟩) | 3 => v = .int .i64 T | 4 => v = .pointer (some ⟨B7, 0, none⟩) | 5 => v = .func (.func 110) #[] #[] | 6 => v = .pointer (some ⟨z, 3, none⟩) | 7 => v = .agg #[.int .i64 s.lo, .int .i64 s.hi] | 8 => v = .int .i64 s.lo | 9 => v = .int .i64 (T + s.lo) | 10 => v = .pointer (some ⟨B10, 0, none⟩) | 11 => v = .pointer (some ⟨B10, 0, none⟩) | _ => True) (fun A B => Below A.heap.size A B) (fun _ _ => True) (by kernel_rfl) (by kernel_rfl) ?_ (fun h k => h.trans (k.mono h.size)) ⟨rfl, rfl, rfl, Nat.le_refl _, fun _ _ => rfl⟩ trivial (by kernel_rfl) ?_ ?_
      · intro i v W1 W2 hb h
        match i, h with
        | 0, h => exact h
        | 1, h => exact h
        | 2, h => exact h
        | 3, h => exact h
        | 4, h => exact h
        | 5, h => exact h
        | 6, h => exact h
        | 7, h => exact h
        | 8, h => exact h
        | 9, h => exact h
        | 10, h => exact h
        | 11, h => exact h
        | i + 12, h => trivial
      · refine ⟨?_, ?_, ?_, ?_, ?_, ?_, ?_, ?_, ?_, ?_, ?_, ?_, trivial⟩
        · -- 0
          intro li a1 W2 hA K hK
          have e13 := hA.par 13 (by kernel_rfl)
          refine opStep (some l) 0 rfl rfl (fun c hc => by cases hc) ?_
          go_simp
          exact hK _ _ rfl (Below.refl _ _) trivial
        · -- 1
          intro li a1 W2 hA K hK
          have e26 : a1.tmps.getD 26 undef = .pointer (some ⟨B10, 0, none⟩) := hA.val 0 26 (by kernel_rfl) (by kernel_rfl)
          refine opStep (some l) 0 rfl rfl (fun c hc => by cases hc) ?_
          go_simp
          exact hK _ _ rfl (Below.refl _ _) trivial
        · -- 2
          intro li a1 W2 hA K hK
          have e27 : a1.tmps.getD 27 undef = .pointer (some ⟨B10, 0, none⟩) := hA.val 1 27 (by kernel_rfl) (by kernel_rfl)
          refine opStep (some l) 0 rfl rfl (fun c hc => by cases hc) ?_
          go_simp
          exact hK _ _ rfl (Below.refl _ _) trivial
        · -- 3
          intro li a1 W2 hA K hK
          have e28 : a1.tmps.getD 28 undef = .pointer (some ⟨B10, 0, none⟩) := hA.val 2 28 (by kernel_rfl) (by kernel_rfl)
          obtain ⟨q1, q2⟩ := (J10.out.keep hA.st).c2
          refine opStep (some l) 0 rfl rfl (fun c hc => by cases hc) ?_
          go_simp
          exact hK _ _ rfl (Below.refl _ _) trivial
        · -- 4
          intro li a1 W2 hA K hK
          have e7 := hA.par 7 (by kernel_rfl)
          refine opStep (some l) 0 rfl rfl (fun c hc => by cases hc) ?_
          go_simp
          exact hK _ _ rfl (Below.refl _ _) trivial
        · -- 5
          intro li a1 W2 hA K hK
          have e30 : a1.tmps.getD 30 undef = .pointer (some ⟨B7, 0, none⟩) := hA.val 4 30 (by kernel_rfl) (by kernel_rfl)
          have q1 := (E7.out.keep hA.st).c1
          refine opStep (some l) 0 rfl rfl (fun c hc => by cases hc) ?_
          go_simp
          exact hK _ _ rfl (Below.refl _ _) trivial
        · -- 6
          intro li a1 W2 hA K hK
          have e12 := hA.par 12 (by kernel_rfl)
          refine opStep (some l) 0 rfl rfl (fun c hc => by cases hc) ?_
          go_simp
          exact hK _ _ rfl (Below.refl _ _) trivial
        · -- 7
          intro li a1 W2 hA K hK
          have e32 : a1.tmps.getD 32 undef = .pointer (some ⟨z, 3, none⟩) := hA.val 6 32 (by kernel_rfl) (by kernel_rfl)
          have hz5 := Z3.out.keep hA.st
          unfold stC at hz5
          obtain ⟨_, _, _, q1, q2⟩ := hz5.c5
          refine opStep (some l) 0 rfl rfl (fun c hc => by cases hc) ?_
          go_simp
          exact hK _ _ rfl (Below.refl _ _) trivial
        · -- 8
          intro li a1 W2 hA K hK
          have e31 : a1.tmps.getD 31 undef = .func (.func 110) #[] #[] := hA.val 5 31 (by kernel_rfl) (by kernel_rfl)
          have e33 : a1.tmps.getD 33 undef = .agg #[.int .i64 s.lo, .int .i64 s.hi] := hA.val 7 33 (by kernel_rfl) (by kernel_rfl)
          refine opStep (some l) 0 rfl rfl (fun c hc => by cases hc) ?_
          go_simp
          refine (blow_any _ _ _).mono ?_
          rintro e W4 ⟨rfl, hb⟩
          exact hK _ _ rfl hb trivial
        · -- 9
          intro li a1 W2 hA K hK
          have e29 : a1.tmps.getD 29 undef = .int .i64 T := hA.val 3 29 (by kernel_rfl) (by kernel_rfl)
          have e34 : a1.tmps.getD 34 undef = .int .i64 s.lo := hA.val 8 34 (by kernel_rfl) (by kernel_rfl)
          refine opStep (some l) 0 rfl rfl (fun c hc => by cases hc) ?_
          go_simp
          exact hK _ _ (by first | rfl | exact congrArg (Value.int .i64) hw0 | (simp [hw0])) (Below.refl _ _) trivial
        · -- 10
          intro li a1 W2 hA K hK
          have e26 : a1.tmps.getD 26 undef = .pointer (some ⟨B10, 0, none⟩) := hA.val 0 26 (by kernel_rfl) (by kernel_rfl)
          refine opStep (some l) 0 rfl rfl (fun c hc => by cases hc) ?_
          go_simp
          exact hK _ _ rfl (Below.refl _ _) trivial
        · -- 11
          intro li a1 W2 hA K hK
          have e36 : a1.tmps.getD 36 undef = .pointer (some ⟨B10, 0, none⟩) := hA.val 10 36 (by kernel_rfl) (by kernel_rfl)
          refine opStep (some l) 0 rfl rfl (fun c hc => by cases hc) ?_
          go_simp
          exact hK _ _ rfl (Below.refl _ _) trivial
      · intro li a1 W2 hD
        have e37 : a1.tmps.getD 37 undef = .pointer (some ⟨B10, 0, none⟩) := hD.val 11 37 (by kernel_rfl) (by kernel_rfl)
        have e35 : a1.tmps.getD 35 undef = .int .i64 (T + s.lo) := hD.val 9 35 (by kernel_rfl) (by kernel_rfl)
        have hst := hD.st
        have hbx := J10.out.keep hst
        obtain ⟨y0, y1⟩ := hbx.c2
        have yf := hbx.frozen 0
        have yl := hbx.lt
        have hkp := hD.keeps (ds := [26, 27, 28, 29, 30, 31, 32, 33, 34, 35, 36, 37]) (by kernel_rfl)
        have hds := hD.size
        have hdd := hD.defers
        refine tail_store (i := 12) (W' := W2.setCell ⟨B10, 0, none⟩ (.int .i64 (T + s.lo))) (some l) 0 rfl rfl rfl (fun c hc => by cases hc) (by go_simp) ?_
        have e := act_mix [26, 27, 28, 29, 30, 31, 32, 33, 34, 35, 36, 37] hds hdd (fun i _ hc => hkp i hc)
        generalize (fun i => a1.tmps.getD i undef) = g9 at e
        refine wpListIn_nil ?_
        rw [e]
        have HST := hid hst
        have HBX := hid (hbx.set_ 0 (.int .i64 (T + s.lo)))
        clear e hD hkp e37 e35 hds hdd y0 y1 yf yl hst hbx
        simp only [mix, List.contains_cons, List.contains_nil, Nat.reduceAdd, Nat.reduceBEq, Bool.or_false, Bool.or_true, cond_true, cond_false]
        have hch : Chg (fun q => q = B10) W3 (W2.setCell ⟨B10, 0, none⟩ (.int .i64 (T + s.lo))) := (Chg.of_below HST.out).set (Z := fun q => q = B10) rfl _
        have HC0 := hid hch
        have HKF0 := hid ((keepsFrom_of_keep (B := w2.heap.size) HST.out).trans (KeepsFrom.of_set ⟨B10, 0, none⟩ (.int .i64 (T + s.lo))))
        generalize W2.setCell ⟨B10, 0, none⟩ (.int .i64 (T + s.lo)) = W5 at *
        replace HBX : Hid (Blk W5 B10 49 _) := HBX
        clear hch HST
        have J2 := hid HBX.out
        have JO := hid (HC0.out.blk J9.out (fun e => by have := HE.out; omega))
        have Z4 := hid (HC0.out.blk Z3.out (fun e => by have := HE.out; have := HZ.out; omega))
        have E8' := hid (HC0.out.blk E8.out (fun e => by have := HE.out; omega))
        clear HBX Z3 E8 E7
        have Z3 := hid Z4.out
        have E8 := hid E8'.out
        clear Z4 E8'
        gi_wp2
        refine wpIn_region_each 12 (fun i v W' => match i with | 0 => v = .pointer (some ⟨B10, 0, none⟩) | 1 => v = .pointer (some ⟨B10, 0, none⟩) | 2 => v = .pointer (some ⟨B10, 1, none⟩) | 3 => v = .int .i64 T2 | 4 => v = .pointer (some ⟨B8, 0, none⟩) | 5 => v = .func (.func 111) #[] #[] | 6 => v = .pointer (some ⟨z, 3, none⟩) | 7 => v = .agg #[.int .i64 s.lo, .int .i64 s.hi] | 8 => v = .int .i64 s.hi | 9 => v = .int .i64 (T2 + s.hi) | 10 => v = .pointer (some ⟨B10, 0, none⟩) | 11 => v = .pointer (some ⟨B10, 1, none⟩) | _ => True) (fun A B => Below A.heap.size A B) (fun _ _ => True) (by kernel_rfl) (by kernel_rfl) ?_ (fun h k => h.trans (k.mono h.size)) ⟨rfl, rfl, rfl, Nat.le_refl _, fun _ _ => rfl⟩ trivial (by kernel_rfl) ?_ ?_
        · intro i v W1 W2 hb h
          match i, h with
          | 0, h => exact h
          | 1, h => exact h
          | 2, h => exact h
          | 3, h => exact h
          | 4, h => exact h
          | 5, h => exact h
          | 6, h => exact h
          | 7, h => exact h
          | 8, h => exact h
          | 9, h => exact h
          | 10, h => exact h
          | 11, h => exact h
          | i + 12, h => trivial
        · refine ⟨?_, ?_, ?_, ?_, ?_, ?_, ?_, ?_, ?_, ?_, ?_, ?_, trivial⟩
          · -- 0
            intro li a1 W2 hA K hK
            have e13 := hA.par 13 (by kernel_rfl)
            refine opStep (some l) 0 rfl rfl (fun c hc => by cases hc) ?_
            go_simp
            exact hK _ _ rfl (Below.refl _ _) trivial
          · -- 1
            intro li a1 W2 hA K hK
            have e38 : a1.tmps.getD 38 undef = .pointer (some ⟨B10, 0, none⟩) := hA.val 0 38 (by kernel_rfl) (by kernel_rfl)
            refine opStep (some l) 0 rfl rfl (fun c hc => by cases hc) ?_
            go_simp
            exact hK _ _ rfl (Below.refl _ _) trivial
          · -- 2
            intro li a1 W2 hA K hK
            have e39 : a1.tmps.getD 39 undef = .pointer (some ⟨B10, 0, none⟩) := hA.val 1 39 (by kernel_rfl) (by kernel_rfl)
            refine opStep (some l) 0 rfl rfl (fun c hc => by cases hc) ?_
            go_simp
            exact hK _ _ rfl (Below.refl _ _) trivial
          · -- 3
            intro li a1 W2 hA K hK
            have e40 : a1.tmps.getD 40 undef = .pointer (some ⟨B10, 1, none⟩) := hA.val 2 40 (by kernel_rfl) (by kernel_rfl)
            obtain ⟨q1, q2⟩ := (J2.out.keep hA.st).c2
            refine opStep (some l) 0 rfl rfl (fun c hc => by cases hc) ?_
            go_simp
            exact hK _ _ rfl (Below.refl _ _) trivial
          · -- 4
            intro li a1 W2 hA K hK
            have e8 := hA.par 8 (by kernel_rfl)
            refine opStep (some l) 0 rfl rfl (fun c hc => by cases hc) ?_
            go_simp
            exact hK _ _ rfl (Below.refl _ _) trivial
          · -- 5
            intro li a1 W2 hA K hK
            have e42 : a1.tmps.getD 42 undef = .pointer (some ⟨B8, 0, none⟩) := hA.val 4 42 (by kernel_rfl) (by kernel_rfl)
            have q1 := (E8.out.keep hA.st).c1
            refine opStep (some l) 0 rfl rfl (fun c hc => by cases hc) ?_
            go_simp
            exact hK _ _ rfl (Below.refl _ _) trivial
          · -- 6
            intro li a1 W2 hA K hK
            have e12 := hA.par 12 (by kernel_rfl)
            refine opStep (some l) 0 rfl rfl (fun c hc => by cases hc) ?_
            go_simp
            exact hK _ _ rfl (Below.refl _ _) trivial
          · -- 7
            intro li a1 W2 hA K hK
            have e44 : a1.tmps.getD 44 undef = .pointer (some ⟨z, 3, none⟩) := hA.val 6 44 (by kernel_rfl) (by kernel_rfl)
            have hz5 := Z3.out.keep hA.st
            unfold stC at hz5
            obtain ⟨_, _, _, q1, q2⟩ := hz5.c5
            refine opStep (some l) 0 rfl rfl (fun c hc => by cases hc) ?_
            go_simp
            exact hK _ _ rfl (Below.refl _ _) trivial
          · -- 8
            intro li a1 W2 hA K hK
            have e43 : a1.tmps.getD 43 undef = .func (.func 111) #[] #[] := hA.val 5 43 (by kernel_rfl) (by kernel_rfl)
            have e45 : a1.tmps.getD 45 undef = .agg #[.int .i64 s.lo, .int .i64 s.hi] := hA.val 7 45 (by kernel_rfl) (by kernel_rfl)
            refine opStep (some l) 0 rfl rfl (fun c hc => by cases hc) ?_
            go_simp
            refine (bhigh_any _ _ _).mono ?_
            rintro e W4 ⟨rfl, hb⟩
            exact hK _ _ rfl hb trivial
          · -- 9
            intro li a1 W2 hA K hK
            have e41 : a1.tmps.getD 41 undef = .int .i64 T2 := hA.val 3 41 (by kernel_rfl) (by kernel_rfl)
            have e46 : a1.tmps.getD 46 undef = .int .i64 s.hi := hA.val 8 46 (by kernel_rfl) (by kernel_rfl)
            refine opStep (some l) 0 rfl rfl (fun c hc => by cases hc) ?_
            go_simp
            exact hK _ _ (by first | rfl | exact congrArg (Value.int .i64) hw1 | (simp [hw1])) (Below.refl _ _) trivial
          · -- 10
            intro li a1 W2 hA K hK
            have e38 : a1.tmps.getD 38 undef = .pointer (some ⟨B10, 0, none⟩) := hA.val 0 38 (by kernel_rfl) (by kernel_rfl)
            refine opStep (some l) 0 rfl rfl (fun c hc => by cases hc) ?_
            go_simp
            exact hK _ _ rfl (Below.refl _ _) trivial
          · -- 11
            intro li a1 W2 hA K hK
            have e48 : a1.tmps.getD 48 undef = .pointer (some ⟨B10, 0, none⟩) := hA.val 10 48 (by kernel_rfl) (by kernel_rfl)
            refine opStep (some l) 0 rfl rfl (fun c hc => by cases hc) ?_
            go_simp
            exact hK _ _ rfl (Below.refl _ _) trivial
        · intro li a1 W2 hD
          have e49 : a1.tmps.getD 49 undef = .pointer (some ⟨B10, 1, none⟩) := hD.val 11 49 (by kernel_rfl) (by kernel_rfl)
          have e47 : a1.tmps.getD 47 undef = .int .i64 (T2 + s.hi) := hD.val 9 47 (by kernel_rfl) (by kernel_rfl)
          have hst := hD.st
          have hbx := J2.out.keep hst
          obtain ⟨y0, y1⟩ := hbx.c2
          have yf := hbx.frozen 1
          have yl := hbx.lt
          have hkp := hD.keeps (ds := [38, 39, 40, 41, 42, 43, 44, 45, 46, 47, 48, 49]) (by kernel_rfl)
          have hds := hD.size
          have hdd := hD.defers
          refine tail_store (i := 12) (W' := W2.setCell ⟨B10, 1, none⟩ (.int .i64 (T2 + s.hi))) (some l) 0 rfl rfl rfl (fun c hc => by cases hc) (by go_simp) ?_
          have e := act_mix [38, 39, 40, 41, 42, 43, 44, 45, 46, 47, 48, 49] hds hdd (fun i _ hc => hkp i hc)
          generalize (fun i => a1.tmps.getD i undef) = g10 at e
          refine wpListIn_nil ?_
          rw [e]
          have HST := hid hst
          have HBX := hid (hbx.set_ 1 (.int .i64 (T2 + s.hi)))
          clear e hD hkp e49 e47 hds hdd y0 y1 yf yl hst hbx
          simp only [mix, List.contains_cons, List.contains_nil, Nat.reduceAdd, Nat.reduceBEq, Bool.or_false, Bool.or_true, cond_true, cond_false]
          have hch : Chg (fun q => q = B10) W5 (W2.setCell ⟨B10, 1, none⟩ (.int .i64 (T2 + s.hi))) := (Chg.of_below HST.out).set (Z := fun q => q = B10) rfl _
          have HC1 := hid hch
          have HKF1 := hid ((keepsFrom_of_keep (B := w2.heap.size) HST.out).trans (KeepsFrom.of_set ⟨B10, 1, none⟩ (.int .i64 (T2 + s.hi))))
          generalize W2.setCell ⟨B10, 1, none⟩ (.int .i64 (T2 + s.hi)) = W7 at *
          replace HBX : Hid (Blk W7 B10 49 _) := HBX
          clear hch HST
          have JO2 := hid (HC1.out.blk JO.out (fun e => by have := HE.out; omega))
          have HSB := hid (fun q (e : q = B10) => show q = B9 ∨ q = B10 from .inr e)
          have HK := hid (show KeepsFrom w2.heap.size W W7 ∧ Keep (fun q => q = B9 ∨ q = B10) W W7 ∧ Chg (fun q => q = B9 ∨ q = B10) w2 W7 from
            ⟨(keepsFrom_of_keep HB3.out).trans (HKF0.out.trans HKF1.out), ((Chg.of_below HB3.out).trans ((HC0.out.sub HSB.out).trans (HC1.out.sub HSB.out))).keep, HI.out.2.2.trans ((Chg.of_below HB3.out).trans ((HC0.out.sub HSB.out).trans (HC1.out.sub HSB.out)))⟩)
          gi_wp2
          refine ⟨HK.out.1, HK.out.2.1, ?_, ?_, HK.out.2.2⟩
          · rw [(HD.out p HP.out).1, (HD.out p HP.out).2, HSS.out.1, HSS.out.2.1]; exact JO2.out
          · rw [(HT.out (nt p) (by unfold nt; rw [HP.out]; rfl)).1, (HT.out (nt p) (by unfold nt; rw [HP.out]; rfl)).2, HSS.out.2.2.1, HSS.out.2.2.2]; exact HBX.out
    · have hw0 : IntKind.i64.wrap (S + s.lo) = S + s.lo := IntWalk.i64_in _ (by omega)
      have hw1 : IntKind.i64.wrap (S2 + s.hi) = S2 + s.hi := IntWalk.i64_in _ (by omega)
      have HP := hid hp
      clear hp
      gi_wp2
      refine wpIn_region_each 12 (fun i v W' => match i with | 0 => v = .pointer (some ⟨B9, 0, none⟩) | 1 => v = .pointer (some ⟨B9, 0, none⟩) | 2 => v = .pointer (some ⟨B9, 0, none⟩) | 3 => v = .int .i64 S | 4 => v = .pointer (some ⟨B7, 0, none⟩) | 5 => v = .func (.func 110) #[] #[] | 6 => v = .pointer (some ⟨z, 3, none⟩) | 7 => v = .agg #[.int .i64 s.lo, .int .i64 s.hi] | 8 => v = .int .i64 s.lo | 9 => v = .int .i64 (S + s.lo) | 10 => v = .pointer (some ⟨B9, 0, none⟩) | 11 => v = .pointer (some ⟨B9, 0, none⟩) | _ => True) (fun A B => Below A.heap.size A B) (fun _ _ => True) (by kernel_rfl) (by kernel_rfl) ?_ (fun h k => h.trans (k.mono h.size)) ⟨rfl, rfl, rfl, Nat.le_refl _, fun _ _ => rfl⟩ trivial (by kernel_rfl) ?_ ?_
      · intro i v W1 W2 hb h
        match i, h with
        | 0, h => exact h
        | 1, h => exact h
        | 2, h => exact h
        | 3, h => exact h
        | 4, h => exact h
        | 5, h => exact h
        | 6, h => exact h
        | 7, h => exact h
        | 8, h => exact h
        | 9, h => exact h
        | 10, h => exact h
        | 11, h => exact h
        | i + 12, h => trivial
      · refine ⟨?_, ?_, ?_, ?_, ?_, ?_, ?_, ?_, ?_, ?_, ?_, ?_, trivial⟩
        · -- 0
          intro li a1 W2 hA K hK
          have e13 := hA.par 13 (by kernel_rfl)
          refine opStep (some l) 0 rfl rfl (fun c hc => by cases hc) ?_
          go_simp
          exact hK _ _ rfl (Below.refl _ _) trivial
        · -- 1
          intro li a1 W2 hA K hK
          have e26 : a1.tmps.getD 26 undef = .pointer (some ⟨B9, 0, none⟩) := hA.val 0 26 (by kernel_rfl) (by kernel_rfl)
          refine opStep (some l) 0 rfl rfl (fun c hc => by cases hc) ?_
          go_simp
          exact hK _ _ rfl (Below.refl _ _) trivial
        · -- 2
          intro li a1 W2 hA K hK
          have e27 : a1.tmps.getD 27 undef = .pointer (some ⟨B9, 0, none⟩) := hA.val 1 27 (by kernel_rfl) (by kernel_rfl)
          refine opStep (some l) 0 rfl rfl (fun c hc => by cases hc) ?_
          go_simp
          exact hK _ _ rfl (Below.refl _ _) trivial
        · -- 3
          intro li a1 W2 hA K hK
          have e28 : a1.tmps.getD 28 undef = .pointer (some ⟨B9, 0, none⟩) := hA.val 2 28 (by kernel_rfl) (by kernel_rfl)
          obtain ⟨q1, q2⟩ := (J9.out.keep hA.st).c2
          refine opStep (some l) 0 rfl rfl (fun c hc => by cases hc) ?_
          go_simp
          exact hK _ _ rfl (Below.refl _ _) trivial
        · -- 4
          intro li a1 W2 hA K hK
          have e7 := hA.par 7 (by kernel_rfl)
          refine opStep (some l) 0 rfl rfl (fun c hc => by cases hc) ?_
          go_simp
          exact hK _ _ rfl (Below.refl _ _) trivial
        · -- 5
          intro li a1 W2 hA K hK
          have e30 : a1.tmps.getD 30 undef = .pointer (some ⟨B7, 0, none⟩) := hA.val 4 30 (by kernel_rfl) (by kernel_rfl)
          have q1 := (E7.out.keep hA.st).c1
          refine opStep (some l) 0 rfl rfl (fun c hc => by cases hc) ?_
          go_simp
          exact hK _ _ rfl (Below.refl _ _) trivial
        · -- 6
          intro li a1 W2 hA K hK
          have e12 := hA.par 12 (by kernel_rfl)
          refine opStep (some l) 0 rfl rfl (fun c hc => by cases hc) ?_
          go_simp
          exact hK _ _ rfl (Below.refl _ _) trivial
        · -- 7
          intro li a1 W2 hA K hK
          have e32 : a1.tmps.getD 32 undef = .pointer (some ⟨z, 3, none⟩) := hA.val 6 32 (by kernel_rfl) (by kernel_rfl)
          have hz5 := Z3.out.keep hA.st
          unfold stC at hz5
          obtain ⟨_, _, _, q1, q2⟩ := hz5.c5
          refine opStep (some l) 0 rfl rfl (fun c hc => by cases hc) ?_
          go_simp
          exact hK _ _ rfl (Below.refl _ _) trivial
        · -- 8
          intro li a1 W2 hA K hK
          have e31 : a1.tmps.getD 31 undef = .func (.func 110) #[] #[] := hA.val 5 31 (by kernel_rfl) (by kernel_rfl)
          have e33 : a1.tmps.getD 33 undef = .agg #[.int .i64 s.lo, .int .i64 s.hi] := hA.val 7 33 (by kernel_rfl) (by kernel_rfl)
          refine opStep (some l) 0 rfl rfl (fun c hc => by cases hc) ?_
          go_simp
          refine (blow_any _ _ _).mono ?_
          rintro e W4 ⟨rfl, hb⟩
          exact hK _ _ rfl hb trivial
        · -- 9
          intro li a1 W2 hA K hK
          have e29 : a1.tmps.getD 29 undef = .int .i64 S := hA.val 3 29 (by kernel_rfl) (by kernel_rfl)
          have e34 : a1.tmps.getD 34 undef = .int .i64 s.lo := hA.val 8 34 (by kernel_rfl) (by kernel_rfl)
          refine opStep (some l) 0 rfl rfl (fun c hc => by cases hc) ?_
          go_simp
          exact hK _ _ (by first | rfl | exact congrArg (Value.int .i64) hw0 | (simp [hw0])) (Below.refl _ _) trivial
        · -- 10
          intro li a1 W2 hA K hK
          have e26 : a1.tmps.getD 26 undef = .pointer (some ⟨B9, 0, none⟩) := hA.val 0 26 (by kernel_rfl) (by kernel_rfl)
          refine opStep (some l) 0 rfl rfl (fun c hc => by cases hc) ?_
          go_simp
          exact hK _ _ rfl (Below.refl _ _) trivial
        · -- 11
          intro li a1 W2 hA K hK
          have e36 : a1.tmps.getD 36 undef = .pointer (some ⟨B9, 0, none⟩) := hA.val 10 36 (by kernel_rfl) (by kernel_rfl)
          refine opStep (some l) 0 rfl rfl (fun c hc => by cases hc) ?_
          go_simp
          exact hK _ _ rfl (Below.refl _ _) trivial
      · intro li a1 W2 hD
        have e37 : a1.tmps.getD 37 undef = .pointer (some ⟨B9, 0, none⟩) := hD.val 11 37 (by kernel_rfl) (by kernel_rfl)
        have e35 : a1.tmps.getD 35 undef = .int .i64 (S + s.lo) := hD.val 9 35 (by kernel_rfl) (by kernel_rfl)
        have hst := hD.st
        have hbx := J9.out.keep hst
        obtain ⟨y0, y1⟩ := hbx.c2
        have yf := hbx.frozen 0
        have yl := hbx.lt
        have hkp := hD.keeps (ds := [26, 27, 28, 29, 30, 31, 32, 33, 34, 35, 36, 37]) (by kernel_rfl)
        have hds := hD.size
        have hdd := hD.defers
        refine tail_store (i := 12) (W' := W2.setCell ⟨B9, 0, none⟩ (.int .i64 (S + s.lo))) (some l) 0 rfl rfl rfl (fun c hc => by cases hc) (by go_simp) ?_
        have e := act_mix [26, 27, 28, 29, 30, 31, 32, 33, 34, 35, 36, 37] hds hdd (fun i _ hc => hkp i hc)
        generalize (fun i => a1.tmps.getD i undef) = g9 at e
        refine wpListIn_nil ?_
        rw [e]
        have HST := hid hst
        have HBX := hid (hbx.set_ 0 (.int .i64 (S + s.lo)))
        clear e hD hkp e37 e35 hds hdd y0 y1 yf yl hst hbx
        simp only [mix, List.contains_cons, List.contains_nil, Nat.reduceAdd, Nat.reduceBEq, Bool.or_false, Bool.or_true, cond_true, cond_false]
        have hch : Chg (fun q => q = B9) W3 (W2.setCell ⟨B9, 0, none⟩ (.int .i64 (S + s.lo))) := (Chg.of_below HST.out).set (Z := fun q => q = B9) rfl _
        have HC0 := hid hch
        have HKF0 := hid ((keepsFrom_of_keep (B := w2.heap.size) HST.out).trans (KeepsFrom.of_set ⟨B9, 0, none⟩ (.int .i64 (S + s.lo))))
        generalize W2.setCell ⟨B9, 0, none⟩ (.int .i64 (S + s.lo)) = W5 at *
        replace HBX : Hid (Blk W5 B9 49 _) := HBX
        clear hch HST
        have J2 := hid HBX.out
        have JO := hid (HC0.out.blk J10.out (fun e => by have := HE.out; omega))
        have Z4 := hid (HC0.out.blk Z3.out (fun e => by have := HE.out; have := HZ.out; omega))
        have E8' := hid (HC0.out.blk E8.out (fun e => by have := HE.out; omega))
        clear HBX Z3 E8 E7
        have Z3 := hid Z4.out
        have E8 := hid E8'.out
        clear Z4 E8'
        gi_wp2
        refine wpIn_region_each 12 (fun i v W' => match i with | 0 => v = .pointer (some ⟨B9, 0, none⟩) | 1 => v = .pointer (some ⟨B9, 0, none⟩) | 2 => v = .pointer (some ⟨B9, 1, none⟩) | 3 => v = .int .i64 S2 | 4 => v = .pointer (some ⟨B8, 0, none⟩) | 5 => v = .func (.func 111) #[] #[] | 6 => v = .pointer (some ⟨z, 3, none⟩) | 7 => v = .agg #[.int .i64 s.lo, .int .i64 s.hi] | 8 => v = .int .i64 s.hi | 9 => v = .int .i64 (S2 + s.hi) | 10 => v = .pointer (some ⟨B9, 0, none⟩) | 11 => v = .pointer (some ⟨B9, 1, none⟩) | _ => True) (fun A B => Below A.heap.size A B) (fun _ _ => True) (by kernel_rfl) (by kernel_rfl) ?_ (fun h k => h.trans (k.mono h.size)) ⟨rfl, rfl, rfl, Nat.le_refl _, fun _ _ => rfl⟩ trivial (by kernel_rfl) ?_ ?_
        · intro i v W1 W2 hb h
          match i, h with
          | 0, h => exact h
          | 1, h => exact h
          | 2, h => exact h
          | 3, h => exact h
          | 4, h => exact h
          | 5, h => exact h
          | 6, h => exact h
          | 7, h => exact h
          | 8, h => exact h
          | 9, h => exact h
          | 10, h => exact h
          | 11, h => exact h
          | i + 12, h => trivial
        · refine ⟨?_, ?_, ?_, ?_, ?_, ?_, ?_, ?_, ?_, ?_, ?_, ?_, trivial⟩
          · -- 0
            intro li a1 W2 hA K hK
            have e13 := hA.par 13 (by kernel_rfl)
            refine opStep (some l) 0 rfl rfl (fun c hc => by cases hc) ?_
            go_simp
            exact hK _ _ rfl (Below.refl _ _) trivial
          · -- 1
            intro li a1 W2 hA K hK
            have e38 : a1.tmps.getD 38 undef = .pointer (some ⟨B9, 0, none⟩) := hA.val 0 38 (by kernel_rfl) (by kernel_rfl)
            refine opStep (some l) 0 rfl rfl (fun c hc => by cases hc) ?_
            go_simp
            exact hK _ _ rfl (Below.refl _ _) trivial
          · -- 2
            intro li a1 W2 hA K hK
            have e39 : a1.tmps.getD 39 undef = .pointer (some ⟨B9, 0, none⟩) := hA.val 1 39 (by kernel_rfl) (by kernel_rfl)
            refine opStep (some l) 0 rfl rfl (fun c hc => by cases hc) ?_
            go_simp
            exact hK _ _ rfl (Below.refl _ _) trivial
          · -- 3
            intro li a1 W2 hA K hK
            have e40 : a1.tmps.getD 40 undef = .pointer (some ⟨B9, 1, none⟩) := hA.val 2 40 (by kernel_rfl) (by kernel_rfl)
            obtain ⟨q1, q2⟩ := (J2.out.keep hA.st).c2
            refine opStep (some l) 0 rfl rfl (fun c hc => by cases hc) ?_
            go_simp
            exact hK _ _ rfl (Below.refl _ _) trivial
          · -- 4
            intro li a1 W2 hA K hK
            have e8 := hA.par 8 (by kernel_rfl)
            refine opStep (some l) 0 rfl rfl (fun c hc => by cases hc) ?_
            go_simp
            exact hK _ _ rfl (Below.refl _ _) trivial
          · -- 5
            intro li a1 W2 hA K hK
            have e42 : a1.tmps.getD 42 undef = .pointer (some ⟨B8, 0, none⟩) := hA.val 4 42 (by kernel_rfl) (by kernel_rfl)
            have q1 := (E8.out.keep hA.st).c1
            refine opStep (some l) 0 rfl rfl (fun c hc => by cases hc) ?_
            go_simp
            exact hK _ _ rfl (Below.refl _ _) trivial
          · -- 6
            intro li a1 W2 hA K hK
            have e12 := hA.par 12 (by kernel_rfl)
            refine opStep (some l) 0 rfl rfl (fun c hc => by cases hc) ?_
            go_simp
            exact hK _ _ rfl (Below.refl _ _) trivial
          · -- 7
            intro li a1 W2 hA K hK
            have e44 : a1.tmps.getD 44 undef = .pointer (some ⟨z, 3, none⟩) := hA.val 6 44 (by kernel_rfl) (by kernel_rfl)
            have hz5 := Z3.out.keep hA.st
            unfold stC at hz5
            obtain ⟨_, _, _, q1, q2⟩ := hz5.c5
            refine opStep (some l) 0 rfl rfl (fun c hc => by cases hc) ?_
            go_simp
            exact hK _ _ rfl (Below.refl _ _) trivial
          · -- 8
            intro li a1 W2 hA K hK
            have e43 : a1.tmps.getD 43 undef = .func (.func 111) #[] #[] := hA.val 5 43 (by kernel_rfl) (by kernel_rfl)
            have e45 : a1.tmps.getD 45 undef = .agg #[.int .i64 s.lo, .int .i64 s.hi] := hA.val 7 45 (by kernel_rfl) (by kernel_rfl)
            refine opStep (some l) 0 rfl rfl (fun c hc => by cases hc) ?_
            go_simp
            refine (bhigh_any _ _ _).mono ?_
            rintro e W4 ⟨rfl, hb⟩
            exact hK _ _ rfl hb trivial
          · -- 9
            intro li a1 W2 hA K hK
            have e41 : a1.tmps.getD 41 undef = .int .i64 S2 := hA.val 3 41 (by kernel_rfl) (by kernel_rfl)
            have e46 : a1.tmps.getD 46 undef = .int .i64 s.hi := hA.val 8 46 (by kernel_rfl) (by kernel_rfl)
            refine opStep (some l) 0 rfl rfl (fun c hc => by cases hc) ?_
            go_simp
            exact hK _ _ (by first | rfl | exact congrArg (Value.int .i64) hw1 | (simp [hw1])) (Below.refl _ _) trivial
          · -- 10
            intro li a1 W2 hA K hK
            have e38 : a1.tmps.getD 38 undef = .pointer (some ⟨B9, 0, none⟩) := hA.val 0 38 (by kernel_rfl) (by kernel_rfl)
            refine opStep (some l) 0 rfl rfl (fun c hc => by cases hc) ?_
            go_simp
            exact hK _ _ rfl (Below.refl _ _) trivial
          · -- 11
            intro li a1 W2 hA K hK
            have e48 : a1.tmps.getD 48 undef = .pointer (some ⟨B9, 0, none⟩) := hA.val 10 48 (by kernel_rfl) (by kernel_rfl)
            refine opStep (some l) 0 rfl rfl (fun c hc => by cases hc) ?_
            go_simp
            exact hK _ _ rfl (Below.refl _ _) trivial
        · intro li a1 W2 hD
          have e49 : a1.tmps.getD 49 undef = .pointer (some ⟨B9, 1, none⟩) := hD.val 11 49 (by kernel_rfl) (by kernel_rfl)
          have e47 : a1.tmps.getD 47 undef = .int .i64 (S2 + s.hi) := hD.val 9 47 (by kernel_rfl) (by kernel_rfl)
          have hst := hD.st
          have hbx := J2.out.keep hst
          obtain ⟨y0, y1⟩ := hbx.c2
          have yf := hbx.frozen 1
          have yl := hbx.lt
          have hkp := hD.keeps (ds := [38, 39, 40, 41, 42, 43, 44, 45, 46, 47, 48, 49]) (by kernel_rfl)
          have hds := hD.size
          have hdd := hD.defers
          refine tail_store (i := 12) (W' := W2.setCell ⟨B9, 1, none⟩ (.int .i64 (S2 + s.hi))) (some l) 0 rfl rfl rfl (fun c hc => by cases hc) (by go_simp) ?_
          have e := act_mix [38, 39, 40, 41, 42, 43, 44, 45, 46, 47, 48, 49] hds hdd (fun i _ hc => hkp i hc)
          generalize (fun i => a1.tmps.getD i undef) = g10 at e
          refine wpListIn_nil ?_
          rw [e]
          have HST := hid hst
          have HBX := hid (hbx.set_ 1 (.int .i64 (S2 + s.hi)))
          clear e hD hkp e49 e47 hds hdd y0 y1 yf yl hst hbx
          simp only [mix, List.contains_cons, List.contains_nil, Nat.reduceAdd, Nat.reduceBEq, Bool.or_false, Bool.or_true, cond_true, cond_false]
          have hch : Chg (fun q => q = B9) W5 (W2.setCell ⟨B9, 1, none⟩ (.int .i64 (S2 + s.hi))) := (Chg.of_below HST.out).set (Z := fun q => q = B9) rfl _
          have HC1 := hid hch
          have HKF1 := hid ((keepsFrom_of_keep (B := w2.heap.size) HST.out).trans (KeepsFrom.of_set ⟨B9, 1, none⟩ (.int .i64 (S2 + s.hi))))
          generalize W2.setCell ⟨B9, 1, none⟩ (.int .i64 (S2 + s.hi)) = W7 at *
          replace HBX : Hid (Blk W7 B9 49 _) := HBX
          clear hch HST
          have JO2 := hid (HC1.out.blk JO.out (fun e => by have := HE.out; omega))
          have HSB := hid (fun q (e : q = B9) => show q = B9 ∨ q = B10 from .inl e)
          have HK := hid (show KeepsFrom w2.heap.size W W7 ∧ Keep (fun q => q = B9 ∨ q = B10) W W7 ∧ Chg (fun q => q = B9 ∨ q = B10) w2 W7 from
            ⟨(keepsFrom_of_keep HB3.out).trans (HKF0.out.trans HKF1.out), ((Chg.of_below HB3.out).trans ((HC0.out.sub HSB.out).trans (HC1.out.sub HSB.out))).keep, HI.out.2.2.trans ((Chg.of_below HB3.out).trans ((HC0.out.sub HSB.out).trans (HC1.out.sub HSB.out)))⟩)
          gi_wp2
          refine ⟨HK.out.1, HK.out.2.1, ?_, ?_, HK.out.2.2⟩
          · rw [(HT.out p HP.out).1, (HT.out p HP.out).2, HSS.out.1, HSS.out.2.1]; exact HBX.out
          · rw [(HD.out (nt p) (by unfold nt; rw [HP.out]; rfl)).1, (HD.out (nt p) (by unfold nt; rw [HP.out]; rfl)).2, HSS.out.2.2.1, HSS.out.2.2.2]; exact JO2.out
  case done =>
    rintro D W hDl ⟨hb9, hb10, hch⟩ hdf
    have hs8 := OK.out.s8
    have sb : ∀ (g : Stt → Int) (r : Nat → Bool), (g = Stt.lo ∨ g = Stt.hi) → 0 ≤ sumO m d r g m.ss.length ∧ sumO m d r g m.ss.length ≤ 80000 := fun g r hg => by
      obtain ⟨b1, b2⟩ := sumO_bounds (m := m) (g := g) (M := 10000) (by omega) d r m.ss.length (fun i hi => by have := OK.out.sAt (i := i) (by omega); rcases hg with rfl | rfl <;> omega)
      omega
    obtain ⟨a1, a2⟩ := sb Stt.lo p (.inl rfl)
    obtain ⟨a3, a4⟩ := sb Stt.hi p (.inr rfl)
    obtain ⟨a5, a6⟩ := sb Stt.lo (nt p) (.inl rfl)
    obtain ⟨a7, a8⟩ := sb Stt.hi (nt p) (.inr rfl)
    have hbw : Below w.heap.size w W := HB2.out.trans (hch.below (fun q e => by have := HE.out; rcases e with e | e <;> omega) HB2.out.size)
    have hkm := hch.blk KM.out (fun e => by have := HE.out; rcases e with e | e <;> omega)
    have hkr := hch.blk KR.out (fun e => by have := HE.out; rcases e with e | e <;> omega)
    obtain ⟨x, hx⟩ : ∃ x, m.old[d]? = some x := ⟨_, List.getElem?_eq_getElem hd⟩
    obtain ⟨aa, hA, g1, g2⟩ := (HH.out.at_ hbw).io d x hx
    subst hA
    have hxb := OK.out.cnt x (List.mem_of_getElem? hx)
    have hdI : (d : Int) < (m.old.length : Int) := by omega
    have HKM := hid hkm
    have HKR := hid hkr
    have J9 := hid hb9
    have J10 := hid hb10
    have HBW := hid hbw
    have HDF := hid hdf
    have HXA := hid g2
    have HRES := hid (show partLo m p d = max (sumO m d p Stt.lo m.ss.length) (x - sumO m d (nt p) Stt.hi m.ss.length) ∧ partHi m p d = min (sumO m d p Stt.hi m.ss.length) (x - sumO m d (nt p) Stt.lo m.ss.length) by
      unfold partLo partHi
      rw [MapD.at_eq hx]
      exact ⟨rfl, rfl⟩)
    generalize sumO m d p Stt.lo m.ss.length = S at *
    generalize sumO m d p Stt.hi m.ss.length = S2 at *
    generalize sumO m d (nt p) Stt.lo m.ss.length = T at *
    generalize sumO m d (nt p) Stt.hi m.ss.length = T2 at *
    have hw2 : IntKind.i64.wrap (x - T2) = x - T2 := IntWalk.i64_in _ (by omega)
    have hw3 : IntKind.i64.wrap (x - T) = x - T := IntWalk.i64_in _ (by omega)
    clear sb hb9 hb10 hch hdf hbw hkm hkr hx g1 g2
    go_wp2
    refine (wpIn_wide (n := 0)).1 ?_
    refine wpIn_region_each 24 (fun i v W' => match i with | 0 => v = .pointer (some ⟨B9, 0, none⟩) | 1 => v = .int .i64 S | 2 => v = .pointer (some ⟨w.heap.size, 0, none⟩) | 3 => v = .slice (some aa) m.old.length c | 4 => v = .int .i64 (d : Int) | 5 => v = .pointer (some (aa.add d)) | 6 => v = .int .i64 x | 7 => v = .pointer (some ⟨B10, 1, none⟩) | 8 => v = .int .i64 T2 | 9 => v = .int .i64 (x - T2) | 10 => v = .int .i64 (max S (x - T2)) | 11 => v = .pointer (some ⟨B9, 1, none⟩) | 12 => v = .int .i64 S2 | 13 => v = .pointer (some ⟨w.heap.size, 0, none⟩) | 14 => v = .slice (some aa) m.old.length c | 15 => v = .int .i64 (d : Int) | 16 => v = .pointer (some (aa.add d)) | 17 => v = .int .i64 x | 18 => v = .pointer (some ⟨B10, 0, none⟩) | 19 => v = .int .i64 T | 20 => v = .int .i64 (x - T) | 21 => ∃ gl, v = .slice (some ⟨gl, 0, none⟩) 2 2 ∧ Blk W' gl 3 #[.int .i64 S2, .int .i64 (x - T)] | 22 => v = .int .i64 (min S2 (x - T)) | 23 => v = .agg #[.int .i64 (max S (x - T2)), .int .i64 (min S2 (x - T))] | _ => True) (fun A B => Below A.heap.size A B) (fun _ _ => True) (by kernel_rfl) (by kernel_rfl) ?_ (fun h k => h.trans (k.mono h.size)) ⟨rfl, rfl, rfl, Nat.le_refl _, fun _ _ => rfl⟩ trivial (by kernel_rfl) ?_ ?_
    · intro i v W1 W2 hb h
      match i, h with
      | 0, h => exact h
      | 1, h => exact h
      | 2, h => exact h
      | 3, h => exact h
      | 4, h => exact h
      | 5, h => exact h
      | 6, h => exact h
      | 7, h => exact h
      | 8, h => exact h
      | 9, h => exact h
      | 10, h => exact h
      | 11, h => exact h
      | 12, h => exact h
      | 13, h => exact h
      | 14, h => exact h
      | 15, h => exact h
      | 16, h => exact h
      | 17, h => exact h
      | 18, h => exact h
      | 19, h => exact h
      | 20, h => exact h
      | 21, h =>
        obtain ⟨gl, rfl, h1⟩ := h
        exact ⟨_, rfl, h1.keep hb⟩
      | 22, h => exact h
      | 23, h => exact h
      | i + 24, h => trivial
    · refine ⟨?_, ?_, ?_, ?_, ?_, ?_, ?_, ?_, ?_, ?_, ?_, ?_, ?_, ?_, ?_, ?_, ?_, ?_, ?_, ?_, ?_, ?_, ?_, ?_, trivial⟩
      · -- 0
        intro li a1 W2 hA K hK
        have e9 := hA.par 9 (by kernel_rfl)
        refine opStep none 0 rfl rfl (fun c hc => by cases hc) ?_
        go_simp
        exact hK _ _ rfl (Below.refl _ _) trivial
      · -- 1
        intro li a1 W2 hA K hK
        have e50 : a1.tmps.getD 50 undef = .pointer (some ⟨B9, 0, none⟩) := hA.val 0 50 (by kernel_rfl) (by kernel_rfl)
        obtain ⟨q1, q2⟩ := (J9.out.keep hA.st).c2
        refine opStep none 0 rfl rfl (fun c hc => by cases hc) ?_
        go_simp
        exact hK _ _ rfl (Below.refl _ _) trivial
      · -- 2
        intro li a1 W2 hA K hK
        have e3 := hA.par 3 (by kernel_rfl)
        refine opStep none 0 rfl rfl (fun c hc => by cases hc) ?_
        go_simp
        exact hK _ _ rfl (Below.refl _ _) trivial
      · -- 3
        intro li a1 W2 hA K hK
        have e52 : a1.tmps.getD 52 undef = .pointer (some ⟨w.heap.size, 0, none⟩) := hA.val 2 52 (by kernel_rfl) (by kernel_rfl)
        obtain ⟨q1, _⟩ := (HKM.out.keep hA.st).c4
        refine opStep none 0 rfl rfl (fun c hc => by cases hc) ?_
        go_simp
        exact hK _ _ rfl (Below.refl _ _) trivial
      · -- 4
        intro li a1 W2 hA K hK
        have e1 := hA.par 1 (by kernel_rfl)
        refine opStep none 0 rfl rfl (fun c hc => by cases hc) ?_
        go_simp
        exact hK _ _ rfl (Below.refl _ _) trivial
      · -- 5
        intro li a1 W2 hA K hK
        have e53 : a1.tmps.getD 53 undef = .slice (some aa) m.old.length c := hA.val 3 53 (by kernel_rfl) (by kernel_rfl)
        have e54 : a1.tmps.getD 54 undef = .int .i64 (d : Int) := hA.val 4 54 (by kernel_rfl) (by kernel_rfl)
        refine opStep none 0 rfl rfl (fun c hc => by cases hc) ?_
        go_simp
        exact hK _ _ (by first | rfl | exact congrArg (fun q => Value.pointer (some q)) (add_blk _ _)) (Below.refl _ _) trivial
      · -- 6
        intro li a1 W2 hA K hK
        have e55 : a1.tmps.getD 55 undef = .pointer (some (aa.add d)) := hA.val 5 55 (by kernel_rfl) (by kernel_rfl)
        have q1 := (hA.st.cell (World.block_lt_of_cell? _ _ HXA.out)).trans HXA.out
        refine opStep none 0 rfl rfl (fun c hc => by cases hc) ?_
        go_simp
        exact hK _ _ rfl (Below.refl _ _) trivial
      · -- 7
        intro li a1 W2 hA K hK
        have e10 := hA.par 10 (by kernel_rfl)
        refine opStep none 0 rfl rfl (fun c hc => by cases hc) ?_
        go_simp
        exact hK _ _ rfl (Below.refl _ _) trivial
      · -- 8
        intro li a1 W2 hA K hK
        have e57 : a1.tmps.getD 57 undef = .pointer (some ⟨B10, 1, none⟩) := hA.val 7 57 (by kernel_rfl) (by kernel_rfl)
        obtain ⟨q1, q2⟩ := (J10.out.keep hA.st).c2
        refine opStep none 0 rfl rfl (fun c hc => by cases hc) ?_
        go_simp
        exact hK _ _ rfl (Below.refl _ _) trivial
      · -- 9
        intro li a1 W2 hA K hK
        have e56 : a1.tmps.getD 56 undef = .int .i64 x := hA.val 6 56 (by kernel_rfl) (by kernel_rfl)
        have e58 : a1.tmps.getD 58 undef = .int .i64 T2 := hA.val 8 58 (by kernel_rfl) (by kernel_rfl)
        refine opStep none 0 rfl rfl (fun c hc => by cases hc) ?_
        go_simp
        exact hK _ _ (by first | rfl | exact congrArg (Value.int .i64) hw2 | (simp [hw2])) (Below.refl _ _) trivial
      · -- 10
        intro li a1 W2 hA K hK
        have e51 : a1.tmps.getD 51 undef = .int .i64 S := hA.val 1 51 (by kernel_rfl) (by kernel_rfl)
        have e59 : a1.tmps.getD 59 undef = .int .i64 (x - T2) := hA.val 9 59 (by kernel_rfl) (by kernel_rfl)
        refine opStep none 0 rfl rfl (fun c hc => by cases hc) ?_
        go_simp
        exact hK _ _ (congrArg (Value.int .i64) (by split <;> omega)) (Below.refl _ _) trivial
      · -- 11
        intro li a1 W2 hA K hK
        have e9 := hA.par 9 (by kernel_rfl)
        refine opStep none 0 rfl rfl (fun c hc => by cases hc) ?_
        go_simp
        exact hK _ _ rfl (Below.refl _ _) trivial
      · -- 12
        intro li a1 W2 hA K hK
        have e61 : a1.tmps.getD 61 undef = .pointer (some ⟨B9, 1, none⟩) := hA.val 11 61 (by kernel_rfl) (by kernel_rfl)
        obtain ⟨q1, q2⟩ := (J9.out.keep hA.st).c2
        refine opStep none 0 rfl rfl (fun c hc => by cases hc) ?_
        go_simp
        exact hK _ _ rfl (Below.refl _ _) trivial
      · -- 13
        intro li a1 W2 hA K hK
        have e3 := hA.par 3 (by kernel_rfl)
        refine opStep none 0 rfl rfl (fun c hc => by cases hc) ?_
        go_simp
        exact hK _ _ rfl (Below.refl _ _) trivial
      · -- 14
        intro li a1 W2 hA K hK
        have e63 : a1.tmps.getD 63 undef = .pointer (some ⟨w.heap.size, 0, none⟩) := hA.val 13 63 (by kernel_rfl) (by kernel_rfl)
        obtain ⟨q1, _⟩ := (HKM.out.keep hA.st).c4
        refine opStep none 0 rfl rfl (fun c hc => by cases hc) ?_
        go_simp
        exact hK _ _ rfl (Below.refl _ _) trivial
      · -- 15
        intro li a1 W2 hA K hK
        have e1 := hA.par 1 (by kernel_rfl)
        refine opStep none 0 rfl rfl (fun c hc => by cases hc) ?_
        go_simp
        exact hK _ _ rfl (Below.refl _ _) trivial
      · -- 16
        intro li a1 W2 hA K hK
        have e64 : a1.tmps.getD 64 undef = .slice (some aa) m.old.length c := hA.val 14 64 (by kernel_rfl) (by kernel_rfl)
        have e65 : a1.tmps.getD 65 undef = .int .i64 (d : Int) := hA.val 15 65 (by kernel_rfl) (by kernel_rfl)
        refine opStep none 0 rfl rfl (fun c hc => by cases hc) ?_
        go_simp
        exact hK _ _ (by first | rfl | exact congrArg (fun q => Value.pointer (some q)) (add_blk _ _)) (Below.refl _ _) trivial
      · -- 17
        intro li a1 W2 hA K hK
        have e66 : a1.tmps.getD 66 undef = .pointer (some (aa.add d)) := hA.val 16 66 (by kernel_rfl) (by kernel_rfl)
        have q1 := (hA.st.cell (World.block_lt_of_cell? _ _ HXA.out)).trans HXA.out
        refine opStep none 0 rfl rfl (fun c hc => by cases hc) ?_
        go_simp
        exact hK _ _ rfl (Below.refl _ _) trivial
      · -- 18
        intro li a1 W2 hA K hK
        have e10 := hA.par 10 (by kernel_rfl)
        refine opStep none 0 rfl rfl (fun c hc => by cases hc) ?_
        go_simp
        exact hK _ _ rfl (Below.refl _ _) trivial
      · -- 19
        intro li a1 W2 hA K hK
        have e68 : a1.tmps.getD 68 undef = .pointer (some ⟨B10, 0, none⟩) := hA.val 18 68 (by kernel_rfl) (by kernel_rfl)
        obtain ⟨q1, q2⟩ := (J10.out.keep hA.st).c2
        refine opStep none 0 rfl rfl (fun c hc => by cases hc) ?_
        go_simp
        exact hK _ _ rfl (Below.refl _ _) trivial
      · -- 20
        intro li a1 W2 hA K hK
        have e67 : a1.tmps.getD 67 undef = .int .i64 x := hA.val 17 67 (by kernel_rfl) (by kernel_rfl)
        have e69 : a1.tmps.getD 69 undef = .int .i64 T := hA.val 19 69 (by kernel_rfl) (by kernel_rfl)
        refine opStep none 0 rfl rfl (fun c hc => by cases hc) ?_
        go_simp
        exact hK _ _ (by first | rfl | exact congrArg (Value.int .i64) hw3 | (simp [hw3])) (Below.refl _ _) trivial
      · -- 21
        intro li a1 W2 hA K hK
        have e62 : a1.tmps.getD 62 undef = .int .i64 S2 := hA.val 12 62 (by kernel_rfl) (by kernel_rfl)
        have e70 : a1.tmps.getD 70 undef = .int .i64 (x - T) := hA.val 20 70 (by kernel_rfl) (by kernel_rfl)
        have e62' := e62
        have e70' := e70
        rw [Array.getD_eq_getD_getElem?] at e62' e70'
        refine opStep none 0 rfl rfl (fun c hc => by cases hc) ?_
        go_simp
        exact hK _ _ ⟨_, rfl, Blk.new _ _ _⟩ ((Below.refl _ _).alloc (Nat.le_refl _) _) trivial
      · -- 22
        intro li a1 W2 hA K hK
        obtain ⟨gl, e71, h71⟩ := hA.val 21 71 (by kernel_rfl) (by kernel_rfl)
        refine opStep none 0 rfl rfl (fun c hc => by cases hc) ?_
        go_simp
        refine (smallest_any (some ⟨gl, 0, none⟩) 2 [S2, x - T] W2 (two_ints h71) (by simp) (by simp)).mono ?_
        rintro e W4 ⟨rfl, rfl⟩
        exact hK _ _ (congrArg (Value.int .i64) (minOf_two _ _)) (Below.refl _ _) trivial
      · -- 23
        intro li a1 W2 hA K hK
        have e60 : a1.tmps.getD 60 undef = .int .i64 (max S (x - T2)) := hA.val 10 60 (by kernel_rfl) (by kernel_rfl)
        have e72 : a1.tmps.getD 72 undef = .int .i64 (min S2 (x - T)) := hA.val 22 72 (by kernel_rfl) (by kernel_rfl)
        have e60' := e60
        have e72' := e72
        rw [Array.getD_eq_getD_getElem?] at e60' e72'
        refine opStep none 0 rfl rfl (fun c hc => by cases hc) ?_
        go_simp
        exact hK _ _ rfl (Below.refl _ _) trivial
    · intro li a1 W2 hD
      have ev : a1.tmps.getD 73 undef = .agg #[.int .i64 (max S (x - T2)), .int .i64 (min S2 (x - T))] := hD.val 23 73 (by kernel_rfl) (by kernel_rfl)
      have ep := hD.par 6 (by kernel_rfl)
      have hst := hD.st
      have hbx := HKR.out.keep hst
      obtain ⟨y0, y1⟩ := hbx.c2
      have yf := hbx.frozen 0
      have yf1 := hbx.frozen 1
      have yl := hbx.lt
      have hkp := hD.keeps (ds := [50, 51, 52, 53, 54, 55, 56, 57, 58, 59, 60, 61, 62, 63, 64, 65, 66, 67, 68, 69, 70, 71, 72, 73]) (by kernel_rfl)
      have hds := hD.size
      have hdd := hD.defers
      refine tail_store (i := 24) (W' := (W2.setCell ⟨B6, 0, none⟩ (.int .i64 (max S (x - T2)))).setCell ⟨B6, 1, none⟩ (.int .i64 (min S2 (x - T)))) none 0 rfl rfl rfl (fun c hc => by cases hc) (by go_simp) ?_
      have e := act_mix [50, 51, 52, 53, 54, 55, 56, 57, 58, 59, 60, 61, 62, 63, 64, 65, 66, 67, 68, 69, 70, 71, 72, 73] hds hdd (fun i _ hc => hkp i hc)
      generalize (fun i => a1.tmps.getD i undef) = g' at e
      refine wpListIn_nil ?_
      rw [e]
      have hb6 : Blk ((W2.setCell ⟨B6, 0, none⟩ (.int .i64 (max S (x - T2)))).setCell ⟨B6, 1, none⟩ (.int .i64 (min S2 (x - T)))) B6 49 #[.int .i64 (max S (x - T2)), .int .i64 (min S2 (x - T))] := (hbx.set_ 0 _).set_ 1 _
      have hbe : Below w.heap.size w ((W2.setCell ⟨B6, 0, none⟩ (.int .i64 (max S (x - T2)))).setCell ⟨B6, 1, none⟩ (.int .i64 (min S2 (x - T)))) := ((HBW.out.trans (hst.mono HBW.out.size)).setCell (p := ⟨B6, 0, none⟩) (by show w.heap.size ≤ B6; have := HE.out; omega) _).setCell (p := ⟨B6, 1, none⟩) (by show w.heap.size ≤ B6; have := HE.out; omega) _
      have hmk : Marks w.heap.size [D] ((W2.setCell ⟨B6, 0, none⟩ (.int .i64 (max S (x - T2)))).setCell ⟨B6, 1, none⟩ (.int .i64 (min S2 (x - T)))) := (((Marks.nil w.heap.size w2).cons (Marks.nil _ W) (D := D) (by have := HB2.out.size; omega) hDl HDF.out).below hst).keep ((KeepsFrom.of_set _ _).trans (KeepsFrom.of_set _ _))
      have HFIN := hid (And.intro hb6 (And.intro hbe hmk))
      clear e hD hkp ev ep hds hdd y0 y1 yf yf1 yl hst hbx hb6 hbe hmk
      simp only [mix, List.contains_cons, List.contains_nil, Nat.reduceAdd, Nat.reduceBEq, Bool.or_false, Bool.or_true, cond_true, cond_false]
      generalize (W2.setCell ⟨B6, 0, none⟩ (.int .i64 (max S (x - T2)))).setCell ⟨B6, 1, none⟩ (.int .i64 (min S2 (x - T))) = W8 at *
      go_wp2
      refine leaves_marks (B := w.heap.size) [D] _ HFIN.out.2.2 (fun W' hk hb => ?_)
      obtain ⟨c0, c1⟩ := (hk.blk HFIN.out.1 id).c2
      exact ⟨.agg #[.int .i64 (max S (x - T2)), .int .i64 (min S2 (x - T))], by simp [results, Try.results87, go_sem, c0, c1], by rw [HRES.out.1, HRES.out.2], HFIN.out.2.1.trans hb⟩
  case stop =>
    rintro D c W _ h _
    exact h.elim
end Go.Proofs.Ytoeabajigfdkaaa
/- The size of a new district, and the map's own borders. Conditions stand at each theorem. -/
namespace Go.Proofs.Ytoeabajigfdkaaa
open Go.RowKit Go.Shelf

theorem part_bounds {m : MapD} (ok : OkM m) (p : Nat → Bool) {d : Nat} (hd : d < m.old.length) : -80000 ≤ partLo m p d ∧ partLo m p d ≤ 80000 ∧ -80000 ≤ partHi m p d ∧ partHi m p d ≤ 80000 := by
  have hs8 := ok.s8
  have sb : ∀ (g : Stt → Int) (r : Nat → Bool), (g = Stt.lo ∨ g = Stt.hi) → 0 ≤ sumO m d r g m.ss.length ∧ sumO m d r g m.ss.length ≤ 80000 := fun g r hg => by
    obtain ⟨b1, b2⟩ := sumO_bounds (m := m) (g := g) (M := 10000) (by omega) d r m.ss.length (fun i hi => by have := ok.sAt (i := i) (by omega); rcases hg with rfl | rfl <;> omega)
    omega
  have a1 := sb Stt.lo p (.inl rfl)
  have a2 := sb Stt.hi p (.inr rfl)
  have a3 := sb Stt.lo (nt p) (.inl rfl)
  have a4 := sb Stt.hi (nt p) (.inr rfl)
  have a5 := ok.atB hd
  unfold partLo partHi
  omega
theorem size_bounds {m : MapD} (ok : OkM m) (p : Nat → Bool) : ∀ k, k ≤ m.old.length → -80000 * (k : Int) ≤ sizeLo m p k ∧ sizeLo m p k ≤ 80000 * k ∧ -80000 * (k : Int) ≤ sizeHi m p k ∧ sizeHi m p k ≤ 80000 * k
  | 0, _ => by simp [sizeLo, sizeHi, sumN]
  | k + 1, hk => by
    have ih := size_bounds ok p k (by omega)
    have hb := part_bounds ok p (d := k) (by omega)
    unfold sizeLo sizeHi at *
    rw [sumN_succ, sumN_succ]
    omega
theorem Blk.c8 {w : World} {g : Nat} {t : TypeId} {x0 x1 x2 x3 x4 x5 x6 x7 : Value} (h : Blk w g t #[x0, x1, x2, x3, x4, x5, x6, x7]) : w.cell? ⟨g, 0, none⟩ = some x0 ∧ w.cell? ⟨g, 1, none⟩ = some x1 ∧ w.cell? ⟨g, 2, none⟩ = some x2 ∧ w.cell? ⟨g, 3, none⟩ = some x3 ∧ w.cell? ⟨g, 4, none⟩ = some x4 ∧ w.cell? ⟨g, 5, none⟩ = some x5 ∧ w.cell? ⟨g, 6, none⟩ = some x6 ∧ w.cell? ⟨g, 7, none⟩ = some x7 :=
  ⟨by rw [h.cell]; rfl, by rw [h.cell]; rfl, by rw [h.cell]; rfl, by rw [h.cell]; rfl, by rw [h.cell]; rfl, by rw [h.cell]; rfl, by rw [h.cell]; rfl, by rw [h.cell]; rfl⟩
theorem liC_congr {f g : Nat → Int} (h : ∀ i, i < 8 → f i = g i) : liC f = liC g := by
  unfold liC
  rw [h 0 (by omega), h 1 (by omega), h 2 (by omega), h 3 (by omega), h 4 (by omega), h 5 (by omega), h 6 (by omega), h 7 (by omega)]
theorem liC_set {f g : Nat → Int} {k : Nat} {v : Int} (_hk : k < 8) (hv : g k = v) (h : ∀ i, i < 8 → i ≠ k → g i = f i) : (liC f).setIfInBounds k (.int .i64 v) = liC g := by
  apply Array.ext
  · simp [liC]
  · intro i h1 h2
    have hi : i < 8 := by simpa [liC] using h2
    have e2 : (liC g)[i]? = some (.int .i64 (g i)) := liC_get g hi
    have e1 : (liC f)[i]? = some (.int .i64 (f i)) := liC_get f hi
    rw [Array.getElem_setIfInBounds (by simpa [liC] using hi)]
    have q2 := Array.getElem?_eq_some_iff.1 e2
    have q1 := Array.getElem?_eq_some_iff.1 e1
    obtain ⟨_, q2⟩ := q2
    obtain ⟨_, q1⟩ := q1
    split
    · rename_i e
      rw [q2, ← e, hv]
    · rename_i e
      rw [q1, q2, h i hi (fun e' => e e'.symm)]

theorem Blk.liSame {w : World} {g : Nat} {t : TypeId} {f : Nat → Int} (h : Blk w g t (liC f)) {i : Nat} (hi : i < 8) : Blk (w.setCell ⟨g, i, none⟩ (.int .i64 (f i))) g t (liC f) := by
  have := h.set_ i (.int .i64 (f i))
  rwa [liC_set hi rfl (fun _ _ _ => rfl)] at this

set_option maxRecDepth 100000 in
set_option maxHeartbeats 2000000 in
theorem bsize_any (m : MapD) (l : Nat → Int) (dd : Int) (A : Option Addr) (c : Nat) (A2 : Option Addr) (c2 : Nat) (A3 : Option Addr) (c3 : Nat) (w : World) (h : MIn m A c A2 c2 A3 c3 w) (ok : OkM m) :
    Calls Try.prog 68 #[.agg #[.slice A m.old.length c, .int .i64 m.nw, .slice A2 m.ss.length c2, .slice A3 m.js.length c3], .agg (liC l), .int .i64 dd] w fun e w' => e = .returned (.agg #[.int .i64 (sizeLo m (inD l dd) m.old.length), .int .i64 (sizeHi m (inD l dd) m.old.length)]) ∧ Below w.heap.size w w' := by
  have hm1 := h.m1
  have hl1 := h.l1
  unfold maxLen at hm1
  have hb : Below w.heap.size w ((((w.alloc (.cells #[.slice A m.old.length c, .int .i64 m.nw, .slice A2 m.ss.length c2, .slice A3 m.js.length c3] 34)).alloc (.cells (liC l) 103)).alloc (.cells #[.int .i64 dd] 3)).alloc (.cells #[.int .i64 0, .int .i64 0] 49)) := (((((Below.refl w.heap.size w).alloc (Nat.le_refl _) (.cells #[.slice A m.old.length c, .int .i64 m.nw, .slice A2 m.ss.length c2, .slice A3 m.js.length c3] 34)).alloc (by simp) (.cells (liC l) 103)).alloc (by simp; omega) (.cells #[.int .i64 dd] 3)).alloc (by simp; omega) (.cells #[.int .i64 0, .int .i64 0] 49))
  have k1 := ((((Blk.new w 34 #[.slice A m.old.length c, .int .i64 m.nw, .slice A2 m.ss.length c2, .slice A3 m.js.length c3]).alloc (.cells (liC l) 103)).alloc (.cells #[.int .i64 dd] 3)).alloc (.cells #[.int .i64 0, .int .i64 0] 49))
  have k2 := (((Blk.new (w.alloc (.cells #[.slice A m.old.length c, .int .i64 m.nw, .slice A2 m.ss.length c2, .slice A3 m.js.length c3] 34)) 103 (liC l)).alloc (.cells #[.int .i64 dd] 3)).alloc (.cells #[.int .i64 0, .int .i64 0] 49))
  have k3 := ((Blk.new ((w.alloc (.cells #[.slice A m.old.length c, .int .i64 m.nw, .slice A2 m.ss.length c2, .slice A3 m.js.length c3] 34)).alloc (.cells (liC l) 103)) 3 #[.int .i64 dd]).alloc (.cells #[.int .i64 0, .int .i64 0] 49))
  have k4 := (Blk.new (((w.alloc (.cells #[.slice A m.old.length c, .int .i64 m.nw, .slice A2 m.ss.length c2, .slice A3 m.js.length c3] 34)).alloc (.cells (liC l) 103)).alloc (.cells #[.int .i64 dd] 3)) 49 #[.int .i64 0, .int .i64 0])
  simp only [World.size_alloc] at k2 k3 k4
  have HS := hid (show Below w.heap.size w ((((w.alloc (.cells #[.slice A m.old.length c, .int .i64 m.nw, .slice A2 m.ss.length c2, .slice A3 m.js.length c3] 34)).alloc (.cells (liC l) 103)).alloc (.cells #[.int .i64 dd] 3)).alloc (.cells #[.int .i64 0, .int .i64 0] 49)) ∧ Blk ((((w.alloc (.cells #[.slice A m.old.length c, .int .i64 m.nw, .slice A2 m.ss.length c2, .slice A3 m.js.length c3] 34)).alloc (.cells (liC l) 103)).alloc (.cells #[.int .i64 dd] 3)).alloc (.cells #[.int .i64 0, .int .i64 0] 49)) w.heap.size 34 #[.slice A m.old.length c, .int .i64 m.nw, .slice A2 m.ss.length c2, .slice A3 m.js.length c3] ∧ Blk ((((w.alloc (.cells #[.slice A m.old.length c, .int .i64 m.nw, .slice A2 m.ss.length c2, .slice A3 m.js.length c3] 34)).alloc (.cells (liC l) 103)).alloc (.cells #[.int .i64 dd] 3)).alloc (.cells #[.int .i64 0, .int .i64 0] 49)) (w.heap.size + 1) 103 (liC l) ∧ Blk ((((w.alloc (.cells #[.slice A m.old.length c, .int .i64 m.nw, .slice A2 m.ss.length c2, .slice A3 m.js.length c3] 34)).alloc (.cells (liC l) 103)).alloc (.cells #[.int .i64 dd] 3)).alloc (.cells #[.int .i64 0, .int .i64 0] 49)) (w.heap.size + 1 + 1) 3 #[.int .i64 dd] ∧ Blk ((((w.alloc (.cells #[.slice A m.old.length c, .int .i64 m.nw, .slice A2 m.ss.length c2, .slice A3 m.js.length c3] 34)).alloc (.cells (liC l) 103)).alloc (.cells #[.int .i64 dd] 3)).alloc (.cells #[.int .i64 0, .int .i64 0] 49)) (w.heap.size + 1 + 1 + 1) 49 #[.int .i64 (sizeLo m (inD l dd) 0), .int .i64 (sizeHi m (inD l dd) 0)] from ⟨hb, k1, k2, k3, k4⟩)
  obtain ⟨t0, t1, t2, t3⟩ := k1.c4
  have HH := hid h
  have OK := hid ok
  have hd4 := ok.d4
  clear h ok hb k1 k2 k3 k4
  go_enter Try.func68, Try.ntmps68
  simp only [liC]
  go_wp2
  go_loopw [12] (fun i W => ∃ k : Nat, k ≤ m.old.length ∧ i = .int .i64 k ∧ Below w.heap.size w W ∧ Blk W w.heap.size 34 #[.slice A m.old.length c, .int .i64 m.nw, .slice A2 m.ss.length c2, .slice A3 m.js.length c3] ∧ Blk W (w.heap.size + 1) 103 (liC l) ∧ Blk W (w.heap.size + 1 + 1) 3 #[.int .i64 dd] ∧ Blk W (w.heap.size + 1 + 1 + 1) 49 #[.int .i64 (sizeLo m (inD l dd) k), .int .i64 (sizeHi m (inD l dd) k)]) (fun i _ => m.old.length - (intOf i).toNat)
  case atStart => exact ⟨0, Nat.zero_le _, rfl, HS.out⟩
  case round =>
    obtain ⟨k, hk, rfl, hb, k1, k2, k3, k4⟩ := hrel
    clear HS t0 t1 t2 t3
    obtain ⟨t0, t1, t2, t3⟩ := k1.c4
    obtain ⟨r0, r1⟩ := k4.c2
    by_cases hlt : k < m.old.length
    · have hkI : (k : Int) < (m.old.length : Int) := by omega
      have HP := hid (part_any m (inD l dd) 98 #[.pointer (some ⟨w.heap.size + 1, 0, none⟩), .pointer (some ⟨w.heap.size + 1 + 1, 0, none⟩)] k A c A2 c2 A3 c3 wr (HH.out.at_ hb) OK.out hlt (enters_of Try.func98 (by kernel_rfl) rfl)
        (fun W i hW hi => by simpa [inD] using lies_test l dd i (by have := OK.out.s8; omega) _ _ W (k2.keep hW) (k3.keep hW)))
      obtain ⟨b1, b2, b3, b4⟩ := size_bounds OK.out (inD l dd) k (by omega)
      obtain ⟨b5, b6, b7, b8⟩ := part_bounds OK.out (inD l dd) hlt
      have HST := hid (show sizeLo m (inD l dd) (k + 1) = sizeLo m (inD l dd) k + partLo m (inD l dd) k ∧ sizeHi m (inD l dd) (k + 1) = sizeHi m (inD l dd) k + partHi m (inD l dd) k from ⟨rfl, rfl⟩)
      generalize sizeLo m (inD l dd) k = S at *
      generalize sizeHi m (inD l dd) k = T at *
      generalize partLo m (inD l dd) k = P at *
      generalize partHi m (inD l dd) k = Q at *
      have HK := hid (And.intro hb (And.intro k1 (And.intro k2 (And.intro k3 k4))))
      clear hb k1 k2 k3 k4
      go_wp2_with fail
      refine HP.out.mono ?_
      rintro e w2 ⟨rfl, hb2⟩
      obtain ⟨hb, k1, k2, k3, k4⟩ := HK.out
      have H2 := hid (And.intro (hb.trans (hb2.mono hb.size)) (And.intro (k1.keep hb2) (And.intro (k2.keep hb2) (And.intro (k3.keep hb2) (k4.keep hb2)))))
      have k5 := k4.keep hb2
      clear t0 t1 t2 t3 r0 r1 hb k1 k2 k3 k4 hb2 HP HK
      obtain ⟨r0, r1⟩ := k5.c2
      have rl := k5.lt
      have rf := k5.frozen 0
      have rf1 := k5.frozen 1
      clear k5
      go_wp2
      go_roundw
      case rel =>
        obtain ⟨hb, k1, k2, k3, k4⟩ := H2.out
        have hne1 := Blk.ne_ k1 k4 (by decide)
        have hne2 := Blk.ne_ k2 k4 (by decide)
        have hne3 := Blk.ne_ k3 k4 (by decide)
        refine ⟨k + 1, by omega, by go_num, ?_, ?_, ?_, ?_, ?_⟩
        · have q := (hb.setCell (p := ⟨w.heap.size + 1 + 1 + 1, 0, none⟩) (by show w.heap.size ≤ w.heap.size + 1 + 1 + 1; omega) (.int .i64 (S + P))).setCell (p := ⟨w.heap.size + 1 + 1 + 1, 1, none⟩) (by show w.heap.size ≤ w.heap.size + 1 + 1 + 1; omega) (.int .i64 (T + Q))
          exact q.alloc q.size _
        · exact ((k1.far (p := ⟨w.heap.size + 1 + 1 + 1, 0, none⟩) hne1 _).far (p := ⟨w.heap.size + 1 + 1 + 1, 1, none⟩) hne1 _).alloc _
        · exact ((k2.far (p := ⟨w.heap.size + 1 + 1 + 1, 0, none⟩) hne2 _).far (p := ⟨w.heap.size + 1 + 1 + 1, 1, none⟩) hne2 _).alloc _
        · exact ((k3.far (p := ⟨w.heap.size + 1 + 1 + 1, 0, none⟩) hne3 _).far (p := ⟨w.heap.size + 1 + 1 + 1, 1, none⟩) hne3 _).alloc _
        · rw [HST.out.1, HST.out.2]
          exact ((k4.set_ 0 _).set_ 1 _).alloc _
      case measure => first | (simp [intOf]; done) | (simp [intOf]; omega)
    · have hkI : decide ((k : Int) < (m.old.length : Int)) = false := by simp; omega
      obtain rfl : k = m.old.length := by omega
      have rl := k4.lt
      have rf := k4.frozen 0
      have rf1 := k4.frozen 1
      have HBW := hid hb
      have K4 := hid k4
      clear k1 k2 k3 k4 hb t0 t1 t2 t3
      obtain ⟨S, hS⟩ : ∃ S, sizeLo m (inD l dd) m.old.length = S := ⟨_, rfl⟩
      obtain ⟨T, hT⟩ : ∃ T, sizeHi m (inD l dd) m.old.length = T := ⟨_, rfl⟩
      rw [hS] at r0 K4
      rw [hT] at r1 K4
      have HV := hid (And.intro hS hT)
      clear hS hT
      go_wp2
      have k5 : Blk ((wr.setCell ⟨w.heap.size + 1 + 1 + 1, 0, none⟩ (.int .i64 S)).setCell ⟨w.heap.size + 1 + 1 + 1, 1, none⟩ (.int .i64 T)) (w.heap.size + 1 + 1 + 1) 49 #[.int .i64 S, .int .i64 T] := (K4.out.set_ 0 _).set_ 1 _
      have hbe : Below w.heap.size w ((wr.setCell ⟨w.heap.size + 1 + 1 + 1, 0, none⟩ (.int .i64 S)).setCell ⟨w.heap.size + 1 + 1 + 1, 1, none⟩ (.int .i64 T)) := (HBW.out.setCell (p := ⟨w.heap.size + 1 + 1 + 1, 0, none⟩) (by show w.heap.size ≤ w.heap.size + 1 + 1 + 1; omega) _).setCell (p := ⟨w.heap.size + 1 + 1 + 1, 1, none⟩) (by show w.heap.size ≤ w.heap.size + 1 + 1 + 1; omega) _
      generalize ((wr.setCell ⟨w.heap.size + 1 + 1 + 1, 0, none⟩ (.int .i64 S)).setCell ⟨w.heap.size + 1 + 1 + 1, 1, none⟩ (.int .i64 T)) = W9 at *
      obtain ⟨c0, c1⟩ := k5.c2
      exact bodyPost_ret (v := .agg #[.int .i64 S, .int .i64 T]) (by simp [results, Try.results68, go_sem, c0, c1]) rfl ⟨by rw [HV.out.1, HV.out.2], hbe⟩

def ownTo (m : MapD) (k : Nat) : Nat → Int := fun i => if i < k then ownL m i else 0
theorem ownTo_all {m : MapD} : ownTo m m.ss.length = ownL m := by
  funext i
  unfold ownTo ownL
  split
  · rfl
  · unfold MapD.S
    rw [List.getD, List.getElem?_eq_none (by omega)]; rfl
set_option maxRecDepth 100000 in
set_option maxHeartbeats 2000000 in
theorem bown_any (m : MapD) (A : Option Addr) (c : Nat) (A2 : Option Addr) (c2 : Nat) (A3 : Option Addr) (c3 : Nat) (w : World) (h : MIn m A c A2 c2 A3 c3 w) (h8 : m.ss.length ≤ 8) :
    Calls Try.prog 69 #[.agg #[.slice A m.old.length c, .int .i64 m.nw, .slice A2 m.ss.length c2, .slice A3 m.js.length c3]] w fun e w' => e = .returned (.agg (liC (ownL m))) ∧ Below w.heap.size w w' := by
  have hm1 := h.m2
  have hl1 := h.l2
  unfold maxLen at hm1
  have hb : Below w.heap.size w ((w.alloc (.cells #[.slice A m.old.length c, .int .i64 m.nw, .slice A2 m.ss.length c2, .slice A3 m.js.length c3] 34)).alloc (.cells #[.int .i64 0, .int .i64 0, .int .i64 0, .int .i64 0, .int .i64 0, .int .i64 0, .int .i64 0, .int .i64 0] 103)) := (((Below.refl w.heap.size w).alloc (Nat.le_refl _) (.cells #[.slice A m.old.length c, .int .i64 m.nw, .slice A2 m.ss.length c2, .slice A3 m.js.length c3] 34)).alloc (by simp) (.cells #[.int .i64 0, .int .i64 0, .int .i64 0, .int .i64 0, .int .i64 0, .int .i64 0, .int .i64 0, .int .i64 0] 103))
  have k1 := ((Blk.new w 34 #[.slice A m.old.length c, .int .i64 m.nw, .slice A2 m.ss.length c2, .slice A3 m.js.length c3]).alloc (.cells #[.int .i64 0, .int .i64 0, .int .i64 0, .int .i64 0, .int .i64 0, .int .i64 0, .int .i64 0, .int .i64 0] 103))
  have k2 := (Blk.new (w.alloc (.cells #[.slice A m.old.length c, .int .i64 m.nw, .slice A2 m.ss.length c2, .slice A3 m.js.length c3] 34)) 103 #[.int .i64 0, .int .i64 0, .int .i64 0, .int .i64 0, .int .i64 0, .int .i64 0, .int .i64 0, .int .i64 0])
  simp only [World.size_alloc] at k2
  have HS := hid (show Below w.heap.size w ((w.alloc (.cells #[.slice A m.old.length c, .int .i64 m.nw, .slice A2 m.ss.length c2, .slice A3 m.js.length c3] 34)).alloc (.cells #[.int .i64 0, .int .i64 0, .int .i64 0, .int .i64 0, .int .i64 0, .int .i64 0, .int .i64 0, .int .i64 0] 103)) ∧ Blk ((w.alloc (.cells #[.slice A m.old.length c, .int .i64 m.nw, .slice A2 m.ss.length c2, .slice A3 m.js.length c3] 34)).alloc (.cells #[.int .i64 0, .int .i64 0, .int .i64 0, .int .i64 0, .int .i64 0, .int .i64 0, .int .i64 0, .int .i64 0] 103)) w.heap.size 34 #[.slice A m.old.length c, .int .i64 m.nw, .slice A2 m.ss.length c2, .slice A3 m.js.length c3] ∧ Blk ((w.alloc (.cells #[.slice A m.old.length c, .int .i64 m.nw, .slice A2 m.ss.length c2, .slice A3 m.js.length c3] 34)).alloc (.cells #[.int .i64 0, .int .i64 0, .int .i64 0, .int .i64 0, .int .i64 0, .int .i64 0, .int .i64 0, .int .i64 0] 103)) (w.heap.size + 1) 103 (liC (ownTo m 0)) from ⟨hb, k1, k2⟩)
  obtain ⟨t0, t1, t2, t3⟩ := k1.c4
  have HH := hid h
  clear h hb k1 k2
  go_enter Try.func69, Try.ntmps69
  go_wp2
  go_loopw [8] (fun i W => ∃ k : Nat, k ≤ m.ss.length ∧ i = .int .i64 k ∧ Below w.heap.size w W ∧ Blk W w.heap.size 34 #[.slice A m.old.length c, .int .i64 m.nw, .slice A2 m.ss.length c2, .slice A3 m.js.length c3] ∧ Blk W (w.heap.size + 1) 103 (liC (ownTo m k))) (fun i _ => m.ss.length - (intOf i).toNat)
  case atStart => exact ⟨0, Nat.zero_le _, rfl, HS.out⟩
  case round =>
    obtain ⟨k, hk, rfl, hb, k1, k2⟩ := hrel
    clear HS t0 t1 t2 t3
    by_cases hlt : k < m.ss.length
    · have hkI : (k : Int) < (m.ss.length : Int) := by omega
      have hk8 : (k : Int) < 8 := by omega
      obtain ⟨s, hs⟩ : ∃ s, m.ss[k]? = some s := ⟨_, List.getElem?_eq_getElem hlt⟩
      obtain ⟨a, rfl, hab, f0, f1, f2, f3, f4⟩ := (HH.out.at_ hb).is k s hs
      have hc := k2.cell k
      rw [liC_get _ (by omega)] at hc
      have hf := k2.frozen k
      have hl := k2.lt
      have HST := hid (liC_set (f := ownTo m k) (g := ownTo m (k + 1)) (k := k) (v := s.n) (by omega) (by unfold ownTo ownL; rw [if_pos (by omega), MapD.S_eq hs]) (fun i _ hne => by
        unfold ownTo
        by_cases e : i < k
        · rw [if_pos e, if_pos (by omega)]
        · rw [if_neg e, if_neg (by omega)]))
      have HK := hid (And.intro hb (And.intro k1 k2))
      clear hb k1 k2 hs
      go_wp2
      go_roundw
      case rel =>
        obtain ⟨hb, k1, k2⟩ := HK.out
        have hne := Blk.ne_ k1 k2 (by decide)
        have q := hb.setCell (p := ⟨w.heap.size + 1, k, none⟩) (by show w.heap.size ≤ w.heap.size + 1; omega) (.int .i64 s.n)
        refine ⟨k + 1, by omega, by go_num, ?_, ?_, ?_⟩
        · exact q.alloc q.size _
        · exact (k1.far (p := ⟨w.heap.size + 1, k, none⟩) hne _).alloc _
        · rw [← HST.out]
          exact (k2.set_ k _).alloc _
      case measure => first | (simp [intOf]; done) | (simp [intOf]; omega)
    · have hkI : decide ((k : Int) < (m.ss.length : Int)) = false := by simp; omega
      obtain rfl : k = m.ss.length := by omega
      rw [ownTo_all] at k2
      have hl := k2.lt
      have hf0 := k2.frozen 0
      have hf1 := k2.frozen 1
      have hf2 := k2.frozen 2
      have hf3 := k2.frozen 3
      have hf4 := k2.frozen 4
      have hf5 := k2.frozen 5
      have hf6 := k2.frozen 6
      have hf7 := k2.frozen 7
      have HB := hid hb
      have K2 := hid k2
      unfold liC at k2
      obtain ⟨c0, c1, c2, c3, c4, c5, c6, c7⟩ := k2.c8
      clear k1 k2 hb
      obtain ⟨f, hf⟩ : ∃ f, ownL m = f := ⟨_, rfl⟩
      rw [hf] at c0 c1 c2 c3 c4 c5 c6 c7 K2
      have HV := hid hf
      clear hf
      go_wp2
      have k9 : Blk ((((((((wr.setCell ⟨w.heap.size + 1, 0, none⟩ (.int .i64 (f 0))).setCell ⟨w.heap.size + 1, 1, none⟩ (.int .i64 (f 1))).setCell ⟨w.heap.size + 1, 2, none⟩ (.int .i64 (f 2))).setCell ⟨w.heap.size + 1, 3, none⟩ (.int .i64 (f 3))).setCell ⟨w.heap.size + 1, 4, none⟩ (.int .i64 (f 4))).setCell ⟨w.heap.size + 1, 5, none⟩ (.int .i64 (f 5))).setCell ⟨w.heap.size + 1, 6, none⟩ (.int .i64 (f 6))).setCell ⟨w.heap.size + 1, 7, none⟩ (.int .i64 (f 7))) (w.heap.size + 1) 103 (liC f) := ((((((((K2.out.liSame (i := 0) (by omega)).liSame (i := 1) (by omega)).liSame (i := 2) (by omega)).liSame (i := 3) (by omega)).liSame (i := 4) (by omega)).liSame (i := 5) (by omega)).liSame (i := 6) (by omega)).liSame (i := 7) (by omega))
      have hbe : Below w.heap.size w ((((((((wr.setCell ⟨w.heap.size + 1, 0, none⟩ (.int .i64 (f 0))).setCell ⟨w.heap.size + 1, 1, none⟩ (.int .i64 (f 1))).setCell ⟨w.heap.size + 1, 2, none⟩ (.int .i64 (f 2))).setCell ⟨w.heap.size + 1, 3, none⟩ (.int .i64 (f 3))).setCell ⟨w.heap.size + 1, 4, none⟩ (.int .i64 (f 4))).setCell ⟨w.heap.size + 1, 5, none⟩ (.int .i64 (f 5))).setCell ⟨w.heap.size + 1, 6, none⟩ (.int .i64 (f 6))).setCell ⟨w.heap.size + 1, 7, none⟩ (.int .i64 (f 7))) := ((((((((HB.out.setCell (p := ⟨w.heap.size + 1, 0, none⟩) (by show w.heap.size ≤ w.heap.size + 1; omega) _).setCell (p := ⟨w.heap.size + 1, 1, none⟩) (by show w.heap.size ≤ w.heap.size + 1; omega) _).setCell (p := ⟨w.heap.size + 1, 2, none⟩) (by show w.heap.size ≤ w.heap.size + 1; omega) _).setCell (p := ⟨w.heap.size + 1, 3, none⟩) (by show w.heap.size ≤ w.heap.size + 1; omega) _).setCell (p := ⟨w.heap.size + 1, 4, none⟩) (by show w.heap.size ≤ w.heap.size + 1; omega) _).setCell (p := ⟨w.heap.size + 1, 5, none⟩) (by show w.heap.size ≤ w.heap.size + 1; omega) _).setCell (p := ⟨w.heap.size + 1, 6, none⟩) (by show w.heap.size ≤ w.heap.size + 1; omega) _).setCell (p := ⟨w.heap.size + 1, 7, none⟩) (by show w.heap.size ≤ w.heap.size + 1; omega) _)
      generalize ((((((((wr.setCell ⟨w.heap.size + 1, 0, none⟩ (.int .i64 (f 0))).setCell ⟨w.heap.size + 1, 1, none⟩ (.int .i64 (f 1))).setCell ⟨w.heap.size + 1, 2, none⟩ (.int .i64 (f 2))).setCell ⟨w.heap.size + 1, 3, none⟩ (.int .i64 (f 3))).setCell ⟨w.heap.size + 1, 4, none⟩ (.int .i64 (f 4))).setCell ⟨w.heap.size + 1, 5, none⟩ (.int .i64 (f 5))).setCell ⟨w.heap.size + 1, 6, none⟩ (.int .i64 (f 6))).setCell ⟨w.heap.size + 1, 7, none⟩ (.int .i64 (f 7))) = W9 at *
      unfold liC at k9
      obtain ⟨d0, d1, d2, d3, d4, d5, d6, d7⟩ := k9.c8
      exact bodyPost_ret (v := .agg (liC f)) (by simp [results, Try.results69, go_sem, d0, d1, d2, d3, d4, d5, d6, d7, liC]) rfl ⟨by rw [HV.out], hbe⟩
end Go.Proofs.Ytoeabajigfdkaaa
/- choose: all numbers for a row that are neighbours of its cells, one after the other; the recursion behind the iterator. -/
namespace Go.Proofs.Ytoeabajigfdkaaa
open Go.RowKit Go.Shelf

def cands (b : Int) : List Int → List (List Int)
  | [] => [[]]
  | n :: ns => (cands b ns).map (lowOf b n :: ·) ++ (if lowOf b n == highOf b n then [] else (cands b ns).map (highOf b n :: ·))
def testB (b : Int) (cells : List Int) (fs : List Fx) (row : Int) (l : List Int) : Bool := nearB b l.sum cells.sum && holdsB fs row l
/-- the lists that begin with pre, for the cells that are left -/
def outs (b : Int) (cells : List Int) (fs : List Fx) (row : Int) (pre rest : List Int) : List (List Int) := ((cands b rest).map (pre ++ ·)).filter (testB b cells fs row)
theorem outs_nil (b : Int) (cells : List Int) (fs : List Fx) (row : Int) (pre : List Int) : outs b cells fs row pre [] = if testB b cells fs row pre then [pre] else [] := by
  simp [outs, cands, List.filter_cons]
theorem outs_cons (b : Int) (cells : List Int) (fs : List Fx) (row : Int) (pre : List Int) (n : Int) (ns : List Int) :
    outs b cells fs row pre (n :: ns) = outs b cells fs row (pre ++ [lowOf b n]) ns ++ (if lowOf b n == highOf b n then [] else outs b cells fs row (pre ++ [highOf b n]) ns) := by
  unfold outs
  simp only [cands, List.map_append, List.filter_append, List.map_map]
  congr 1
  · congr 1; apply List.map_congr_left; intro x _; simp
  · split
    · rfl
    · simp only [List.map_map]; congr 1; apply List.map_congr_left; intro x _; simp

/-- block y is an array of m numbers that begin with pre -/
def LB (W : World) (y m : Nat) (pre : List Int) : Prop := ∃ arr : Array Value, W.heap[y]? = some (.cells arr 3 (0, 0)) ∧ arr.size = m ∧ ∀ (k : Nat) (x : Int), pre[k]? = some x → arr[k]? = some (Value.int .i64 x)
theorem LB.ints {W : World} {y m : Nat} {pre : List Int} (h : LB W y m pre) {n : Nat} (hn : y < n) : IsInts W n (some ⟨y, 0, none⟩) pre := by
  obtain ⟨arr, hb, hs, hc⟩ := h
  intro k x hk
  refine ⟨_, rfl, hn, ?_⟩
  have ha : (⟨y, 0, none⟩ : Addr).add k = ⟨y, k, none⟩ := by unfold Addr.add; split <;> simp_all
  rw [ha, cell_of_row W y k arr 3 (0, 0) hb]
  exact hc k x hk
theorem LB.lt {W : World} {y m : Nat} {pre : List Int} (h : LB W y m pre) : y < W.heap.size := by
  obtain ⟨arr, hb, _⟩ := h
  exact (Array.getElem?_eq_some_iff.1 hb).1
theorem LB.keep {Z : Nat → Prop} {W W' : World} {y m : Nat} {pre : List Int} (h : LB W y m pre) (hk : Keep Z W W') (hz : ¬ Z y) : LB W' y m pre := by
  obtain ⟨arr, hb, hs, hc⟩ := h
  exact ⟨arr, hk.cells y arr _ _ hb hz, hs, hc⟩
theorem LB.below {W W' : World} {y m : Nat} {pre : List Int} (h : LB W y m pre) (hk : Below W.heap.size W W') : LB W' y m pre := by
  have hy := h.lt
  obtain ⟨arr, hb, hs, hc⟩ := h
  exact ⟨arr, (hk.block y hy).trans hb, hs, hc⟩
theorem LB.shrink {W : World} {y m : Nat} {pre : List Int} {x : Int} (h : LB W y m (pre ++ [x])) : LB W y m pre := by
  obtain ⟨arr, hb, hs, hc⟩ := h
  exact ⟨arr, hb, hs, fun k z hk => hc k z (by rw [List.getElem?_append_left (List.getElem?_eq_some_iff.1 hk).1]; exact hk)⟩

section
variable {Bc Bw Br By Bh P l n : Nat} {A0 : Option Addr} {c0 : Nat} {cells : List Int} {row b : Int} {At : Option Addr} {ct nt : Nat} {Af : Option Addr} {cf : Nat} {fs : List Fx} {mp : Value} {W W' : World}
end
end Go.Proofs.Ytoeabajigfdkaaa
