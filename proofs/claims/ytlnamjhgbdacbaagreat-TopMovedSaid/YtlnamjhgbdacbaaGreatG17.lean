/- The walks and the plain laws of this part of the program, part 17: what each computes. Conditions stand at each theorem. -/
import Derived.Deep.Cut
import Derived.Test.YtlnamjhgbdacbaaGreatG2
import Derived.Test.YtlnamjhgbdacbaaGreatG5
import Derived.Test.YtlnamjhgbdacbaaGreatG6
import Derived.Test.YtlnamjhgbdacbaaGreatG7
import Derived.Test.YtlnamjhgbdacbaaGreatG12
import Derived.Test.YtlnamjhgbdacbaaGreatG13
import Derived.Test.YtlnamjhgbdacbaaGreatG14
import Derived.Test.YtlnamjhgbdacbaaGreatG16
/- Words for the statements: what calls hand back, and that they stay. No condition. -/
namespace Go.Proofs.YtlnamjhgbdacbaaGreat
open Go.RowKit Go.Shelf

/-- a list of numbers that a call has handed back -/
def IntsAt (y : Option Addr × Nat) (xs : List Int) (W : World) : Prop := IsInts W W.heap.size y.1 xs ∧ xs.length ≤ y.2 ∧ y.2 ≤ maxLen
theorem IntsAt.at_ {y : Option Addr × Nat} {xs : List Int} {W W' : World} (h : IntsAt y xs W) (hb : Below W.heap.size W W') : IntsAt y xs W' := ⟨h.1.at_ hb, h.2⟩
def GivesI (xs : List Int) (w : World) (e : Ending) (w' : World) : Prop := ∃ y : Option Addr × Nat, e = .returned (.slice y.1 xs.length y.2) ∧ IntsAt y xs w' ∧ Below w.heap.size w w'
theorem GivesInts.i {xs : List Int} {w : World} {e : Ending} {w' : World} (h : GivesInts xs w e w') : GivesI xs w e w' := by
  obtain ⟨A, c, h1, h2, h3, h4, _, _, h7⟩ := h
  exact ⟨(A, c), h1, ⟨h4, h2, h3⟩, h7⟩
/-- a list of ranges that a call has handed back -/
def RngsAt (y : Option Addr × Nat) (rs : List (Int × Int)) (W : World) : Prop := IsRngs W W.heap.size y.1 rs ∧ rs.length ≤ y.2 ∧ y.2 ≤ maxLen
theorem RngsAt.at_ {y : Option Addr × Nat} {rs : List (Int × Int)} {W W' : World} (h : RngsAt y rs W) (hb : Below W.heap.size W W') : RngsAt y rs W' := ⟨h.1.at_ hb, h.2⟩
theorem smTo_congr {nw : Nat} {l l' : Nat → Int} {xs : List Int} : ∀ k, (∀ i, i < k → l i = l' i) → smTo nw l xs k = smTo nw l' xs k
  | 0, _ => rfl
  | k + 1, h => by rw [smTo, smTo, smTo_congr k fun i hi => h i (by omega), h k (by omega)]
theorem smD_congr {m : MapD} {l l' : Nat → Int} {xs : List Int} (h : ∀ i, i < xs.length → l i = l' i) : smD m l xs = smD m l' xs := smTo_congr _ h
theorem smD_own (m : MapD) {xs : List Int} (hl : xs.length = m.ss.length) : smD m (fnO (lst m (ownL m))) xs = smD m (ownL m) xs := smD_congr fun i hi => fnO_lst (by omega)
theorem own_in {m : MapD} (ok : OkM m) {i : Nat} (hi : i < m.ss.length) : 0 ≤ ownL m i ∧ ownL m i < m.nw := by
  have := ok.sAt hi
  unfold ownL
  omega
section
variable {m : MapD} {A : Option Addr} {c : Nat} {A2 : Option Addr} {c2 : Nat} {A3 : Option Addr} {c3 : Nat} {w : World}
theorem map_thin (h : MArg m A c A2 c2 A3 c3 w) (ht : ThinP m) : Calls Tryz.prog 9 #[.agg #[.slice A m.old.length c, .int .i64 m.nw, .slice A2 m.ss.length c2, .slice A3 m.js.length c3]] w (GivesMap m w) :=
  map_any m A c A2 c2 A3 c3 w h (by have := ht.1; omega) (by have := ht.2.1; omega) (by have := ht.2.2; omega)
theorem carry_bad (h : MIn m A c A2 c2 A3 c3 w) (hc : chkM m ≠ 0) : Calls Tryz.prog 8 #[.agg #[.slice A m.old.length c, .int .i64 m.nw, .slice A2 m.ss.length c2, .slice A3 m.js.length c3]] w fun e w' => e = .returned (.tuple #[.slice none 0 0, .slice none 0 0, .int .i64 (chkM m)]) ∧ Below w.heap.size w w' := by
  have := carry_any m A c A2 c2 A3 c3 w h
  simp only [if_pos hc] at this
  exact this
def GivesCar (m : MapD) (w : World) (e : Ending) (w' : World) : Prop := ∃ p q : Option Addr × Nat, e = .returned (.tuple #[.slice p.1 (car m).length p.2, .slice q.1 (smD m (ownL m) (car m)).length q.2, .int .i64 0]) ∧ IntsAt p (car m) w' ∧ IntsAt q (smD m (ownL m) (car m)) w' ∧ Below w.heap.size w w'
theorem carry_good (h : MIn m A c A2 c2 A3 c3 w) (hc : chkM m = 0) : Calls Tryz.prog 8 #[.agg #[.slice A m.old.length c, .int .i64 m.nw, .slice A2 m.ss.length c2, .slice A3 m.js.length c3]] w (GivesCar m w) := by
  have := carry_any m A c A2 c2 A3 c3 w h
  simp only [if_neg (show ¬ chkM m ≠ 0 by simp [hc])] at this
  exact this.mono fun e w' ⟨p, q, h1, h2, h3, h4, h5, h6, h7, h8⟩ => ⟨p, q, h1, ⟨h2, h3, h4⟩, ⟨h5, h6, h7⟩, h8⟩
end
end Go.Proofs.YtlnamjhgbdacbaaGreat
/- The example with two streets, one place and one table. No condition. -/
namespace Go.Proofs.YtlnamjhgbdacbaaGreat
open Go.RowKit Go.Shelf

def twoM : MapD := ⟨[7], 2, [⟨0, 0, 1, 0, 9⟩, ⟨0, 1, 1, 0, 9⟩], []⟩
def twoS : Array Value := #[.int .i64 0, .int .i64 0, .int .i64 1, .int .i64 0, .int .i64 9, .int .i64 0, .int .i64 1, .int .i64 1, .int .i64 0, .int .i64 9]
theorem two_s : ∀ k s, twoM.ss[k]? = some s → twoS[k * 5]? = some (.int .i64 s.o) ∧ twoS[k * 5 + 1]? = some (.int .i64 s.n) ∧ twoS[k * 5 + 2]? = some (.int .i64 s.wt) ∧ twoS[k * 5 + 3]? = some (.int .i64 s.lo) ∧ twoS[k * 5 + 4]? = some (.int .i64 s.hi) := fun k s hk => by
  match k, hk with
  | 0, hk => cases hk; exact ⟨rfl, rfl, rfl, rfl, rfl⟩
  | 1, hk => cases hk; exact ⟨rfl, rfl, rfl, rfl, rfl⟩
  | k + 2, hk => simp [twoM] at hk
theorem two_o : ∀ (k : Nat) x, twoM.old[k]? = some x → (#[.int .i64 7] : Array Value)[k]? = some (.int .i64 x) := fun k s hk => by
  match k, hk with
  | 0, hk => cases hk; rfl
  | k + 1, hk => simp [twoM] at hk
theorem two_chk : chkM twoM = 0 := by decide +kernel
theorem two_car : car twoM = [4, 3] := by decide +kernel
theorem two_sm : smD twoM (ownL twoM) (car twoM) = [4, 3] := by decide +kernel
def tabC : List (List Int) := [[4, 3]]
theorem tab_chk : chkE 5 tabC [] = 0 := by decide +kernel
theorem tab_ways : (spec 5 tabC [] tabC.length zeroS).ways = 3 := by decide +kernel
theorem two_min {g1 g2 : Nat} {w : World} (h1 : Blk w g1 3 #[.int .i64 7]) (h2 : Blk w g2 70 twoS) : MIn twoM (some ⟨g1, 0, none⟩) 1 (some ⟨g2, 0, none⟩) 2 none 0 w :=
  ⟨ints_of h1 two_o, stts_of h2 two_s, (fun k j hk => by simp [twoM] at hk), by decide, by decide, by decide, by decide, by decide, by decide⟩
theorem tab_tin {g1 g2 : Nat} {w : World} (h1 : Blk w g1 3 #[.int .i64 4, .int .i64 3]) (h2 : Blk w g2 22 #[.slice (some ⟨g1, 0, none⟩) 2 2]) : TIn (some ⟨g2, 0, none⟩) 1 tabC none 0 [] w := by
  have c0 := h2.c1
  obtain ⟨d0, d1⟩ := h1.c2
  refine ⟨fun k xs hk => ?_, (fun k j hk => by simp at hk), by decide, by decide, by decide, by decide, by decide⟩
  cases k with
  | zero =>
    simp [tabC] at hk
    subst hk
    refine ⟨_, _, _, rfl, h2.lt, c0, Nat.le_refl _, by decide, fun j x hj => ?_⟩
    match j, hj with
    | 0, hj => simp at hj; subst hj; exact ⟨_, rfl, h1.lt, d0⟩
    | 1, hj => simp at hj; subst hj; exact ⟨_, rfl, h1.lt, d1⟩
    | j + 2, hj => simp at hj
  | succ k => simp [tabC] at hk

set_option maxRecDepth 100000 in
set_option maxHeartbeats 4000000 in
theorem carried_y (w : World) : Calls Tryz.prog 7 #[] w fun e w' => e = .returned (.bool true) ∧ Below w.heap.size w w' := by
  have b1 := below_box (w := w) #[.int .i64 7] 3
  have b2 := then_below b1 (below_box twoS 70)
  have k1 := (Blk.new w 3 #[.int .i64 7]).alloc (.cells twoS 70)
  have k2 := Blk.new (w.alloc (.cells #[.int .i64 7] 3)) 70 twoS
  rw [World.size_alloc] at k2
  have K1 := carry_good (two_min k1 k2) two_chk
  unfold GivesCar at K1
  rw [two_sm, two_car] at K1
  have K7 := hid K1
  have HB := hid b2
  clear b1 b2 k1 k2 K1
  go_enter Tryz.func7, Tryz.ntmps7
  go_wp2_with fail
  refine K7.out.mono ?_
  rintro e w1 ⟨⟨A5, c5⟩, ⟨A6, c6⟩, rfl, hp, hq, hb⟩
  have HP := hid hp
  have HQ := hid hq
  have HB1 := hid (HB.out.trans (hb.mono HB.out.size))
  clear hp hq hb K7 HB
  have b1 := below_box (w := w1) #[.int .i64 1, .int .i64 2] 87
  have b2 := then_below b1 (below_box #[.int .i64 0] 3)
  have k1 := (Blk.new w1 87 #[.int .i64 1, .int .i64 2]).alloc (.cells #[.int .i64 0] 3)
  have k2 := Blk.new (w1.alloc (.cells #[.int .i64 1, .int .i64 2] 87)) 3 #[.int .i64 0]
  rw [World.size_alloc] at k2
  have K2 := hid (wtour_top _ k1 k2)
  have HB := hid b2
  clear b1 b2 k1 k2
  go_wp2_with fail
  refine K2.out.mono ?_
  rintro e w2 ⟨⟨b, a, c, rfl⟩, hb⟩
  have HB2 := hid (HB.out.trans (hb.mono HB.out.size))
  have HP2 := hid (HP.out.at_ HB2.out)
  have HQ2 := hid (HQ.out.at_ HB2.out)
  have HBB := hid (HB1.out.trans (HB2.out.mono HB1.out.size))
  clear hb K2 HB HP HQ HB1 HB2
  go_upto_region 3 with (fail)
  refine gen (p := Code.wp _ _ _ _) (fun W => Below w2.heap.size w2 W ∧ Blk W w2.heap.size 73 #[.slice (some ⟨b, 0, none⟩) 1 1, .slice (some a) 1 c]) ⟨below_box _ _, Blk.new _ _ _⟩ ?_
  rintro W3 ⟨hb3, hw3⟩
  have HP3 := hid (HP2.out.at_ hb3)
  have HQ3 := hid (HQ2.out.at_ hb3)
  have HB3 := hid (HBB.out.trans (hb3.mono HBB.out.size))
  have HW3 := hid hw3
  clear hb3 hw3 HP2 HQ2 HBB
  generalize w2.heap.size = wb at *
  have b1 := below_box (w := W3) #[.int .i64 4, .int .i64 3] 3
  have b2 := then_below b1 (below_box #[.slice (some ⟨W3.heap.size, 0, none⟩) 2 2] 22)
  have k1 := (Blk.new W3 3 #[.int .i64 4, .int .i64 3]).alloc (.cells #[.slice (some ⟨W3.heap.size, 0, none⟩) 2 2] 22)
  have k2 := Blk.new (W3.alloc (.cells #[.int .i64 4, .int .i64 3] 3)) 22 #[.slice (some ⟨W3.heap.size, 0, none⟩) 2 2]
  rw [World.size_alloc] at k2
  have K3 := ways_any 5 _ _ _ _ _ _ _ (tab_tin k1 k2)
  rw [if_pos tab_chk, tab_ways] at K3
  have K9 := hid K3
  have HB := hid b2
  clear b1 b2 k1 k2 K3
  go_wp2_with fail
  refine K9.out.mono ?_
  rintro e w4 ⟨rfl, hb⟩
  have hb4 := HB.out.trans (hb.mono HB.out.size)
  have HB4 := hid (HB3.out.trans (hb4.mono HB3.out.size))
  obtain ⟨q0, q1⟩ := (HW3.out.keep hb4).c2
  obtain ⟨a5, rfl, _, p5⟩ := (HP3.out.at_ hb4).1 0 4 rfl
  obtain ⟨a6, rfl, _, p6⟩ := (HQ3.out.at_ hb4).1 1 3 rfl
  rw [show a5.add 0 = a5 from rfl] at p5
  rw [show a6.add 1 = ⟨a6.block, a6.off + 1, none⟩ from rfl] at p6
  clear hb hb4 K9 HB HP3 HQ3 HB3 HW3
  go_wp2
  go_ret
  exact ⟨rfl, HB4.out⟩
end Go.Proofs.YtlnamjhgbdacbaaGreat
/- A guarded step whose guard was itself left out is left out. -/
namespace Go.Proofs.YtlnamjhgbdacbaaGreat
open Go.RowKit Go.Shelf

theorem yielded_un {l : List Oper} {a : Act} {j d : Nat} (hd : dstB l j d = true) (hv : a.tmps.getD d undef = undef) : yielded l.toArray a.tmps j = none := by
  have h1 : (l.toArray[j]?).bind (·.dst) = some d := by simpa [dstB] using hd
  unfold yielded
  rw [h1]
  simp only [Option.bind_some]
  rw [Array.getD_eq_getD_getElem?] at hv
  cases ht : a.tmps[d]? with
  | none => rfl
  | some v => rw [ht] at hv; simp at hv; subst hv; rfl
theorem wanted_un {l : List Oper} {o : Oper} {a : Act} {j d : Nat} {b : Bool} (hg : o.guard = some (j, b)) (hd : dstB l j d = true) (hv : a.tmps.getD d undef = undef) : Region.wanted o (yielded l.toArray a.tmps) = false := by
  unfold Region.wanted
  rw [hg]
  simp only [yielded_un hd hv]
  rfl
end Go.Proofs.YtlnamjhgbdacbaaGreat
/- For every map without fault and every base: TopMoved, walked. Conditions stand at each theorem. -/
namespace Go.Proofs.YtlnamjhgbdacbaaGreat
open Go.RowKit Go.Shelf

theorem int_at9 {w : World} {n : Nat} {a : Addr} {xs : List Int} {k : Nat} {x : Int} (h : IsInts w n (some a) xs) (hk : xs[k]? = some x) : w.cell? (a.add k) = some (.int .i64 x) := by
  obtain ⟨a', e, _, h0⟩ := h k x hk
  cases e
  exact h0
theorem sum_bound9 : ∀ (l : List Int), (∀ v ∈ l, 0 ≤ v ∧ v ≤ 10100) → 0 ≤ l.sum ∧ l.sum ≤ (l.length : Int) * 10100
  | [], _ => by simp
  | x :: l, h => by
    have h1 := h x (by simp)
    have h2 := sum_bound9 l fun v hv => h v (by simp [hv])
    simp only [List.sum_cons, List.length_cons]
    omega
theorem sum_take_bound {xs : List Int} (h : ∀ v ∈ xs, 0 ≤ v ∧ v ≤ 10100) (k : Nat) : 0 ≤ (xs.take k).sum ∧ (xs.take k).sum ≤ (k : Int) * 10100 := by
  have h1 := sum_bound9 (xs.take k) fun v hv => h v (List.mem_of_mem_take hv)
  have h2 : (xs.take k).length ≤ k := List.length_take_le _ _
  have h3 : ((xs.take k).length : Int) * 10100 ≤ (k : Int) * 10100 := by omega
  omega
theorem int_b9 {w : World} {n : Nat} {a : Addr} {xs : List Int} {k : Nat} {x : Int} (h : IsInts w n (some a) xs) (hk : xs[k]? = some x) : a.block < n := by
  obtain ⟨a', e, h0, _⟩ := h k x hk
  cases e
  exact h0

set_option maxRecDepth 100000 in
set_option maxHeartbeats 4000000 in
theorem mvd_not (m : MapD) (A : Option Addr) (c : Nat) (A2 : Option Addr) (c2 : Nat) (A3 : Option Addr) (c3 : Nat) (q : Int) (w : World) (h : MArg m A c A2 c2 A3 c3 w) (ht : thinM m = false) :
    Calls Tryz.prog 3 #[.agg #[.slice A m.old.length c, .int .i64 m.nw, .slice A2 m.ss.length c2, .slice A3 m.js.length c3], .int .u8 q] w fun e w' => e = .returned (.bool true) ∧ Below w.heap.size w w' := by
  have hB := below_box (w := w) #[.slice A m.old.length c, .int .i64 m.nw, .slice A2 m.ss.length c2, .slice A3 m.js.length c3] 26
  have hT := Blk.new w 26 #[.slice A m.old.length c, .int .i64 m.nw, .slice A2 m.ss.length c2, .slice A3 m.js.length c3]
  have HB0 := hid hB
  have HT0 := hid hT
  have HH := hid h
  obtain ⟨t0, t1, t2, t3⟩ := hT.c4
  clear h hB hT
  have HTN := hid ht
  clear ht
  go_enter Tryz.func3, Tryz.ntmps3
  have K1 := hid (mthin_any m A c A2 c2 A3 c3 (w.alloc (.cells #[.slice A m.old.length c, .int .i64 m.nw, .slice A2 m.ss.length c2, .slice A3 m.js.length c3] 26)))
  rw [HTN.out] at K1
  go_wp2_with fail
  refine K1.out.mono ?_
  rintro e w1 ⟨rfl, hb⟩
  have HB1 := hid (HB0.out.trans (hb.mono HB0.out.size))
  have HT1 := hid (HT0.out.keep hb)
  clear hb K1 t0 t1 t2 t3
  obtain ⟨t0, t1, t2, t3⟩ := HT1.out.c4
  have K2 := hid (carried_y w1)
  go_wp2_with fail
  refine K2.out.mono ?_
  rintro e w2 ⟨rfl, hb⟩
  have HB2 := hid (HB1.out.trans (hb.mono HB1.out.size))
  have HT2 := hid (HT1.out.keep hb)
  clear hb K2 t0 t1 t2 t3
  obtain ⟨t0, t1, t2, t3⟩ := HT2.out.c4
  clear t0 t1 t2 t3
  go_wp2
  go_ret
  exact ⟨rfl, HB2.out⟩

set_option maxRecDepth 100000 in
set_option maxHeartbeats 4000000 in
theorem mvd_bad (m : MapD) (A : Option Addr) (c : Nat) (A2 : Option Addr) (c2 : Nat) (A3 : Option Addr) (c3 : Nat) (q : Int) (w : World) (h : MArg m A c A2 c2 A3 c3 w) (ht : thinM m = true) (z : Int) (hz : z ≠ 0) (hc : chkM m = z) :
    Calls Tryz.prog 3 #[.agg #[.slice A m.old.length c, .int .i64 m.nw, .slice A2 m.ss.length c2, .slice A3 m.js.length c3], .int .u8 q] w fun e w' => e = .returned (.bool true) ∧ Below w.heap.size w w' := by
  have hB := below_box (w := w) #[.slice A m.old.length c, .int .i64 m.nw, .slice A2 m.ss.length c2, .slice A3 m.js.length c3] 26
  have hT := Blk.new w 26 #[.slice A m.old.length c, .int .i64 m.nw, .slice A2 m.ss.length c2, .slice A3 m.js.length c3]
  have HB0 := hid hB
  have HT0 := hid hT
  have HH := hid h
  obtain ⟨t0, t1, t2, t3⟩ := hT.c4
  clear h hB hT
  have HTN := hid ht
  have HC := hid hc
  have hzn : (z != 0) = true := by simpa using hz
  clear ht hc
  go_enter Tryz.func3, Tryz.ntmps3
  have K1 := hid (mthin_any m A c A2 c2 A3 c3 (w.alloc (.cells #[.slice A m.old.length c, .int .i64 m.nw, .slice A2 m.ss.length c2, .slice A3 m.js.length c3] 26)))
  rw [HTN.out] at K1
  go_wp2_with fail
  refine K1.out.mono ?_
  rintro e w1 ⟨rfl, hb⟩
  have HB1 := hid (HB0.out.trans (hb.mono HB0.out.size))
  have HT1 := hid (HT0.out.keep hb)
  clear hb K1 t0 t1 t2 t3
  obtain ⟨t0, t1, t2, t3⟩ := HT1.out.c4
  have K2 := hid (qfault_any m A c A2 c2 A3 c3 w1 (HH.out.at_ HB1.out).toMIn)
  rw [HC.out] at K2
  go_wp2_with fail
  refine K2.out.mono ?_
  rintro e w2 ⟨rfl, hb⟩
  have HB2 := hid (HB1.out.trans (hb.mono HB1.out.size))
  have HT2 := hid (HT1.out.keep hb)
  clear hb K2 t0 t1 t2 t3
  obtain ⟨t0, t1, t2, t3⟩ := HT2.out.c4
  have K3 := hid (carried_y w2)
  go_wp2_with fail
  refine K3.out.mono ?_
  rintro e w3 ⟨rfl, hb⟩
  have HB3 := hid (HB2.out.trans (hb.mono HB2.out.size))
  have HT3 := hid (HT2.out.keep hb)
  clear hb K3 t0 t1 t2 t3
  obtain ⟨t0, t1, t2, t3⟩ := HT3.out.c4
  clear t0 t1 t2 t3
  go_wp2
  go_ret
  exact ⟨rfl, HB3.out⟩

set_option maxRecDepth 100000 in
set_option maxHeartbeats 16000000 in
theorem mvd_good (m : MapD) (A : Option Addr) (c : Nat) (A2 : Option Addr) (c2 : Nat) (A3 : Option Addr) (c3 : Nat) (q : Int) (w : World) (h : MArg m A c A2 c2 A3 c3 w) (hq0 : 0 ≤ q) (hq1 : q ≤ 255) (ht : thinM m = true) (hc : chkM m = 0) :
    Calls Tryz.prog 3 #[.agg #[.slice A m.old.length c, .int .i64 m.nw, .slice A2 m.ss.length c2, .slice A3 m.js.length c3], .int .u8 q] w fun e w' => e = .returned (.bool true) ∧ Below w.heap.size w w' := by
  have hB := below_box (w := w) #[.slice A m.old.length c, .int .i64 m.nw, .slice A2 m.ss.length c2, .slice A3 m.js.length c3] 26
  have hT := Blk.new w 26 #[.slice A m.old.length c, .int .i64 m.nw, .slice A2 m.ss.length c2, .slice A3 m.js.length c3]
  have HB0 := hid hB
  have HT0 := hid hT
  have HH := hid h
  obtain ⟨t0, t1, t2, t3⟩ := hT.c4
  clear h hB hT
  have HTN := hid ht
  have HTH := hid (thinM_iff.1 ht)
  have HC := hid hc
  have OK := hid (chk_okm hc)
  have hs8 := OK.out.s8
  have hs1 := OK.out.s1
  have hd4 := OK.out.d4
  have hd1 := OK.out.d1
  obtain ⟨r, hr⟩ : ∃ r, q % 99 = r := ⟨_, rfl⟩
  have hr0 : 0 ≤ r ∧ r < 99 := by rw [← hr]; exact ⟨Int.emod_nonneg _ (by omega), Int.emod_lt_of_pos _ (by omega)⟩
  have htm : q.tmod 99 = r := by rw [Int.tmod_eq_emod_of_nonneg hq0]; exact hr
  have hwq : IntKind.i64.wrap q = q := IntWalk.i64_in _ (by omega)
  have hwr : IntKind.i64.wrap r = r := IntWalk.i64_in _ (by omega)
  obtain ⟨b, hb⟩ : ∃ b, 2 + r = b := ⟨_, rfl⟩
  have hwb : IntKind.i64.wrap (2 + r) = b := by rw [← hb]; exact IntWalk.i64_in _ (by omega)
  have hb2 : 2 ≤ b ∧ b ≤ 100 := by omega
  obtain ⟨N, hN⟩ : ∃ N : Nat, m.nw = (N : Int) := ⟨m.nw.toNat, by have := OK.out.n1; omega⟩
  have HN := hid hN
  have hn1 : 1 ≤ N := by have := OK.out.n1; omega
  have hn4 : N ≤ 4 := by have := OK.out.n4; omega
  have HCL := hid (car_len m)
  have HSL := hid (show (smD m (ownL m) (car m)).length = N by unfold smD; rw [smTo_len, hN]; omega)
  have hNn : ((N : Int) != m.nw) = false := by rw [hN]; simp
  have HWN := hid (tab_ways0 OK.out hb2.1 hb2.2)
  have HCK := hid (tab_chk0 OK.out hb2.1 hb2.2)
  obtain ⟨X, hX⟩ : ∃ X, X = tabM m := ⟨_, rfl⟩
  have HX := hid hX
  have HXL := hid (show X.length = m.old.length by rw [hX, tabM_len])
  rw [← hX] at HWN HCK
  clear ht hc hr hb hX hN
  go_enter Tryz.func3, Tryz.ntmps3
  have K1 := hid (mthin_any m A c A2 c2 A3 c3 (w.alloc (.cells #[.slice A m.old.length c, .int .i64 m.nw, .slice A2 m.ss.length c2, .slice A3 m.js.length c3] 26)))
  rw [HTN.out] at K1
  go_wp2_with fail
  refine K1.out.mono ?_
  rintro e w1 ⟨rfl, hb⟩
  have HB1 := hid (HB0.out.trans (hb.mono HB0.out.size))
  have HT1 := hid (HT0.out.keep hb)
  clear hb K1 t0 t1 t2 t3
  obtain ⟨t0, t1, t2, t3⟩ := HT1.out.c4
  have K2 := hid (qfault_any m A c A2 c2 A3 c3 w1 (HH.out.at_ HB1.out).toMIn)
  rw [HC.out] at K2
  go_wp2_with fail
  refine K2.out.mono ?_
  rintro e w2 ⟨rfl, hb⟩
  have HB2 := hid (HB1.out.trans (hb.mono HB1.out.size))
  have HT2 := hid (HT1.out.keep hb)
  clear hb K2 t0 t1 t2 t3
  obtain ⟨t0, t1, t2, t3⟩ := HT2.out.c4
  have K3 := hid (map_thin (HH.out.at_ HB2.out) HTH.out)
  go_wp2_with fail
  refine K3.out.mono ?_
  rintro e w3 ⟨P3, Q3, R3, rfl, hm, hb⟩
  have HB3 := hid (HB2.out.trans (hb.mono HB2.out.size))
  have HT3 := hid (HT2.out.keep hb)
  have M3 := hid hm
  clear hm
  clear hb K3 t0 t1 t2 t3
  obtain ⟨t0, t1, t2, t3⟩ := HT3.out.c4
  have K4 := hid (carry_good M3.out HC.out)
  unfold GivesCar at K4
  rw [HCL.out, HSL.out] at K4
  go_wp2_with fail
  refine K4.out.mono ?_
  rintro e w4 ⟨⟨A5, c5⟩, ⟨A6, c6⟩, rfl, hp, hq, hb⟩
  have HB4 := hid (HB3.out.trans (hb.mono HB3.out.size))
  have HT4 := hid (HT3.out.keep hb)
  have HP0 := hid hp
  have HQ0 := hid hq
  clear hp hq
  clear hb K4 t0 t1 t2 t3
  obtain ⟨t0, t1, t2, t3⟩ := HT4.out.c4
  obtain ⟨aa, eaa⟩ : ∃ a, A2 = some a := by
    obtain ⟨a, e, _⟩ := HH.out.is 0 _ (List.getElem?_eq_getElem (by omega))
    exact ⟨a, e⟩
  obtain ⟨ao, eao⟩ : ∃ a, A = some a := by
    obtain ⟨a, e, _⟩ := HH.out.io 0 _ (List.getElem?_eq_getElem (by omega))
    exact ⟨a, e⟩
  obtain ⟨a5, ea5⟩ : ∃ a, A5 = some a := by
    obtain ⟨a, e, _⟩ := HP0.out.1 0 _ (List.getElem?_eq_getElem (by rw [HCL.out]; omega))
    exact ⟨a, e⟩
  obtain ⟨a6, ea6⟩ : ∃ a, A6 = some a := by
    obtain ⟨a, e, _⟩ := HQ0.out.1 0 _ (List.getElem?_eq_getElem (by rw [HSL.out]; omega))
    exact ⟨a, e⟩
  subst eaa eao ea5 ea6
  go_upto_region 8 with (fail)
  obtain ⟨Bx, hBx⟩ : ∃ Bx, Bx = w4.heap.size := ⟨_, rfl⟩
  have hmk := run_make_row' (P := Tryz.prog) 22 3 (.int .i64 0) 8 Tryz.underlying22 int_info rfl .i64 .i64 N (by omega) (by omega)
  rw [← HN.out] at hmk
  clear htm hwq hwr hwb
  refine gen (p := Code.wp _ _ _ _) (fun W => XM m (some ao) c (some aa) c2 A3 c3 b Bx X 0 (.slice none 0 0) w w4 W) ⟨HT4.out.alloc _, by rw [hBx]; exact Blk.new _ _ _, Rows_.zero, HB4.out.alloc HB4.out.size _, by rw [hBx]; exact below_box _ _, by have := HT4.out.lt; omega⟩ ?_
  have HBx := hid hBx
  rw [← hBx]
  clear t0 t1 t2 t3
  rintro WB hi
  have HI0 := hid hi
  clear hi hBx
  go_wp2
  go_loopw [10] (fun i W => ∃ (o : Nat) (v : Value), o ≤ m.old.length ∧ i = .int .i64 o ∧ XM m (some ao) c (some aa) c2 A3 c3 b Bx X o v w w4 W) (fun i _ => m.old.length - (intOf i).toNat)
  case atStart => exact ⟨0, _, Nat.zero_le _, rfl, HI0.out⟩
  case round =>
    obtain ⟨o, v, hk, rfl, hi⟩ := hrel
    clear HI0
    have HI := hid hi
    obtain ⟨t0, t1, t2, t3⟩ := hi.tb.c4
    clear hi
    by_cases hlt : o < m.old.length
    · have hkI : (o : Int) < (m.old.length : Int) := by omega
      have HLT := hid hlt
      generalize wr = wo at *
      go_upto_region 12 with (fail)
      obtain ⟨r9, hr9⟩ : ∃ r9, wo.heap.size = r9 := ⟨_, rfl⟩
      refine gen (p := Code.wp _ _ _ _) (fun W => Blk W r9 3 (intC (rwTo m o 0)) ∧ Below wo.heap.size wo W) ⟨by rw [← hr9, rwTo_start, HN.out]; exact row_new _ _, below_box _ _⟩ ?_
      have HR9 := hid hr9
      rw [hr9]
      clear t0 t1 t2 t3 hr9
      rintro W0 ⟨h1, h2⟩
      have H0 := hid (And.intro h1 h2)
      clear h1 h2
      go_wp2
      go_loopw [12] (fun i W => ∃ j : Nat, j ≤ m.ss.length ∧ i = .int .i64 j ∧ Blk W r9 3 (intC (rwTo m o j)) ∧ Below r9 wo W) (fun i _ => m.ss.length - (intOf i).toNat)
      case atStart => exact ⟨0, Nat.zero_le _, rfl, H0.out⟩
      case round =>
        clear H0
        obtain ⟨j, hj, rfl, hrb, hbj0⟩ := hrel
        have hbj : Below wo.heap.size wo wr := by rw [HR9.out]; exact hbj0
        have HRB := hid hrb
        have HBJ := hid hbj
        have hIJ := HI.out.at_ hbj
        have HIJ := hid hIJ
        obtain ⟨t0, t1, t2, t3⟩ := hIJ.tb.c4
        clear hrb hbj hbj0 hIJ
        by_cases hlj : j < m.ss.length
        · have hjI : (j : Int) < (m.ss.length : Int) := by omega
          obtain ⟨s, hs⟩ : ∃ s, m.ss[j]? = some s := ⟨_, List.getElem?_eq_getElem hlj⟩
          obtain ⟨a9, e9, gl9, f0, f1, f2, f3, f4⟩ := (HH.out.at_ HIJ.out.below).is j s hs
          cases e9
          clear f2 f3 f4 gl9
          have hso := OK.out.sAt hlj
          rw [MapD.S_eq hs] at hso
          by_cases hod : s.o = (o : Int)
          · have hoB : (s.o == (o : Int)) = true := by simp [hod]
            obtain ⟨k, hkn⟩ : ∃ k : Nat, s.n = (k : Int) := ⟨s.n.toNat, by omega⟩
            have hkN : k < N := by have := HN.out; omega
            have HTK := hid (rwTo_take hs hod hkn (show k < m.nw.toNat by have := HN.out; omega))
            obtain ⟨x, hx⟩ : ∃ x, (car m)[j]? = some x := ⟨_, List.getElem?_eq_getElem (by rw [HCL.out]; exact hlj)⟩
            obtain ⟨y, hy⟩ : ∃ y, (rwTo m o j)[k]? = some y := ⟨_, List.getElem?_eq_getElem (by rw [rwTo_len]; have := HN.out; omega)⟩
            have hyb : 0 ≤ y ∧ y ≤ 10000 := by
              have := celTo_le OK.out HLT.out (show k < m.nw.toNat by have := HN.out; omega) (Nat.le_of_lt hlj)
              rw [← rwTo_get (show k < m.nw.toNat by have := HN.out; omega), List.getD, hy] at this
              exact this
            have hxb := car_bounds OK.out x (List.mem_of_getElem? hx)
            have hwy : IntKind.i64.wrap (y + x) = y + x := IntWalk.i64_in _ (by omega)
            have hpx := HP0.out.at_ (by rw [← HBx.out]; exact HIJ.out.up)
            have HF5 := hid (And.intro (int_at9 hpx.1 hx) (int_b9 hpx.1 hx))
            rw [hkn] at f1
            have HF1 := hid (And.intro f1 (show (aa.add (j * 5)).block < wr.heap.size by
              have := block_lt_of_cell f0
              exact this))
            have HNX := hid (fun (W2 : World) (hW : Below wr.heap.size wr W2) => show Blk (W2.setCell ⟨r9, k, none⟩ (.int .i64 (y + x))) r9 3 (intC (rwTo m o (j + 1))) ∧ Below r9 wo (W2.setCell ⟨r9, k, none⟩ (.int .i64 (y + x))) from by
              refine ⟨?_, ?_⟩
              · have h := (HRB.out.keep hW).set_ k (.int .i64 (y + x))
                rw [intC_set] at h
                rw [HTK.out, List.getD, hy, List.getD, hx]
                exact h
              · have h9 := (HBJ.out.trans (hW.mono HBJ.out.size)).setCell (p := ⟨r9, k, none⟩) (by show wo.heap.size ≤ r9; rw [HR9.out]; exact Nat.le_refl _) (.int .i64 (y + x))
                rwa [HR9.out] at h9)
            have HYC := hid (fun (W2 : World) (hW : Below wr.heap.size wr W2) => show W2.cell? ⟨r9, k, none⟩ = some (.int .i64 y) ∧ W2.frozen? ⟨r9, k, none⟩ = false ∧ r9 < W2.heap.size from ⟨((HRB.out.keep hW).cell k).trans (intC_get hy), (HRB.out.keep hW).frozen k, (HRB.out.keep hW).lt⟩)
            have hkI2 : (k : Int) < (N : Int) := by omega
            clear hs hso hod hkn hx hy hyb hxb hpx f1
            go_wp2
            clear t0 t1 t2 t3 f0
            refine (wpIn_wide (n := 0)).1 ?_
            refine wpIn_region_each 15 (fun i v W' => match i with | 0 => v = .slice (some ⟨r9, 0, none⟩) N N | 1 => v = .pointer (some ⟨w.heap.size, 2, none⟩) | 2 => v = .slice (some aa) m.ss.length c2 | 3 => v = .int .i64 (j : Int) | 4 => v = .pointer (some (aa.add (j * 5))) | 5 => v = .pointer (some ⟨(aa.add (j * 5)).block, (aa.add (j * 5)).off + 1, none⟩) | 6 => v = .int .i64 (k : Int) | 7 => v = .pointer (some ⟨r9, k, none⟩) | 8 => v = .int .i64 y | 9 => v = .slice (some a5) m.ss.length c5 | 10 => v = .int .i64 (j : Int) | 11 => v = .pointer (some (a5.add j)) | 12 => v = .int .i64 x | 13 => v = .int .i64 (y + x) | 14 => v = .pointer (some ⟨r9, k, none⟩) | _ => True) (fun A B => Below A.heap.size A B) (fun _ _ => True) (by kernel_rfl) (by kernel_rfl) ?_ (fun h k => h.trans (k.mono h.size)) ⟨rfl, rfl, rfl, Nat.le_refl _, fun _ _ => rfl⟩ trivial (by kernel_rfl) ?_ ?_
            · intro i v W1 W2 hb h
              match i, h with
              | 0, h => exact h
              | 1, h => exact h
              | 2, h => exact h
              | 3, h => exact h
              | 4, h => exact h
              | 5, h => exact h
              | 6, h => exact h
              | 7, h => exact h
              | 8, h => exact h
              | 9, h => exact h
              | 10, h => exact h
              | 11, h => exact h
              | 12, h => exact h
              | 13, h => exact h
              | 14, h => exact h
              | i + 15, h => trivial
            · refine ⟨?_, ?_, ?_, ?_, ?_, ?_, ?_, ?_, ?_, ?_, ?_, ?_, ?_, ?_, ?_, trivial⟩
              · -- 0
                intro li a1 W2 hA K hK
                have e11 := hA.par 11 (by kernel_rfl)
                refine opStep none 0 rfl rfl (fun c hc => by cases hc) ?_
                go_simp
                exact hK _ _ rfl (Below.refl _ _) trivial
              · -- 1
                intro li a1 W2 hA K hK
                have e2 := hA.par 2 (by kernel_rfl)
                refine opStep none 0 rfl rfl (fun c hc => by cases hc) ?_
                go_simp
                exact hK _ _ rfl (Below.refl _ _) trivial
              · -- 2
                intro li a1 W2 hA K hK
                have e87 : a1.tmps.getD 87 undef = .pointer (some ⟨w.heap.size, 2, none⟩) := hA.val 1 87 (by kernel_rfl) (by kernel_rfl)
                obtain ⟨q1, q2, q3, q4⟩ := (HIJ.out.tb.keep hA.st).c4
                refine opStep none 0 rfl rfl (fun c hc => by cases hc) ?_
                go_simp
                exact hK _ _ rfl (Below.refl _ _) trivial
              · -- 3
                intro li a1 W2 hA K hK
                have e12 := hA.par 12 (by kernel_rfl)
                refine opStep none 0 rfl rfl (fun c hc => by cases hc) ?_
                go_simp
                exact hK _ _ rfl (Below.refl _ _) trivial
              · -- 4
                intro li a1 W2 hA K hK
                have e88 : a1.tmps.getD 88 undef = .slice (some aa) m.ss.length c2 := hA.val 2 88 (by kernel_rfl) (by kernel_rfl)
                have e89 : a1.tmps.getD 89 undef = .int .i64 (j : Int) := hA.val 3 89 (by kernel_rfl) (by kernel_rfl)
                refine opStep none 0 rfl rfl (fun c hc => by cases hc) ?_
                go_simp
                exact hK _ _ (by first | rfl | exact congrArg (fun q => Value.pointer (some q)) (add_blk _ _)) (Below.refl _ _) trivial
              · -- 5
                intro li a1 W2 hA K hK
                have e90 : a1.tmps.getD 90 undef = .pointer (some (aa.add (j * 5))) := hA.val 4 90 (by kernel_rfl) (by kernel_rfl)
                refine opStep none 0 rfl rfl (fun c hc => by cases hc) ?_
                go_simp
                exact hK _ _ rfl (Below.refl _ _) trivial
              · -- 6
                intro li a1 W2 hA K hK
                have e91 : a1.tmps.getD 91 undef = .pointer (some ⟨(aa.add (j * 5)).block, (aa.add (j * 5)).off + 1, none⟩) := hA.val 5 91 (by kernel_rfl) (by kernel_rfl)
                have q1 := (hA.st.cell (p := ⟨(aa.add (j * 5)).block, (aa.add (j * 5)).off + 1, none⟩) HF1.out.2).trans HF1.out.1
                refine opStep none 0 rfl rfl (fun c hc => by cases hc) ?_
                go_simp
                exact hK _ _ rfl (Below.refl _ _) trivial
              · -- 7
                intro li a1 W2 hA K hK
                have e86 : a1.tmps.getD 86 undef = .slice (some ⟨r9, 0, none⟩) N N := hA.val 0 86 (by kernel_rfl) (by kernel_rfl)
                have e92 : a1.tmps.getD 92 undef = .int .i64 (k : Int) := hA.val 6 92 (by kernel_rfl) (by kernel_rfl)
                refine opStep none 0 rfl rfl (fun c hc => by cases hc) ?_
                go_simp
                exact hK _ _ (by first | rfl | exact congrArg (fun q => Value.pointer (some q)) (add_blk _ _)) (Below.refl _ _) trivial
              · -- 8
                intro li a1 W2 hA K hK
                have e93 : a1.tmps.getD 93 undef = .pointer (some ⟨r9, k, none⟩) := hA.val 7 93 (by kernel_rfl) (by kernel_rfl)
                obtain ⟨q1, q2, q3⟩ := HYC.out W2 hA.st
                refine opStep none 0 rfl rfl (fun c hc => by cases hc) ?_
                go_simp
                exact hK _ _ rfl (Below.refl _ _) trivial
              · -- 9
                intro li a1 W2 hA K hK
                have e5 := hA.par 5 (by kernel_rfl)
                refine opStep none 0 rfl rfl (fun c hc => by cases hc) ?_
                go_simp
                exact hK _ _ rfl (Below.refl _ _) trivial
              · -- 10
                intro li a1 W2 hA K hK
                have e12 := hA.par 12 (by kernel_rfl)
                refine opStep none 0 rfl rfl (fun c hc => by cases hc) ?_
                go_simp
                exact hK _ _ rfl (Below.refl _ _) trivial
              · -- 11
                intro li a1 W2 hA K hK
                have e95 : a1.tmps.getD 95 undef = .slice (some a5) m.ss.length c5 := hA.val 9 95 (by kernel_rfl) (by kernel_rfl)
                have e96 : a1.tmps.getD 96 undef = .int .i64 (j : Int) := hA.val 10 96 (by kernel_rfl) (by kernel_rfl)
                refine opStep none 0 rfl rfl (fun c hc => by cases hc) ?_
                go_simp
                exact hK _ _ (by first | rfl | exact congrArg (fun q => Value.pointer (some q)) (add_blk _ _)) (Below.refl _ _) trivial
              · -- 12
                intro li a1 W2 hA K hK
                have e97 : a1.tmps.getD 97 undef = .pointer (some (a5.add j)) := hA.val 11 97 (by kernel_rfl) (by kernel_rfl)
                have q1 := (hA.st.cell (by rw [block_of_add]; exact HF5.out.2)).trans HF5.out.1
                refine opStep none 0 rfl rfl (fun c hc => by cases hc) ?_
                go_simp
                exact hK _ _ rfl (Below.refl _ _) trivial
              · -- 13
                intro li a1 W2 hA K hK
                have e94 : a1.tmps.getD 94 undef = .int .i64 y := hA.val 8 94 (by kernel_rfl) (by kernel_rfl)
                have e98 : a1.tmps.getD 98 undef = .int .i64 x := hA.val 12 98 (by kernel_rfl) (by kernel_rfl)
                refine opStep none 0 rfl rfl (fun c hc => by cases hc) ?_
                go_simp
                exact hK _ _ rfl (Below.refl _ _) trivial
              · -- 14
                intro li a1 W2 hA K hK
                have e86 : a1.tmps.getD 86 undef = .slice (some ⟨r9, 0, none⟩) N N := hA.val 0 86 (by kernel_rfl) (by kernel_rfl)
                have e92 : a1.tmps.getD 92 undef = .int .i64 (k : Int) := hA.val 6 92 (by kernel_rfl) (by kernel_rfl)
                refine opStep none 0 rfl rfl (fun c hc => by cases hc) ?_
                go_simp
                exact hK _ _ (by first | rfl | exact congrArg (fun q => Value.pointer (some q)) (add_blk _ _)) (Below.refl _ _) trivial
            · intro li a1 W2 hD
              have e99 : a1.tmps.getD 99 undef = .int .i64 (y + x) := hD.val 13 99 (by kernel_rfl) (by kernel_rfl)
              have e100 : a1.tmps.getD 100 undef = .pointer (some ⟨r9, k, none⟩) := hD.val 14 100 (by kernel_rfl) (by kernel_rfl)
              obtain ⟨q1, q2, q3⟩ := HYC.out W2 hD.st
              have HNY := hid (HNX.out W2 hD.st)
              have hkp2 := hD.keeps (ds := [86, 87, 88, 89, 90, 91, 92, 93, 94, 95, 96, 97, 98, 99, 100]) (by kernel_rfl)
              refine tail_store (i := 15) (W' := W2.setCell ⟨r9, k, none⟩ (.int .i64 (y + x))) none 0 rfl rfl rfl (fun c hc => by cases hc) (by go_simp) ?_
              have e := act_mix [86, 87, 88, 89, 90, 91, 92, 93, 94, 95, 96, 97, 98, 99, 100] hD.size hD.defers (fun i _ hc => hkp2 i hc)
              generalize (fun i => a1.tmps.getD i undef) = g' at e
              refine wpListIn_nil ?_
              rw [e]
              clear e hD hkp2 e99 e100 q1 q2 q3 HNX HYC HF1 HF5
              simp only [mix, List.contains_cons, List.contains_nil, Nat.reduceAdd, Nat.reduceBEq, Bool.or_false, Bool.or_true, cond_true, cond_false]
              generalize W2.setCell ⟨r9, k, none⟩ (.int .i64 (y + x)) = W3 at *
              go_wp2
              go_roundw
              case rel => exact ⟨j + 1, by omega, by go_num, HNY.out⟩
              case measure => first | (simp [intOf]; done) | (simp [intOf]; omega)
          · have hoB : (s.o == (o : Int)) = false := by simpa using hod
            have HTK := hid (rwTo_skip hs hod)
            clear hs hod hso f1
            go_wp2
            clear t0 t1 t2 t3 f0
            go_roundw
            case rel => exact ⟨j + 1, by omega, by go_num, by rw [HTK.out]; exact HRB.out, by rw [← HR9.out]; exact HBJ.out⟩
            case measure => first | (simp [intOf]; done) | (simp [intOf]; omega)
        · have hjI : decide ((j : Int) < (m.ss.length : Int)) = false := decide_eq_false (by omega)
          obtain rfl : j = m.ss.length := by omega
          have HRL := hid (show (rwTo m o m.ss.length).length = N by rw [rwTo_len]; have := HN.out; omega)
          have HXS := hid (show X[o]? = some (rwTo m o m.ss.length) by rw [HX.out]; exact tabM_get HLT.out)
          have hgd := good_blk HRB.out (by rw [HRL.out]; unfold maxLen; omega)
          rw [HRL.out] at hgd
          obtain ⟨vs, hov, hvs⟩ := HIJ.out.rows
          have hba : Below wr.heap.size wr (wr.alloc (.cells #[.slice (some ⟨r9, 0, none⟩) N N] 22)) := (Below.refl _ _).alloc (Nat.le_refl _) _
          have HBA := hid hba
          have HVS := hid (show ∀ i x, i < o → X[i]? = some x → ∃ A c, vs[i]? = some (.slice A x.length c) ∧ Good (fun _ => False) (wr.alloc (.cells #[.slice (some ⟨r9, 0, none⟩) N N] 22)) ⟨0, 0, x⟩ A c from fun i x hi hx => by
            obtain ⟨A', c', q1, q2⟩ := hvs i x hi hx
            exact ⟨A', c', q1, q2.below hba⟩)
          have HGD := hid hgd
          have HO := hid (hov.alloc (.cells #[.slice (some ⟨r9, 0, none⟩) N N] 22))
          have HBB := hid (HIJ.out.bx.alloc (.cells #[.slice (some ⟨r9, 0, none⟩) N N] 22))
          obtain ⟨s0, s1, s2⟩ := HIJ.out.bx.c3
          have hbxl := HIJ.out.bx.lt
          have hws := HIJ.out.below.size
          obtain ⟨i0, hi0, hz0, hz1, hz2⟩ := info_parts rows_info
          clear hgd hov hvs hba t0 t1 t2 t3
          go_wp2_with (at_builtin; refine wpList_append_own_at _ rfl _ _ 38 rfl Bx 22 i0 (.slice none 0 0) 1 24 Tryz.underlying38 hi0 hz0 hz1 hz2 rfl (by decide) v o vs rfl HO.out ⟨wr.heap.size, 0, none⟩ 1 1 [.slice (some ⟨r9, 0, none⟩) N N] rfl rfl (by intro q u hq; cases q with | zero => simp at hq; subst hq; exact (World.cell?_alloc_new _ _ _ _) | succ q => simp at hq) (by intro u hu; simp at hu; subst hu; rfl) (by simp only [maxLen]; omega) (by omega) (by simp; omega) ?_; intro v' w6 hown' hgrow _ _; obtain ⟨g6, cap6, rfl⟩ := Go.ownsRow_succ hown'; have hio6 := HBB.out.row HO.out (by decide) hgrow; obtain ⟨_, w1c, _⟩ := hio6.c3; have wf1 := hio6.frozen 1; have wl1 := hio6.lt)
          have HNX := hid (HIJ.out.next HXS.out HGD.out HBA.out HO.out HVS.out hgrow (by rw [HRL.out]; exact hown'))
          clear hio6 hown' hgrow HO HBB HVS HBA HGD w1c wf1 wl1 s0 s1 s2
          go_wp2
          go_roundw
          case rel => exact ⟨o + 1, _, by omega, by go_num, HNX.out⟩
          case measure => first | (simp [intOf]; done) | (simp [intOf]; omega)
    · have hkI : decide ((o : Int) < (m.old.length : Int)) = false := decide_eq_false (by omega)
      obtain rfl : o = m.old.length := by omega
      have hrw := HI.out.rows
      rw [← HXL.out] at hrw
      obtain ⟨AX, cX, e1, r1, r2, r3, r4, r5⟩ := hrw.out
      rw [HXL.out] at e1 r2
      subst e1
      have HTX := hid (show TIn AX cX X none 0 [] wr from ⟨r1, (fun k f hk => by simp at hk), by rw [HXL.out]; exact r2, r3, Nat.le_refl 0, Nat.zero_le maxLen, by have := tab_cols OK.out; rw [HX.out, this]; unfold maxLen; have := HN.out; omega⟩)
      have HBW := hid HI.out.below
      have HTW := hid HI.out.tb
      have HUP := hid HI.out.up
      have XB0 := hid HI.out.bx
      obtain ⟨s0, s1, s2⟩ := XB0.out.c3
      have HBT := hid (show bestOf b X [] X.length zeroS = bstT m b by rw [HX.out]; rfl)
      have KBE := best_any b AX cX X none 0 [] wr HTX.out
      simp only [HCK.out, ne_eq, not_true_eq_false, if_false, HWN.out] at KBE
      unfold GivesBest at KBE
      rw [HBT.out] at KBE
      obtain ⟨chg, hchg⟩ : ∃ x, (spec b X [] X.length zeroS).change = x := ⟨_, rfl⟩
      rw [hchg, HXL.out, List.length_nil] at KBE
      have K8 := hid KBE
      clear hrw r1 r2 r3 r4 r5 KBE hchg
      go_wp2_with fail
      refine K8.out.mono ?_
      rintro e w8 ⟨A8, c8, rfl, g1, g2, g3, g4, g5, hb⟩
      have HT8 := hid (HTW.out.keep hb)
      have HB8 := hid (HBW.out.trans (hb.mono HBW.out.size))
      have XB8 := hid (XB0.out.keep hb)
      have HX8 := hid (HTX.out.ic.at_ hb)
      have HU8 := hid (HUP.out.trans (hb.mono (Nat.le_of_lt XB0.out.lt)))
      have HL8 := hid g1
      unfold maxLen at g3
      obtain ⟨a8, ea8⟩ : ∃ a, A8 = some a := by
        obtain ⟨a, _, _, e, _⟩ := g1 0 _ (List.getElem?_eq_getElem (by rw [bst_len]; omega))
        exact ⟨a, e⟩
      obtain ⟨ax, eax⟩ : ∃ a, AX = some a := by
        obtain ⟨a, _, _, e, _⟩ := HTX.out.ic 0 _ (List.getElem?_eq_getElem (by rw [HXL.out]; omega))
        exact ⟨a, e⟩
      subst ea8 eax
      clear t0 t1 t2 t3 s0 s1 s2 g1 g4 g5 hb K8 HTX HBW HTW HUP XB0
      obtain ⟨t0, t1, t2, t3⟩ := HT8.out.c4
      go_upto_region 22 with (fail)
      refine gen (p := Code.wp _ _ _ _) (fun W => Blk W w8.heap.size 3 (intC (colsL m b 0 0)) ∧ Below w8.heap.size w8 W) ⟨by rw [colsL_zero, HN.out]; exact row_new _ _, below_box _ _⟩ ?_
      clear t0 t1 t2 t3 hmk
      rintro W9 ⟨h1, h2⟩
      have H9 := hid (And.intro h1 h2)
      clear h1 h2
      go_wp2
      go_loopw [17] (fun i W => ∃ o : Nat, o ≤ m.old.length ∧ i = .int .i64 o ∧ Blk W w8.heap.size 3 (intC (colsL m b o 0)) ∧ Below w8.heap.size w8 W) (fun i _ => m.old.length - (intOf i).toNat)
      case atStart => exact ⟨0, Nat.zero_le _, rfl, H9.out⟩
      case round =>
        clear H9
        obtain ⟨o, ho, rfl, hcb, hbo⟩ := hrel
        have HCB := hid (And.intro hcb hbo)
        clear hcb hbo
        by_cases hlo : o < m.old.length
        · have hoI : (o : Int) < (m.old.length : Int) := by omega
          have HLO := hid hlo
          obtain ⟨xs, hxs⟩ : ∃ xs, (bstT m b)[o]? = some xs := ⟨_, List.getElem?_eq_getElem (by rw [bst_len]; exact hlo)⟩
          have HXS := hid hxs
          have HBR := hid (bst_row OK.out hb2.1 hb2.2 hxs)
          have HBB := hid (bst_bound OK.out hb2.1 hb2.2 hxs)
          have HNL := hid (show xs.length = N by rw [HBR.out.1]; have := HN.out; omega)
          obtain ⟨a8', A9, c9, e8, p0, p1, p2, p3, p4⟩ := HL8.out o xs hxs
          cases e8
          obtain ⟨a9, ea9⟩ : ∃ a, A9 = some a := by
            obtain ⟨a, e, _⟩ := p4 0 _ (List.getElem?_eq_getElem (by rw [HNL.out]; omega))
            exact ⟨a, e⟩
          subst ea9
          rw [HNL.out] at p1 p2
          obtain ⟨ax', A7, c7, e7, x0, x1, x2, x3, x4⟩ := HX8.out o (rwTo m o m.ss.length) (by rw [HX.out]; exact tabM_get hlo)
          cases e7
          rw [rwTo_len, show m.nw.toNat = N by have := HN.out; omega] at x1 x2
          obtain ⟨ar, ear⟩ : ∃ a, A7 = some a := by
            obtain ⟨a, e, _⟩ := x4 0 _ (List.getElem?_eq_getElem (by rw [rwTo_len]; have := HN.out; omega))
            exact ⟨a, e⟩
          subst ear
          unfold maxLen at p3 x3
          have HC1 := hid (fun (W2 : World) (hW : Below w8.heap.size w8 W2) => show W2.cell? (a8.add o) = some (.slice (some a9) N c9) from (hW.cell (by rw [block_of_add]; exact p0)).trans p1)
          have HC2 := hid (fun (W2 : World) (hW : Below w8.heap.size w8 W2) (k : Nat) (y : Int) (hk : xs[k]? = some y) => show W2.cell? (a9.add k) = some (.int .i64 y) from (hW.cell (by rw [block_of_add]; exact int_b9 p4 hk)).trans (int_at9 p4 hk))
          have HC3 := hid (fun (W2 : World) (hW : Below w8.heap.size w8 W2) => show W2.cell? (ax.add o) = some (.slice (some ar) N c7) from (hW.cell (by rw [block_of_add]; exact x0)).trans x1)
          have HC4 := hid (fun (W2 : World) (hW : Below w8.heap.size w8 W2) (k : Nat) (y : Int) (hk : (rwTo m o m.ss.length)[k]? = some y) => show W2.cell? (ar.add k) = some (.int .i64 y) from (hW.cell (by rw [block_of_add]; exact int_b9 x4 hk)).trans (int_at9 x4 hk))
          have HGT := hid (show a8.block < w8.heap.size ∧ ax.block < w8.heap.size from ⟨p0, x0⟩)
          clear hxs p0 p1 p4 x0 x1 x4
          have c1 := HC1.out _ HCB.out.2
          go_wp2
          clear c1
          go_loopw [18, 19] (fun s i W => ∃ k : Nat, k ≤ N ∧ i = .int .i64 k ∧ s = .int .i64 ((xs.take k).sum) ∧ Blk W w8.heap.size 3 (intC (colsL m b o k)) ∧ Below w8.heap.size w8 W) (fun _ i _ => N - (intOf i).toNat)
          case atStart => exact ⟨0, Nat.zero_le _, rfl, by simp, HCB.out⟩
          case round =>
            clear HCB
            obtain ⟨k, hk, rfl, rfl, hcb, hbk⟩ := hrel
            have HCB := hid (And.intro hcb hbk)
            have c1 := HC1.out _ hbk
            clear hcb hbk
            by_cases hlk : k < N
            · have hkI : (k : Int) < (N : Int) := by omega
              have hkw : k < m.nw.toNat := by have := HN.out; omega
              obtain ⟨y, hy⟩ : ∃ y, xs[k]? = some y := ⟨_, List.getElem?_eq_getElem (by rw [HNL.out]; exact hlk)⟩
              obtain ⟨z, hz⟩ : ∃ z, colF (bstT m b) o k k = z := ⟨_, rfl⟩
              obtain ⟨x, hx⟩ : ∃ x, celT m o k = x := ⟨_, rfl⟩
              have hyb := HBB.out y (List.mem_of_getElem? hy)
              obtain ⟨hy1, hy2, hy3⟩ := HBR.out.2.1 k y hy
              have hxb := cel_le OK.out HLO.out hkw
              have hxm := OK.out.atB HLO.out
              rw [hx] at hy2 hy3 hxb
              have HXM := hid (show (rwTo m o m.ss.length)[k]? = some x by rw [← hx]; unfold rwTo; rw [List.getElem?_map, List.getElem?_range hkw]; rfl)
              have hzb := colF_bound OK.out hb2.1 hb2.2 (r := o) (c := k) (k := k) (by omega)
              rw [hz] at hzb
              have hSb := sum_take_bound HBB.out k
              obtain ⟨S, hS⟩ : ∃ S, (xs.take k).sum = S := ⟨_, rfl⟩
              have HS1 := hid (show (xs.take (k + 1)).sum = S + y by
                obtain ⟨h9, e9⟩ := List.getElem?_eq_some_iff.1 hy
                rw [List.take_succ_eq_append_getElem h9, List.sum_append, hS, e9]; simp)
              rw [hS] at hSb
              have hk4 : (k : Int) * 10100 ≤ 4 * 10100 := by omega
              have hwS : IntKind.i64.wrap (S + y) = S + y := IntWalk.i64_in _ (by omega)
              have hwz : IntKind.i64.wrap (z + y) = z + y := IntWalk.i64_in _ (by omega)
              have hcs := colsL_step hkw HXS.out hy
              rw [hz] at hcs
              have hzg : (colsL m b o k)[k]? = some z := by rw [colsL_get hkw, hz]
              have HYC := hid (fun (W2 : World) (hW : Below wr.heap.size wr W2) => show W2.cell? ⟨w8.heap.size, k, none⟩ = some (.int .i64 z) ∧ W2.frozen? ⟨w8.heap.size, k, none⟩ = false ∧ w8.heap.size < W2.heap.size from ⟨((HCB.out.1.keep hW).cell k).trans (intC_get hzg), (HCB.out.1.keep hW).frozen k, (HCB.out.1.keep hW).lt⟩)
              have HNX := hid (fun (W2 : World) (hW : Below wr.heap.size wr W2) => show Blk (W2.setCell ⟨w8.heap.size, k, none⟩ (.int .i64 (z + y))) w8.heap.size 3 (intC (colsL m b o (k + 1))) ∧ Below w8.heap.size w8 (W2.setCell ⟨w8.heap.size, k, none⟩ (.int .i64 (z + y))) from by
                refine ⟨?_, (HCB.out.2.trans (hW.mono HCB.out.2.size)).setCell (p := ⟨w8.heap.size, k, none⟩) (Nat.le_refl _) _⟩
                have h := (HCB.out.1.keep hW).set_ k (.int .i64 (z + y))
                rw [intC_set, ← hcs] at h
                exact h)
              obtain ⟨lo, hlo9⟩ : ∃ lo, lo = max 0 (y - b + 1) := ⟨_, rfl⟩
              obtain ⟨hi, hhi⟩ : ∃ hi, hi = y + b - 1 := ⟨_, rfl⟩
              have hd1 : decide (x < lo) = false := by simp; omega
              have hd2 : decide (hi < x) = false := by simp; omega
              have KL : Hid (∀ W, Calls Tryz.prog 11 #[.int .i64 b, .int .i64 y] W fun e w' => e = .returned (.tuple #[.agg #[.int .i64 lo, .int .i64 hi], .int .i64 0]) ∧ Below W.heap.size W w') := hid fun W => by
                have h1 : withinB b 2 100 = true := by simp [withinB]; omega
                have h2 : withinB y 0 10100 = true := by simp [withinB]; omega
                have := learn_any b y W
                rw [h1, if_neg (by decide), h2, if_neg (by simp [hy1]), ← hlo9, ← hhi] at this
                exact this
              have c2 := HC2.out _ HCB.out.2 k y hy
              have HY := hid hy
              have HBK := hid HCB.out.2
              rw [hS]
              clear hy hz hx hyb hy1 hy2 hy3 hxb hxm hzb hSb hS hcs hzg hlo9 hhi HCB hkw
              go_wp2
              clear c1 c2
              refine (wpIn_wide (n := 0)).1 ?_
              refine wpIn_region_each 13 (fun i v W' => match i with | 0 => v = .slice (some ⟨w8.heap.size, 0, none⟩) N N | 1 => v = .int .i64 (k : Int) | 2 => v = .pointer (some ⟨w8.heap.size, k, none⟩) | 3 => v = .int .i64 z | 4 => v = .slice (some a8) m.old.length c8 | 5 => v = .int .i64 (o : Int) | 6 => v = .pointer (some (a8.add o)) | 7 => v = .slice (some a9) N c9 | 8 => v = .int .i64 (k : Int) | 9 => v = .pointer (some (a9.add k)) | 10 => v = .int .i64 y | 11 => v = .int .i64 (z + y) | 12 => v = .pointer (some ⟨w8.heap.size, k, none⟩) | _ => True) (fun A B => Below A.heap.size A B) (fun _ _ => True) (by kernel_rfl) (by kernel_rfl) ?_ (fun h k => h.trans (k.mono h.size)) ⟨rfl, rfl, rfl, Nat.le_refl _, fun _ _ => rfl⟩ trivial (by kernel_rfl) ?_ ?_
              · intro i v W1 W2 hb h
                match i, h with
                | 0, h => exact h
                | 1, h => exact h
                | 2, h => exact h
                | 3, h => exact h
                | 4, h => exact h
                | 5, h => exact h
                | 6, h => exact h
                | 7, h => exact h
                | 8, h => exact h
                | 9, h => exact h
                | 10, h => exact h
                | 11, h => exact h
                | 12, h => exact h
                | i + 13, h => trivial
              · refine ⟨?_, ?_, ?_, ?_, ?_, ?_, ?_, ?_, ?_, ?_, ?_, ?_, ?_, trivial⟩
                · -- 0
                  intro li a1 W2 hA K hK
                  have e16 := hA.par 16 (by kernel_rfl)
                  refine opStep none 0 rfl rfl (fun c hc => by cases hc) ?_
                  go_simp
                  exact hK _ _ rfl (Below.refl _ _) trivial
                · -- 1
                  intro li a1 W2 hA K hK
                  have e19 := hA.par 19 (by kernel_rfl)
                  refine opStep none 0 rfl rfl (fun c hc => by cases hc) ?_
                  go_simp
                  exact hK _ _ rfl (Below.refl _ _) trivial
                · -- 2
                  intro li a1 W2 hA K hK
                  have e150 : a1.tmps.getD 150 undef = .slice (some ⟨w8.heap.size, 0, none⟩) N N := hA.val 0 150 (by kernel_rfl) (by kernel_rfl)
                  have e151 : a1.tmps.getD 151 undef = .int .i64 (k : Int) := hA.val 1 151 (by kernel_rfl) (by kernel_rfl)
                  refine opStep none 0 rfl rfl (fun c hc => by cases hc) ?_
                  go_simp
                  exact hK _ _ (by first | rfl | exact congrArg (fun q => Value.pointer (some q)) (add_blk _ _)) (Below.refl _ _) trivial
                · -- 3
                  intro li a1 W2 hA K hK
                  have e152 : a1.tmps.getD 152 undef = .pointer (some ⟨w8.heap.size, k, none⟩) := hA.val 2 152 (by kernel_rfl) (by kernel_rfl)
                  obtain ⟨q1, q2, q3⟩ := HYC.out W2 hA.st
                  refine opStep none 0 rfl rfl (fun c hc => by cases hc) ?_
                  go_simp
                  exact hK _ _ rfl (Below.refl _ _) trivial
                · -- 4
                  intro li a1 W2 hA K hK
                  have e13 := hA.par 13 (by kernel_rfl)
                  refine opStep none 0 rfl rfl (fun c hc => by cases hc) ?_
                  go_simp
                  exact hK _ _ rfl (Below.refl _ _) trivial
                · -- 5
                  intro li a1 W2 hA K hK
                  have e17 := hA.par 17 (by kernel_rfl)
                  refine opStep none 0 rfl rfl (fun c hc => by cases hc) ?_
                  go_simp
                  exact hK _ _ rfl (Below.refl _ _) trivial
                · -- 6
                  intro li a1 W2 hA K hK
                  have e154 : a1.tmps.getD 154 undef = .slice (some a8) m.old.length c8 := hA.val 4 154 (by kernel_rfl) (by kernel_rfl)
                  have e155 : a1.tmps.getD 155 undef = .int .i64 (o : Int) := hA.val 5 155 (by kernel_rfl) (by kernel_rfl)
                  refine opStep none 0 rfl rfl (fun c hc => by cases hc) ?_
                  go_simp
                  exact hK _ _ (by first | rfl | exact congrArg (fun q => Value.pointer (some q)) (add_blk _ _)) (Below.refl _ _) trivial
                · -- 7
                  intro li a1 W2 hA K hK
                  have e156 : a1.tmps.getD 156 undef = .pointer (some (a8.add o)) := hA.val 6 156 (by kernel_rfl) (by kernel_rfl)
                  have q1 := HC1.out W2 (HBK.out.trans (hA.st.mono HBK.out.size))
                  refine opStep none 0 rfl rfl (fun c hc => by cases hc) ?_
                  go_simp
                  exact hK _ _ rfl (Below.refl _ _) trivial
                · -- 8
                  intro li a1 W2 hA K hK
                  have e19 := hA.par 19 (by kernel_rfl)
                  refine opStep none 0 rfl rfl (fun c hc => by cases hc) ?_
                  go_simp
                  exact hK _ _ rfl (Below.refl _ _) trivial
                · -- 9
                  intro li a1 W2 hA K hK
                  have e157 : a1.tmps.getD 157 undef = .slice (some a9) N c9 := hA.val 7 157 (by kernel_rfl) (by kernel_rfl)
                  have e158 : a1.tmps.getD 158 undef = .int .i64 (k : Int) := hA.val 8 158 (by kernel_rfl) (by kernel_rfl)
                  refine opStep none 0 rfl rfl (fun c hc => by cases hc) ?_
                  go_simp
                  exact hK _ _ (by first | rfl | exact congrArg (fun q => Value.pointer (some q)) (add_blk _ _)) (Below.refl _ _) trivial
                · -- 10
                  intro li a1 W2 hA K hK
                  have e159 : a1.tmps.getD 159 undef = .pointer (some (a9.add k)) := hA.val 9 159 (by kernel_rfl) (by kernel_rfl)
                  have q1 := HC2.out W2 (HBK.out.trans (hA.st.mono HBK.out.size)) k y HY.out
                  refine opStep none 0 rfl rfl (fun c hc => by cases hc) ?_
                  go_simp
                  exact hK _ _ rfl (Below.refl _ _) trivial
                · -- 11
                  intro li a1 W2 hA K hK
                  have e153 : a1.tmps.getD 153 undef = .int .i64 z := hA.val 3 153 (by kernel_rfl) (by kernel_rfl)
                  have e160 : a1.tmps.getD 160 undef = .int .i64 y := hA.val 10 160 (by kernel_rfl) (by kernel_rfl)
                  refine opStep none 0 rfl rfl (fun c hc => by cases hc) ?_
                  go_simp
                  exact hK _ _ rfl (Below.refl _ _) trivial
                · -- 12
                  intro li a1 W2 hA K hK
                  have e150 : a1.tmps.getD 150 undef = .slice (some ⟨w8.heap.size, 0, none⟩) N N := hA.val 0 150 (by kernel_rfl) (by kernel_rfl)
                  have e151 : a1.tmps.getD 151 undef = .int .i64 (k : Int) := hA.val 1 151 (by kernel_rfl) (by kernel_rfl)
                  refine opStep none 0 rfl rfl (fun c hc => by cases hc) ?_
                  go_simp
                  exact hK _ _ (by first | rfl | exact congrArg (fun q => Value.pointer (some q)) (add_blk _ _)) (Below.refl _ _) trivial
              intro li a1 W2 hD
              have e161 : a1.tmps.getD 161 undef = .int .i64 (z + y) := hD.val 11 161 (by kernel_rfl) (by kernel_rfl)
              have e162 : a1.tmps.getD 162 undef = .pointer (some ⟨w8.heap.size, k, none⟩) := hD.val 12 162 (by kernel_rfl) (by kernel_rfl)
              obtain ⟨q1, q2, q3⟩ := HYC.out W2 hD.st
              have HNY := hid (HNX.out W2 hD.st)
              have hkp2 := hD.keeps (ds := [150, 151, 152, 153, 154, 155, 156, 157, 158, 159, 160, 161, 162]) (by kernel_rfl)
              refine tail_store (i := 13) (W' := W2.setCell ⟨w8.heap.size, k, none⟩ (.int .i64 (z + y))) none 0 rfl rfl rfl (fun c hc => by cases hc) (by go_simp) ?_
              have e := act_mix [150, 151, 152, 153, 154, 155, 156, 157, 158, 159, 160, 161, 162] hD.size hD.defers (fun i _ hc => hkp2 i hc)
              generalize (fun i => a1.tmps.getD i undef) = g' at e
              refine wpListIn_nil ?_
              rw [e]
              clear e hD hkp2 e161 e162 q1 q2 q3 HNX HYC HBK
              simp only [mix, List.contains_cons, List.contains_nil, Nat.reduceAdd, Nat.reduceBEq, Bool.or_false, Bool.or_true, cond_true, cond_false]
              generalize W2.setCell ⟨w8.heap.size, k, none⟩ (.int .i64 (z + y)) = W3 at *
              have c1 := HC1.out _ HNY.out.2
              have c2 := HC2.out _ HNY.out.2 k y HY.out
              go_wp2_with fail
              refine (KL.out _).mono ?_
              rintro e W5 ⟨rfl, hb⟩
              have H5 := hid (And.intro (HNY.out.1.keep hb) (HNY.out.2.trans (hb.mono HNY.out.2.size)))
              clear c1 c2 hb HNY KL
              go_upto_region 32 with (fail)
              obtain ⟨gr, hgr⟩ : ∃ gr, W5.heap.size = gr := ⟨_, rfl⟩
              refine gen (p := Code.wp _ _ _ _) (fun W => (Blk W w8.heap.size 3 (intC (colsL m b o (k + 1))) ∧ Below w8.heap.size w8 W) ∧ Blk W gr 48 #[.int .i64 lo, .int .i64 hi]) ⟨⟨H5.out.1.alloc _, H5.out.2.alloc H5.out.2.size _⟩, by rw [← hgr]; exact Blk.new _ _ _⟩ ?_
              rw [hgr]
              clear hgr H5
              rintro W6 ⟨h6, h7⟩
              have H6 := hid h6
              have q1 := xt_cell (XB8.out.keep h6.2).c3.2.1
              have q2 := xt_cell (HC3.out _ h6.2)
              have q3 := xt_cell (HC4.out _ h6.2 k x HXM.out)
              have q4 := xt_cell h7.c2.1
              have q5 := xt_cell h7.c2.2
              clear h6 h7
              refine wp_region_quiet_xt (by kernel_rfl) (by kernel_rfl) ?_
              repeat go_big_quiet_step (fail)
              refine wpQuiet_nil ?_
              intro W7 hw7
              have hb7 := of_xt hw7
              have HN7 := hid (And.intro (H6.out.1.keep hb7) (H6.out.2.trans (hb7.mono H6.out.2.size)))
              clear hw7 hb7 q1 q2 q3 q4 q5 H6 hd1 hd2
              go_wp2
              go_roundw
              case rel => exact ⟨k + 1, by omega, by go_num, by rw [HS1.out], HN7.out⟩
              case measure => first | (simp [intOf]; done) | (simp [intOf]; omega)
            · have hkI : decide ((k : Int) < (N : Int)) = false := decide_eq_false (by omega)
              have hsum : (xs.take k).sum = xs.sum := by rw [List.take_of_length_le (by rw [HNL.out]; omega)]
              have hSb := sum_take_bound HBB.out k
              rw [hsum] at hSb
              obtain ⟨S, hS⟩ : ∃ S, xs.sum = S := ⟨_, rfl⟩
              obtain ⟨M, hM⟩ : ∃ M, m.old[o]? = some M := ⟨_, List.getElem?_eq_getElem hlo⟩
              have hMb := OK.out.cnt M (List.mem_of_getElem? hM)
              obtain ⟨_, _, g1, g2, g3⟩ := HBR.out
              rw [hS, MapD.at_eq hM] at g2 g3
              rw [hS] at g1 hSb hsum
              have hk4 : (k : Int) * 10100 ≤ 4 * 10100 := by omega
              have htm : S.tmod b = 0 := by rw [Int.tmod_eq_emod_of_nonneg hSb.1]; exact g1
              have hb0 : (b == 0) = false := by simp; omega
              have hb00 : ¬ b = 0 := by omega
              have hw0 : IntKind.i64.wrap 0 = 0 := IntWalk.i64_in _ (by omega)
              have hw1 : IntKind.i64.wrap (S - M) = S - M := IntWalk.i64_in _ (by omega)
              have hw2 : IntKind.i64.wrap (M - S) = M - S := IntWalk.i64_in _ (by omega)
              have hd1 : decide (b ≤ S - M) = false := by simp; omega
              have hd2 : decide (b ≤ M - S) = false := by simp; omega
              have hbw := HB8.out.trans (HCB.out.2.mono HB8.out.size)
              obtain ⟨t0, t1, t2, t3⟩ := (HT8.out.keep HCB.out.2).c4
              have o1 := int_at9 (HH.out.at_ hbw).io hM
              have HN7 := hid (show Blk wr w8.heap.size 3 (intC (colsL m b (o + 1) 0)) ∧ Below w8.heap.size w8 wr by
                have e : colsL m b o k = colsL m b (o + 1) 0 := by rw [show k = m.nw.toNat by have := HN.out; omega]; exact colsL_next o
                rw [← e]; exact HCB.out)
              rw [hsum]
              clear hS hM hMb g1 g2 g3 hSb hsum hbw
              go_wp2
              clear t0 t1 t2 t3 o1
              go_roundw
              case rel => exact ⟨o + 1, by omega, by go_num, HN7.out⟩
              case measure => first | (simp [intOf]; done) | (simp [intOf]; omega)
        · have hoI : decide ((o : Int) < (m.old.length : Int)) = false := decide_eq_false (by omega)
          obtain rfl : o = m.old.length := by omega
          generalize wr = wz at *
          have HQ8 := hid (HQ0.out.at_ (by rw [← HBx.out]; exact HU8.out))
          have HBZ := hid (HB8.out.trans (HCB.out.2.mono HB8.out.size))
          have HQZ := hid (HQ8.out.at_ HCB.out.2)
          have HCZ := hid HCB.out.1
          clear HCB HL8 HX8
          go_wp2
          go_loopw [22] (fun i W => ∃ k : Nat, k ≤ N ∧ i = .int .i64 k ∧ Below wz.heap.size wz W) (fun i _ => N - (intOf i).toNat)
          case atStart => exact ⟨0, Nat.zero_le _, rfl, Below.refl _ _⟩
          case round =>
            obtain ⟨k, hk, rfl, hbk⟩ := hrel
            by_cases hlk : k < N
            · have hkI : (k : Int) < (N : Int) := by omega
              have hkw : k < m.nw.toNat := by have := HN.out; omega
              obtain ⟨y, hy⟩ : ∃ y, (smD m (ownL m) (car m))[k]? = some y := ⟨_, List.getElem?_eq_getElem (by rw [HSL.out]; exact hlk)⟩
              obtain ⟨x, hx⟩ : ∃ x, colF (bstT m b) m.old.length 0 k = x := ⟨_, rfl⟩
              have hxb := colF_bound OK.out hb2.1 hb2.2 (r := m.old.length) (c := 0) (k := k) (Nat.le_refl _)
              rw [hx] at hxb
              have hyb := smTo_bounds (M := 10000) (by omega) (car_bounds OK.out) (car m).length y (List.mem_of_getElem? hy)
              rw [HCL.out] at hyb
              have hs9 : (m.ss.length : Int) * 10000 ≤ 8 * 10000 := by omega
              obtain ⟨g1, g2, g3⟩ := bst_col OK.out hb2.1 hb2.2 hkw (x := x) (by rw [← hx, bst_len]; unfold colF; rw [if_neg (Nat.not_lt_zero _), Int.add_zero]) hy
              have htm : x.tmod b = 0 := by rw [Int.tmod_eq_emod_of_nonneg hxb.1]; exact g1
              have hb0 : (b == 0) = false := by simp; omega
              have hb00 : ¬ b = 0 := by omega
              have hw0 : IntKind.i64.wrap 0 = 0 := IntWalk.i64_in _ (by omega)
              have hw1 : IntKind.i64.wrap (x - y) = x - y := IntWalk.i64_in _ (by omega)
              have hw2 : IntKind.i64.wrap (y - x) = y - x := IntWalk.i64_in _ (by omega)
              have hd1 : decide (b ≤ x - y) = false := by simp; omega
              have hd2 : decide (b ≤ y - x) = false := by simp; omega
              have hxg : (colsL m b m.old.length 0)[k]? = some x := by rw [colsL_get hkw, hx]
              have q1 := xt_cell (((HCZ.out.keep hbk).cell k).trans (intC_get hxg))
              have q2 := xt_cell (int_at9 (HQZ.out.at_ hbk).1 hy)
              have HBK := hid hbk
              clear hbk hy hx hxb hyb g1 g2 g3 hxg
              go_wp2
              refine wp_region_quiet_xt (by kernel_rfl) (by kernel_rfl) ?_
              repeat go_big_quiet_step (fail)
              refine wpQuiet_nil ?_
              intro W7 hw7
              have HN7 := hid (HBK.out.trans ((of_xt hw7).mono HBK.out.size))
              clear hw7 q1 q2 HBK hd1 hd2
              go_wp2
              go_roundw
              case rel => exact ⟨k + 1, by omega, by go_num, HN7.out⟩
              case measure => first | (simp [intOf]; done) | (simp [intOf]; omega)
            · have hkI : decide ((k : Int) < (N : Int)) = false := decide_eq_false (by omega)
              have HBK := hid (HBZ.out.trans (hbk.mono HBZ.out.size))
              have KC := hid (carried_y wr)
              clear hbk
              go_wp2_with fail
              refine KC.out.mono ?_
              rintro e wf ⟨rfl, hb⟩
              have HF := hid (HBK.out.trans (hb.mono HBK.out.size))
              clear hb KC
              go_wp2
              go_ret
              exact ⟨rfl, HF.out⟩

end Go.Proofs.YtlnamjhgbdacbaaGreat
