/- The walks and the plain laws of this part of the program, part 12: what each computes. Conditions stand at each theorem. -/
import Derived.Deep.Upon
import Derived.Handy
import Derived.Test.YtlnamjhgbdacbaaGreatK2
import Derived.Test.YtlnamjhgbdacbaaGreatK10
import Derived.Test.YtlnamjhgbdacbaaGreatK11
/- from: a spot that is not known: the loop. -/
namespace Go.Proofs.YtlnamjhgbdacbaaGreat
open Go.RowKit Go.Shelf
attribute [local go_sem] Oper.semAt_some

theorem choices_any (P : Nat) (r : Int) (W : World) : Calls Tryz.prog 60 #[.pointer (some ⟨P, 0, none⟩), .int .i64 r] W fun e W' =>
    e = .returned (.func (.func 95) #[] #[.pointer (some ⟨W.heap.size, 0, none⟩), .pointer (some ⟨W.heap.size + 1, 0, none⟩)]) ∧ Below W.heap.size W W' ∧ Blk W' W.heap.size 94 #[.pointer (some ⟨P, 0, none⟩)] ∧ Blk W' (W.heap.size + 1) 3 #[.int .i64 r] := by
  go_enter Tryz.func60, Tryz.ntmps60
  go_wp2
  go_ret
  refine ⟨rfl, ((Below.refl _ _).alloc (Nat.le_refl _) _).alloc (by simp) _, (Blk.new _ _ _).alloc _, ?_⟩
  have := Blk.new (W.alloc (.cells #[.pointer (some ⟨P, 0, none⟩)] 94)) 3 #[.int .i64 r]
  rwa [World.size_alloc] at this

theorem grown_then {A B C : World} {m : Nat} (h : A.grownBy B (some m)) (k : B.grownBy C (some m)) : A.grownBy C (some m) :=
  ⟨k.os.trans h.os, k.tape.trans h.tape, k.output.trans h.output, Nat.le_trans h.size k.size, fun i hi hn => (k.block i (Nat.lt_of_lt_of_le hi h.size) hn).trans (h.block i hi hn)⟩
theorem grown_new {A B C : World} {m z : Nat} (h : A.grownBy B (some m)) (k : B.grownBy C (some z)) (hz : A.heap.size ≤ z) : A.grownBy C (some m) :=
  ⟨k.os.trans h.os, k.tape.trans h.tape, k.output.trans h.output, Nat.le_trans h.size k.size, fun i hi hn => (k.block i (Nat.lt_of_lt_of_le hi h.size) (fun e => by cases e; omega)).trans (h.block i hi hn)⟩

theorem pow16 {k : Nat} (h : k ≤ 4) : (16 : Int) ^ k ≤ 65536 := by
  have : k = 0 ∨ k = 1 ∨ k = 2 ∨ k = 3 ∨ k = 4 := by omega
  rcases this with rfl | rfl | rfl | rfl | rfl <;> decide
theorem stepR_skip {cells l : List Int} {nx acc : Rst} (h : (nx.ways == 0) = true) : stepR cells nx acc l = acc := by unfold stepR; rw [if_pos h]
theorem stepR_take {cells l : List Int} {nx acc : Rst} (h : (nx.ways == 0) = false) (h2 : (acc.ways == 0 || decide (nx.change + rowCost l cells < acc.change)) = true) : stepR cells nx acc l = ⟨acc.ways + nx.ways, nx.change + rowCost l cells, l⟩ := by unfold stepR; rw [if_neg (by rw [h]; decide), if_pos h2]
theorem stepR_more {cells l : List Int} {nx acc : Rst} (h : (nx.ways == 0) = false) (h2 : (acc.ways == 0 || decide (nx.change + rowCost l cells < acc.change)) = false) : stepR cells nx acc l = ⟨acc.ways + nx.ways, acc.change, acc.first⟩ := by unfold stepR; rw [if_neg (by rw [h]; decide), if_neg (by rw [h2]; decide)]

/-- what holds when j lists are done -/
structure LoopI (P n mb : Nat) (b : Int) (At : Option Addr) (ct : Nat) (cs : List (List Int)) (Af : Option Addr) (cf : Nat) (fs : List Fx) (W0 : World) (s : S4) (r k B7 : Nat) (Y : Nat → Prop) (y j : Nat) (W : World) : Prop where
  env : FEnv P n mb b At ct cs Af cf fs W
  memo : Memo b cs fs mb (fun q => Y q ∨ q = y) W
  b2 : Blk W W0.heap.size 94 #[.pointer (some ⟨P, 0, none⟩)]
  b3 : Blk W (W0.heap.size + 1) 100 #[.int .i64 (r : Int), .int .i64 s.a, .int .i64 s.b, .int .i64 s.c, .int .i64 s.d]
  b4 : Blk W (W0.heap.size + 1 + 1) 102 #[.int .i64 0, .int .i64 0, .slice none 0 0]
  base : W0.grownBy W (some mb)
  acc : ∃ A c, Blk W B7 102 #[.int .i64 (specTo b cs fs k s j).ways, .int .i64 (specTo b cs fs k s j).change, .slice A (specTo b cs fs k s j).first.length c] ∧ Good (fun q => Y q ∨ q = y) W (specTo b cs fs k s j) A c
theorem LoopI.grown {P n mb : Nat} {b : Int} {At : Option Addr} {ct : Nat} {cs : List (List Int)} {Af : Option Addr} {cf : Nat} {fs : List Fx} {W0 : World} {s : S4} {r k B7 : Nat} {Y : Nat → Prop} {y j z lo : Nat} {W W' : World}
    (h : LoopI P n mb b At ct cs Af cf fs W0 s r k B7 Y y j W) (hz : lo ≤ z) (hg : W.grownBy W' (some z)) (hzc : z = y ∨ ∃ o, W.heap[z]? = some o ∧ o.isCells = false) (hP : P < lo) (hn : n ≤ lo) (hmb : mb < lo) (h0 : W0.heap.size + 1 + 1 < lo) (h7 : B7 < lo) :
    LoopI P n mb b At ct cs Af cf fs W0 s r k B7 Y y j W' := by
  have hk : Keep (fun q => q = z) W W' := Keep.of_grown hg rfl
  have hzc' : (Y z ∨ z = y) ∨ ∃ o, W.heap[z]? = some o ∧ o.isCells = false := by
    rcases hzc with h | h
    · exact .inl (.inr h)
    · exact .inr h
  obtain ⟨A, c, g1, g2⟩ := h.acc
  exact ⟨h.env.keep hk (by omega) (fun q hq => by omega), h.memo.grown hg (by omega) hzc', hk.blk h.b2 (by omega), hk.blk h.b3 (by omega), hk.blk h.b4 (by omega), grown_new h.base hg (by omega), A, c, hk.blk g1 (by omega), g2.grown hg hzc'⟩

set_option maxRecDepth 100000 in
set_option maxHeartbeats 8000000 in
theorem from_miss {P n mb : Nat} {b : Int} {At : Option Addr} {ct : Nat} {cs : List (List Int)} {Af : Option Addr} {cf : Nat} {fs : List Fx} {W : World} {s : S4} {r : Nat} {Y : Nat → Prop} {k : Nat} {es : Array MapEntry} {clock : Nat} (he : FEnv P n mb b At ct cs Af cf fs W) (ok : TOk b cs fs) (hr : r + (k + 1) = cs.length) (hs : Small (10100 * (r : Int)) s) (hY : Y mb) (hYl : ∀ q, Y q → q < W.heap.size) (hmemo : Memo b cs fs mb Y W) (hm : W.heap[mb]? = some (.map es clock)) (hk : SpotKeys es)
    (hno : ∀ x ∈ es.toList, x.key ≠ spotV r s) (hP : P ≠ mb) (hnm : n ≤ mb)
    (hfrom : ∀ (s' : S4) (Y' : Nat → Prop) (W' : World), Small (10100 * ((r + 1 : Nat) : Int)) s' → Y' mb → (∀ q, Y' q → q < W'.heap.size) → FEnv P n mb b At ct cs Af cf fs W' → Memo b cs fs mb Y' W' →
      Calls Tryz.prog 28 #[.pointer (some ⟨P, 0, none⟩), spotV ((r : Int) + 1) s'] W' fun e W'' => ∃ A c, e = .returned (restV (spec b cs fs k s') A c) ∧ W'.grownBy W'' (some mb) ∧ Memo b cs fs mb Y' W'' ∧ Good Y' W'' (spec b cs fs k s') A c) :
    Calls Tryz.prog 28 #[.pointer (some ⟨P, 0, none⟩), spotV (r : Int) s] W fun e W' => ∃ A c, e = .returned (restV (spec b cs fs (k + 1) s) A c) ∧ W.grownBy W' (some mb) ∧ Memo b cs fs mb Y W' ∧ Good Y W' (spec b cs fs (k + 1) s) A c := by
  have HE := hid he
  obtain ⟨k0, k1, k2, k3⟩ := he.reads
  have hlt := he.bp.lt
  have hne : ((r : Int) == (cs.length : Int)) = false := by simp; omega
  have hrl : r ≤ 4 := by have := ok.okc.n2; omega
  have hs2 : Small 200000 s := hs.mono (by omega)
  have hkey := spot_key (r := (r : Int)) (s := s) ⟨by omega, by omega⟩ (hs2.mono (by decide))
  have hml : mb < W.heap.size := (Array.getElem?_eq_some_iff.1 hm).1
  have H0 := hid (And.intro hml (And.intro hm (And.intro hk (And.intro hkey hno))))
  have HH := hid (And.intro ok (And.intro hr (And.intro hs (And.intro hY (And.intro hYl (And.intro hmemo (And.intro hP (And.intro hnm hfrom))))))))
  have HZ := hid (fun W => rest_zero W)
  have HL := hid (And.intro hlt (And.intro hml he.hn))
  clear he ok hr hs hm hk hno hkey hml hY hYl hmemo hP hnm hfrom hrl hs2
  refine callsOf (ro := none) (n := 0) ?_
  refine callsIn_of_wp_marks Tryz.func28 rfl trivial ?_ rfl
  refine wpIn_wide.2 ?_
  simp only [Tryz.ntmps28, List.size_toArray, List.length_cons, List.length_nil, Nat.reduceAdd, Nat.reduceSub, Array.replicate_succ, Array.replicate_zero, List.push_toArray, List.append_toArray, List.nil_append, List.cons_append]
  simp only [spotV]
  go_wp2
  refine gen (p := Code.wp _ _ _ _) (fun W1 => Below W.heap.size W W1 ∧ Blk W1 W.heap.size 94 #[.pointer (some ⟨P, 0, none⟩)] ∧ Blk W1 (W.heap.size + 1) 100 #[.int .i64 (r : Int), .int .i64 s.a, .int .i64 s.b, .int .i64 s.c, .int .i64 s.d] ∧ Blk W1 (W.heap.size + 1 + 1) 102 #[.int .i64 0, .int .i64 0, .slice none 0 0]) ⟨?_, ?_, ?_, ?_⟩ ?_
  · exact (((Below.refl _ _).alloc (Nat.le_refl _) _).alloc (by simp) _).alloc (by simp; omega) _
  · exact ((Blk.new _ _ _).alloc _).alloc _
  · have := (Blk.new (W.alloc (.cells #[.pointer (some ⟨P, 0, none⟩)] 94)) 100 #[.int .i64 (r : Int), .int .i64 s.a, .int .i64 s.b, .int .i64 s.c, .int .i64 s.d]).alloc (.cells #[.int .i64 0, .int .i64 0, .slice none 0 0] 102)
    rwa [World.size_alloc] at this
  · have := Blk.new ((W.alloc (.cells #[.pointer (some ⟨P, 0, none⟩)] 94)).alloc (.cells #[.int .i64 (r : Int), .int .i64 s.a, .int .i64 s.b, .int .i64 s.c, .int .i64 s.d] 100)) 102 #[.int .i64 0, .int .i64 0, .slice none 0 0]
    rwa [World.size_alloc, World.size_alloc] at this
  rintro W1 ⟨hb1, hw1, hs1, hr1⟩
  have HB1 := hid hb1
  have q1 := xt_c1 hw1
  obtain ⟨q2, q3, q4, q5, q6⟩ := xt_c5 hs1
  obtain ⟨q7, q8, q9, q10⟩ := xt_c4 (HE.out.below hb1).bp
  clear hb1 k0 k1 k2 k3 hlt
  refine wp_region_quiet_xt (by kernel_rfl) (by kernel_rfl) ?_
  repeat (go_big_quiet_step (fail))
  refine wpQuiet_nil ?_
  intro W2 hw2
  replace hw2 := of_xt hw2
  clear q1 q2 q3 q4 q5 q6 q7 q8 q9 q10
  go_wp2
  refine gen (p := Code.wp _ _ _ _) (fun W3 => Below W.heap.size W W3 ∧ Blk W3 W.heap.size 94 #[.pointer (some ⟨P, 0, none⟩)] ∧ Blk W3 (W.heap.size + 1) 100 #[.int .i64 (r : Int), .int .i64 s.a, .int .i64 s.b, .int .i64 s.c, .int .i64 s.d] ∧ Blk W3 (W.heap.size + 1 + 1) 102 #[.int .i64 0, .int .i64 0, .slice none 0 0]) ⟨HB1.out.trans (hw2.mono HB1.out.size), hw1.keep hw2, hs1.keep hw2, hr1.keep hw2⟩ ?_
  clear hw2 hw1 hs1 hr1 HB1
  clear W2 W1
  rintro W1 ⟨hb1, hw1, hs1, hr1⟩
  have HM := hid (show mb < W1.heap.size ∧ W1.heap[mb]? = some (.map es clock) ∧ SpotKeys es ∧ (∃ l, keyOf Tryz.prog 100 (spotV r s) = some l) ∧ (∀ x ∈ es.toList, x.key ≠ spotV r s) from
    ⟨Nat.lt_of_lt_of_le H0.out.1 hb1.size, (hb1.block mb H0.out.1).trans H0.out.2.1, H0.out.2.2.1, H0.out.2.2.2.1, H0.out.2.2.2.2⟩)
  clear H0
  have HQ := hid (show ∀ W2, Below W1.heap.size W1 W2 → W2.cell? ⟨W.heap.size, 0, none⟩ = some (.pointer (some ⟨P, 0, none⟩)) ∧ W2.cell? ⟨W.heap.size + 1, 0, none⟩ = some (.int .i64 (r : Int)) ∧ W2.cell? ⟨W.heap.size + 1, 1, none⟩ = some (.int .i64 s.a) ∧ W2.cell? ⟨W.heap.size + 1, 2, none⟩ = some (.int .i64 s.b) ∧ W2.cell? ⟨W.heap.size + 1, 3, none⟩ = some (.int .i64 s.c) ∧ W2.cell? ⟨W.heap.size + 1, 4, none⟩ = some (.int .i64 s.d) ∧ W2.cell? ⟨P, 3, none⟩ = some (.map (some mb)) from
    fun W2 hb => ⟨(hw1.keep hb).c1, (hs1.keep hb).c5.1, (hs1.keep hb).c5.2.1, (hs1.keep hb).c5.2.2.1, (hs1.keep hb).c5.2.2.2.1, (hs1.keep hb).c5.2.2.2.2, (((HE.out.below hb1).below hb).bp).c4.2.2.2⟩)
  refine (wpIn_wide (n := 0)).1 ?_
  refine wpIn_region_each 11 (fun i v _ => match i with | 0 => v = .pointer (some ⟨P, 0, none⟩) | 1 => v = .pointer (some ⟨P, 0, none⟩) | 2 => v = .pointer (some ⟨P, 3, none⟩) | 3 => v = .map (some mb) | 4 => v = .agg #[.int .i64 (r : Int), .int .i64 s.a, .int .i64 s.b, .int .i64 s.c, .int .i64 s.d] | 5 => v = .tuple #[.agg #[.int .i64 0, .int .i64 0, .slice none 0 0], .bool false] | 6 => v = .tuple #[.agg #[.int .i64 0, .int .i64 0, .slice none 0 0], .bool false] | 7 => v = .agg #[.int .i64 0, .int .i64 0, .slice none 0 0] | 8 => v = .bool false | 9 => v = .pointer (some ⟨W1.heap.size, 0, none⟩) | _ => True) (fun _ _ => True) (Ph5 (fun _ => True) W1) (by kernel_rfl) (by kernel_rfl) ?_ (fun _ _ => trivial) trivial (Ph5.start _ (by decide)) (by kernel_rfl) ?_ ?_
  · intro i v _ _ _ h; exact h
  · refine ⟨?_, ?_, ?_, ?_, ?_, ?_, ?_, ?_, ?_, ?_, ?_, trivial⟩
    · -- 0: Op.load 83 t2
      intro li a1 W2 hA K hK
      have e2 := hA.par 2 (by kernel_rfl)
      obtain ⟨q1, q2, q3, q4, q5, q6, q7⟩ := HQ.out W2 hA.ph.below
      refine opStep none 0 rfl rfl (fun c hc => by cases hc) ?_
      go_simp
      exact hK _ _ rfl trivial (hA.ph.other (by decide) (by decide))
    · -- 1: Op.nilCheck t30
      intro li a1 W2 hA K hK
      have e30 : a1.tmps.getD 30 undef = .pointer (some ⟨P, 0, none⟩) := hA.val 0 30 (by kernel_rfl) (by kernel_rfl)
      obtain ⟨q1, q2, q3, q4, q5, q6, q7⟩ := HQ.out W2 hA.ph.below
      refine opStep none 0 rfl rfl (fun c hc => by cases hc) ?_
      go_simp
      exact hK _ _ rfl trivial (hA.ph.other (by decide) (by decide))
    · -- 2: Op.fieldAddr 124 t31 1
      intro li a1 W2 hA K hK
      have e31 : a1.tmps.getD 31 undef = .pointer (some ⟨P, 0, none⟩) := hA.val 1 31 (by kernel_rfl) (by kernel_rfl)
      obtain ⟨q1, q2, q3, q4, q5, q6, q7⟩ := HQ.out W2 hA.ph.below
      refine opStep none 0 rfl rfl (fun c hc => by cases hc) ?_
      go_simp
      exact hK _ _ rfl trivial (hA.ph.other (by decide) (by decide))
    · -- 3: Op.load 122 t32
      intro li a1 W2 hA K hK
      have e32 : a1.tmps.getD 32 undef = .pointer (some ⟨P, 3, none⟩) := hA.val 2 32 (by kernel_rfl) (by kernel_rfl)
      obtain ⟨q1, q2, q3, q4, q5, q6, q7⟩ := HQ.out W2 hA.ph.below
      refine opStep none 0 rfl rfl (fun c hc => by cases hc) ?_
      go_simp
      exact hK _ _ rfl trivial (hA.ph.other (by decide) (by decide))
    · -- 4: Op.load 89 t3
      intro li a1 W2 hA K hK
      have e3 := hA.par 3 (by kernel_rfl)
      obtain ⟨q1, q2, q3, q4, q5, q6, q7⟩ := HQ.out W2 hA.ph.below
      refine opStep none 0 rfl rfl (fun c hc => by cases hc) ?_
      go_simp
      exact hK _ _ rfl trivial (hA.ph.other (by decide) (by decide))
    · -- 5: Op.lookup 122 t33 t34 true
      intro li a1 W2 hA K hK
      have e33 : a1.tmps.getD 33 undef = .map (some mb) := hA.val 3 33 (by kernel_rfl) (by kernel_rfl)
      have e34 : a1.tmps.getD 34 undef = .agg #[.int .i64 (r : Int), .int .i64 s.a, .int .i64 s.b, .int .i64 s.c, .int .i64 s.d] := hA.val 4 34 (by kernel_rfl) (by kernel_rfl)
      obtain ⟨q1, q2, q3, q4, q5, q6, q7⟩ := HQ.out W2 hA.ph.below
      -- raw
      have hq := (hA.ph.below.block mb HM.out.1).trans HM.out.2.1
      rcases spot_look (t := 141) true Tryz.underlying141 (HZ.out _) hq HM.out.2.2.1 HM.out.2.2.2.1 with ⟨hr, _⟩ | ⟨x, hx, hk, _⟩
      · refine opValue (v := .tuple #[.agg #[.int .i64 0, .int .i64 0, .slice none 0 0], .bool false]) none 0 rfl rfl (fun c hc => by cases hc) (W' := W2) (by
          have hr' : (Instr.lookup 141 (.map (some mb)) (.agg #[.int .i64 (r : Int), .int .i64 s.a, .int .i64 s.b, .int .i64 s.c, .int .i64 s.d]) true).run Tryz.prog W2 = _ := hr
          simp [execOp, Act.eval, e33, e34, hr', Result.andThen]) ?_
        exact hK _ _ rfl trivial (hA.ph.other (by decide) (by decide))
      · exact absurd hk (HM.out.2.2.2.2 x hx)
    · -- 6: Op.move t35
      intro li a1 W2 hA K hK
      have e35 : a1.tmps.getD 35 undef = .tuple #[.agg #[.int .i64 0, .int .i64 0, .slice none 0 0], .bool false] := hA.val 5 35 (by kernel_rfl) (by kernel_rfl)
      obtain ⟨q1, q2, q3, q4, q5, q6, q7⟩ := HQ.out W2 hA.ph.below
      refine opStep none 0 rfl rfl (fun c hc => by cases hc) ?_
      go_simp
      exact hK _ _ rfl trivial (hA.ph.other (by decide) (by decide))
    · -- 7: Op.extract t29 0
      intro li a1 W2 hA K hK
      have e29 : a1.tmps.getD 29 undef = .tuple #[.agg #[.int .i64 0, .int .i64 0, .slice none 0 0], .bool false] := hA.val 6 29 (by kernel_rfl) (by kernel_rfl)
      obtain ⟨q1, q2, q3, q4, q5, q6, q7⟩ := HQ.out W2 hA.ph.below
      refine opStep none 0 rfl rfl (fun c hc => by cases hc) ?_
      go_simp
      exact hK _ _ rfl trivial (hA.ph.other (by decide) (by decide))
    · -- 8: Op.extract t29 1
      intro li a1 W2 hA K hK
      have e29 : a1.tmps.getD 29 undef = .tuple #[.agg #[.int .i64 0, .int .i64 0, .slice none 0 0], .bool false] := hA.val 6 29 (by kernel_rfl) (by kernel_rfl)
      obtain ⟨q1, q2, q3, q4, q5, q6, q7⟩ := HQ.out W2 hA.ph.below
      refine opStep none 0 rfl rfl (fun c hc => by cases hc) ?_
      go_simp
      exact hK _ _ rfl trivial (hA.ph.other (by decide) (by decide))
    · -- 9: Op.alloc 91
      intro li a1 W2 hA K hK
      obtain ⟨q1, q2, q3, q4, q5, q6, q7⟩ := HQ.out W2 hA.ph.below
      refine opStep none 0 rfl rfl (fun c hc => by cases hc) ?_
      go_simp
      have hz := hA.ph.sz hA.new
      rw [hz]
      exact hK _ _ rfl trivial (hA.ph.alloc hA.new (by rw [hA.lsize]; decide))
    · -- 10: Op.store 91 t5 t36
      intro li a1 W2 hA K hK
      have e5 : a1.tmps.getD 5 undef = .pointer (some ⟨W1.heap.size, 0, none⟩) := hA.val 9 5 (by kernel_rfl) (by kernel_rfl)
      have e36 : a1.tmps.getD 36 undef = .agg #[.int .i64 0, .int .i64 0, .slice none 0 0] := hA.val 7 36 (by kernel_rfl) (by kernel_rfl)
      obtain ⟨q1, q2, q3, q4, q5, q6, q7⟩ := HQ.out W2 hA.ph.below
      -- raw
      have hl9 := hA.has 9 (by kernel_rfl)
      obtain ⟨u0, u1, u2, hb2⟩ := hA.ph.blk hl9
      obtain ⟨c0, c1, c2⟩ := hb2.c3
      have f0 := hb2.frozen 0
      have f1 := hb2.frozen 1
      have f2 := hb2.frozen 2
      refine opStep none 0 rfl rfl (fun c hc => by cases hc) ?_
      go_simp
      refine hK undef _ trivial trivial (hA.ph.store (Val := fun cells => True) hl9 hb2 trivial)
  · intro li a1 W2 hD
    have e37 : a1.tmps.getD 37 undef = .bool false := hD.val 8 37 (by kernel_rfl) (by kernel_rfl)
    have e2 := hD.par 2 (by kernel_rfl)
    have e3 := hD.par 3 (by kernel_rfl)
    have e4 := hD.par 4 (by kernel_rfl)
    have hs : a1.tmps.size = 92 := hD.size
    have hd : a1.defers = [] := hD.defers
    refine tail_val (i := 11) (W' := W2) (v := .bool false) none 0 rfl rfl rfl (fun c hc => by cases hc) (by go_simp) (by rw [hs]; decide) ?_
    intro a4 s4 d4 f6 o4
    have hbl := hD.ph.below
    have HB2 := hid (hb1.trans (hbl.mono hb1.size))
    have f2 := (o4 2 (by decide)).trans e2
    have f3 := (o4 3 (by decide)).trans e3
    have f4 := (o4 4 (by decide)).trans e4
    replace hs := s4.trans hs
    replace hd := d4.trans hd
    refine wpListIn_nil ?_
    have e := act_eq hs hd
    obtain ⟨g, hg⟩ : ∃ g : Nat → Value, g = fun i => a4.tmps.getD i undef := ⟨_, rfl⟩
    rw [← hg] at e
    have g2 : g 2 = .pointer (some ⟨W.heap.size, 0, none⟩) := by rw [hg]; exact f2
    have g3 : g 3 = .pointer (some ⟨W.heap.size + 1, 0, none⟩) := by rw [hg]; exact f3
    have g4 : g 4 = .pointer (some ⟨W.heap.size + 1 + 1, 0, none⟩) := by rw [hg]; exact f4
    have g6 : g 6 = .bool false := by rw [hg]; exact f6
    rw [e]
    have hw2 := hw1.keep hbl
    have hs2 := hs1.keep hbl
    have hr2 := hr1.keep hbl
    clear hs hd e s4 d4 f6 o4 f2 f3 f4 e2 e3 e4 e37 hg hD HM HQ hr1 hb1 hw1 hs1 hne HZ hbl
    simp only [List.range, List.range.loop, List.map_cons, List.map_nil]
    simp only [g2, g3, g4, g6]
    clear g2 g3 g4 g6
    have q1 := hw2.c1
    have q2 := hs2.c5.1
    have l2 := hw2.lt
    have l3 := hs2.lt
    go_wp2_with (go_at_call 60; refine (choices_any _ _ _).mono ?_; rintro e W5 ⟨rfl, hb5, hgw, hgr⟩)
    have hz : (W2.alloc (.cells #[.int .i64 0, .int .i64 0, .slice none 0 0] 102)).heap.size = W2.heap.size + 1 := by simp
    have hb25 : Below W2.heap.size W2 W5 := ((Below.refl _ _).alloc (Nat.le_refl _) _).trans (hb5.mono (by simp))
    have hb7 := (Blk.new W2 102 #[.int .i64 0, .int .i64 0, .slice none 0 0]).keep hb5
    rw [hz] at hgw hgr
    have HBW := hid (HB2.out.trans (hb25.mono HB2.out.size))
    have hw5 := hw2.keep hb25
    have hs5 := hs2.keep hb25
    have hr5 := hr2.keep hb25
    have l4 := hr2.lt
    have hgl := hgr.lt
    have hW2 := HB2.out.size
    clear hb25 hb5 hz hw2 hs2 hr2 HB2 q1 q2 li a1 a4
    have HN := hid (And.intro hw5 (And.intro hs5 (And.intro hr5 (And.intro hb7 (And.intro hgw hgr)))))
    have HL2 := hid (And.intro l2 (And.intro l3 (And.intro l4 (And.intro hgl hW2))))
    clear hw5 hs5 hr5 hb7 hgw hgr l2 l3 l4 hgl hW2
    generalize hB7 : W2.heap.size = B7 at *
    clear hB7
    refine (wpIn_wide (n := 0)).1 ?_
    apply wpIn_rangeFunc_seq (gf := 95) (lb := #[.pointer (some ⟨B7 + 1, 0, none⟩), .pointer (some ⟨B7 + 1 + 1, 0, none⟩)]) (xs := outsAt b cs fs (k + 1)) (X := fun q => q = B7) (w0 := W5) (q := 8) (I := LoopI P n mb b At ct cs Af cf fs W s r k B7 Y)
    case hg => rfl
    case eg => exact enters_of Tryz.func95 (by kernel_rfl) rfl
    case hb0 => exact Below.refl _ _
    case hassign =>
      intro l v Wa K hK
      gi_wp2
      exact hK
    case hseq =>
      obtain ⟨ok, hr, hs, hY, hYl, hmemo, hP, hnm, hfrom⟩ := HH.out
      obtain ⟨hw5, hs5, hr5, hb7, hgw, hgr⟩ := HN.out
      obtain ⟨l2, l3, l4, hgl, hW2⟩ := HL2.out
      have hE5 := HE.out.below HBW.out
      have hrow := rowAt_get (cs := cs) (k := k) (by omega)
      have hrk : cs.length - (k + 1) = r := by omega
      have hn0 := HL.out.2.2
      have hPl := HL.out.1
      have := HBW.out.size
      rw [hrk] at hrow
      have := choices1_any (X := fun q => q = B7) hgw hgr hE5.bp hE5.hn hE5.ic hE5.ix hrow (ok.row hrow) (fun q hq => by subst hq; omega)
      unfold outsAt
      rw [hrk]
      exact this
    case hI =>
      intro y j Wa Wb z hy hz hi hg hzc
      obtain ⟨l2, l3, l4, hgl, hW2⟩ := HL2.out
      obtain ⟨hPl, hml, hn0⟩ := HL.out
      exact hi.grown hz hg hzc (by omega) (by omega) (by omega) (by omega) (by omega)
    case h0 =>
      intro y hy
      obtain ⟨ok, hr, hs, hY, hYl, hmemo, hP, hnm, hfrom⟩ := HH.out
      obtain ⟨hw5, hs5, hr5, hb7, hgw, hgr⟩ := HN.out
      have hsz := HBW.out.size
      refine ⟨HE.out.below HBW.out, (hmemo.below HBW.out).fresh (fun q hq => or_of hq id (fun e => by omega)), hw5, hs5, hr5, grown_of_below HBW.out _, none, 0, ?_, ?_⟩
      · rw [specTo_zero]; exact hb7
      · rw [specTo_zero]
        exact ⟨(fun q v hq => by simp at hq), (fun a e => by cases e), Nat.le_refl _, Nat.zero_le _, fun _ => rfl⟩
    case hdone =>
      intro D y Wd hD hy hi hkp hdef
      obtain ⟨l2, l3, l4, hgl, hW2⟩ := HL2.out
      obtain ⟨A0, ca, hacc, hgood⟩ := hi.acc
      rw [specTo_all] at hacc hgood
      have HI := hid hi
      have HQ := hid (show ∀ W1, Below Wd.heap.size Wd W1 → W1.cell? ⟨W.heap.size, 0, none⟩ = some (.pointer (some ⟨P, 0, none⟩)) ∧ W1.cell? ⟨W.heap.size + 1, 0, none⟩ = some (.int .i64 (r : Int)) ∧ W1.cell? ⟨W.heap.size + 1, 1, none⟩ = some (.int .i64 s.a) ∧ W1.cell? ⟨W.heap.size + 1, 2, none⟩ = some (.int .i64 s.b) ∧ W1.cell? ⟨W.heap.size + 1, 3, none⟩ = some (.int .i64 s.c) ∧ W1.cell? ⟨W.heap.size + 1, 4, none⟩ = some (.int .i64 s.d) ∧ W1.cell? ⟨P, 3, none⟩ = some (.map (some mb)) ∧ W1.cell? ⟨B7, 0, none⟩ = some (.int .i64 (spec b cs fs (k + 1) s).ways) ∧ W1.cell? ⟨B7, 1, none⟩ = some (.int .i64 (spec b cs fs (k + 1) s).change) ∧ W1.cell? ⟨B7, 2, none⟩ = some (.slice A0 (spec b cs fs (k + 1) s).first.length ca) from
        fun W1 hb => ⟨(hi.b2.keep hb).c1, (hi.b3.keep hb).c5.1, (hi.b3.keep hb).c5.2.1, (hi.b3.keep hb).c5.2.2.1, (hi.b3.keep hb).c5.2.2.2.1, (hi.b3.keep hb).c5.2.2.2.2, ((hi.env.below hb).bp).c4.2.2.2, (hacc.keep hb).c3.1, (hacc.keep hb).c3.2.1, (hacc.keep hb).c3.2.2⟩)
      have HG := hid (And.intro hacc (And.intro hgood (And.intro hkp (And.intro hdef (And.intro hD hy)))))
      clear hi hacc hgood hkp hdef hD hy l2 l3 l4 hgl hW2
      go_wp2
      refine (wpIn_wide (n := 0)).1 ?_
      refine wpIn_region_each 6 (fun i v _ => match i with | 0 => v = .pointer (some ⟨P, 0, none⟩) | 1 => v = .pointer (some ⟨P, 0, none⟩) | 2 => v = .pointer (some ⟨P, 3, none⟩) | 3 => v = .map (some mb) | 4 => v = .agg #[.int .i64 (r : Int), .int .i64 s.a, .int .i64 s.b, .int .i64 s.c, .int .i64 s.d] | 5 => v = .agg #[.int .i64 (spec b cs fs (k + 1) s).ways, .int .i64 (spec b cs fs (k + 1) s).change, .slice A0 (spec b cs fs (k + 1) s).first.length ca] | _ => True) (fun A B => Below A.heap.size A B) (fun _ _ => True) (by kernel_rfl) (by kernel_rfl) ?_ (fun h k => h.trans (k.mono h.size)) ⟨rfl, rfl, rfl, Nat.le_refl _, fun _ _ => rfl⟩ trivial (by kernel_rfl) ?_ ?_
      · intro i v _ _ _ h; exact h
      · refine ⟨?_, ?_, ?_, ?_, ?_, ?_, trivial⟩
        · -- 0: Op.load 83 t2
          intro li a1 W2 hA K hK
          have e2 := hA.par 2 (by kernel_rfl)
          obtain ⟨q1, q2, q3, q4, q5, q6, q7, q8, q9, q10⟩ := HQ.out W2 hA.st
          refine opStep none 0 rfl rfl (fun c hc => by cases hc) ?_
          go_simp
          exact hK _ _ rfl (Below.refl _ _) trivial
        · -- 1: Op.nilCheck t85
          intro li a1 W2 hA K hK
          have e85 : a1.tmps.getD 85 undef = .pointer (some ⟨P, 0, none⟩) := hA.val 0 85 (by kernel_rfl) (by kernel_rfl)
          obtain ⟨q1, q2, q3, q4, q5, q6, q7, q8, q9, q10⟩ := HQ.out W2 hA.st
          refine opStep none 0 rfl rfl (fun c hc => by cases hc) ?_
          go_simp
          exact hK _ _ rfl (Below.refl _ _) trivial
        · -- 2: Op.fieldAddr 124 t86 1
          intro li a1 W2 hA K hK
          have e86 : a1.tmps.getD 86 undef = .pointer (some ⟨P, 0, none⟩) := hA.val 1 86 (by kernel_rfl) (by kernel_rfl)
          obtain ⟨q1, q2, q3, q4, q5, q6, q7, q8, q9, q10⟩ := HQ.out W2 hA.st
          refine opStep none 0 rfl rfl (fun c hc => by cases hc) ?_
          go_simp
          exact hK _ _ rfl (Below.refl _ _) trivial
        · -- 3: Op.load 122 t87
          intro li a1 W2 hA K hK
          have e87 : a1.tmps.getD 87 undef = .pointer (some ⟨P, 3, none⟩) := hA.val 2 87 (by kernel_rfl) (by kernel_rfl)
          obtain ⟨q1, q2, q3, q4, q5, q6, q7, q8, q9, q10⟩ := HQ.out W2 hA.st
          refine opStep none 0 rfl rfl (fun c hc => by cases hc) ?_
          go_simp
          exact hK _ _ rfl (Below.refl _ _) trivial
        · -- 4: Op.load 89 t3
          intro li a1 W2 hA K hK
          have e3 := hA.par 3 (by kernel_rfl)
          obtain ⟨q1, q2, q3, q4, q5, q6, q7, q8, q9, q10⟩ := HQ.out W2 hA.st
          refine opStep none 0 rfl rfl (fun c hc => by cases hc) ?_
          go_simp
          exact hK _ _ rfl (Below.refl _ _) trivial
        · -- 5: Op.load 91 t7
          intro li a1 W2 hA K hK
          have e7 := hA.par 7 (by kernel_rfl)
          obtain ⟨q1, q2, q3, q4, q5, q6, q7, q8, q9, q10⟩ := HQ.out W2 hA.st
          refine opStep none 0 rfl rfl (fun c hc => by cases hc) ?_
          go_simp
          exact hK _ _ rfl (Below.refl _ _) trivial
      · intro li a1 W2 hD
        have e88 : a1.tmps.getD 88 undef = .map (some mb) := hD.val 3 88 (by kernel_rfl) (by kernel_rfl)
        have e89 : a1.tmps.getD 89 undef = .agg #[.int .i64 (r : Int), .int .i64 s.a, .int .i64 s.b, .int .i64 s.c, .int .i64 s.d] := hD.val 4 89 (by kernel_rfl) (by kernel_rfl)
        have e90 : a1.tmps.getD 90 undef = .agg #[.int .i64 (spec b cs fs (k + 1) s).ways, .int .i64 (spec b cs fs (k + 1) s).change, .slice A0 (spec b cs fs (k + 1) s).first.length ca] := hD.val 5 90 (by kernel_rfl) (by kernel_rfl)
        obtain ⟨es2, ck2, hm2, hk2, hg2⟩ := HI.out.memo.below hD.st
        obtain ⟨ok, hr, hs, hY, hYl, hmemo, hP, hnm, hfrom⟩ := HH.out
        have hkey := spot_key (r := (r : Int)) (s := s) ⟨by omega, by have := ok.okc.n2; omega⟩ (hs.mono (by have := ok.okc.n2; omega))
        obtain ⟨es3, ck3, hrun, hk3, hmem, _⟩ := spot_store (t := 141) Tryz.underlying141 hm2 hk2 hkey (.agg #[.int .i64 (spec b cs fs (k + 1) s).ways, .int .i64 (spec b cs fs (k + 1) s).change, .slice A0 (spec b cs fs (k + 1) s).first.length ca])
        have hrun' : (Instr.mapUpdate 141 (.map (some mb)) (.agg #[.int .i64 (r : Int), .int .i64 s.a, .int .i64 s.b, .int .i64 s.c, .int .i64 s.d]) (.agg #[.int .i64 (spec b cs fs (k + 1) s).ways, .int .i64 (spec b cs fs (k + 1) s).change, .slice A0 (spec b cs fs (k + 1) s).first.length ca])).run Tryz.prog W2 = .ok () (W2.putObj mb (.map es3 ck3)) := hrun
        refine tail_store (i := 6) (W' := W2.putObj mb (.map es3 ck3)) none 0 rfl rfl rfl (fun c hc => by cases hc) (by simp [execOp, Act.eval, e88, e89, e90, hrun', Result.andThen]) ?_
        obtain ⟨hacc, hgood, hkp, hdef, hDl, hyl⟩ := HG.out
        obtain ⟨l2, l3, l4, hgl, hW2⟩ := HL2.out
        obtain ⟨hPl, hml, hn0⟩ := HL.out
        have hbs := HBW.out.size
        have hgp := grownBy_putObj' W2 mb (.map es3 ck3)
        have hnc : ∃ o, W2.heap[mb]? = some o ∧ o.isCells = false := ⟨_, hm2, rfl⟩
        have hmb3 : (W2.putObj mb (.map es3 ck3)).heap[mb]? = some (.map es3 ck3) := World.putObj_heap_same (Array.getElem?_eq_some_iff.1 hm2).1
        have hk : Keep (fun _ => False) W2 (W2.putObj mb (.map es3 ck3)) := Keep.of_other hgp hnc
        have hb4 := hk.blk (HI.out.b4.keep hD.st) id
        have hb7 := hk.blk (hacc.keep hD.st) id
        have hbase := grown_then (grown_one HI.out.base (grown_of_below hD.st _)) hgp
        have hdef3 : (W2.putObj mb (.map es3 ck3)).heap[D]? = some (.deferred (some [])) := (World.putObj_heap_other (by omega)).trans ((hD.st.block D (Array.getElem?_eq_some_iff.1 hdef).1).trans hdef)
        have hgd : Good Y (W2.putObj mb (.map es3 ck3)) (spec b cs fs (k + 1) s) A0 ca := ((hgood.below hD.st).keep hk (fun _ _ h => h)).sub (fun a e h => (hgood.av a e).2 (.inl h))
        have hmm : Memo b cs fs mb Y (W2.putObj mb (.map es3 ck3)) := by
          refine ⟨es3, ck3, hmb3, hk3, fun e he => ?_⟩
          rcases hmem e he with h | ⟨h1, h2⟩
          · obtain ⟨k', s', A', c', g1, g2, g3, g4, g5⟩ := hg2 e h
            exact ⟨k', s', A', c', g1, g2, g3, g4, (g5.keep hk (fun _ _ h => h)).sub (fun a e h => (g5.av a e).2 (.inl h))⟩
          · refine ⟨k + 1, s, A0, ca, by omega, by omega, ?_, h2, hgd⟩
            rw [h1]; congr 1; omega
        have hs : a1.tmps.size = 92 := hD.size
        have hd : a1.defers = [{ target := .collected D, args := #[] }] := hD.defers
        have e4 : a1.tmps.getD 4 undef = .pointer (some ⟨W.heap.size + 1 + 1, 0, none⟩) := hD.par 4 (by kernel_rfl)
        have e7 : a1.tmps.getD 7 undef = .pointer (some ⟨B7, 0, none⟩) := hD.par 7 (by kernel_rfl)
        have e := act_eqd hs hd
        obtain ⟨g', hg⟩ : ∃ g' : Nat → Value, g' = fun i => a1.tmps.getD i undef := ⟨_, rfl⟩
        rw [← hg] at e
        have g4 : g' 4 = .pointer (some ⟨W.heap.size + 1 + 1, 0, none⟩) := by rw [hg]; exact e4
        have g7 : g' 7 = .pointer (some ⟨B7, 0, none⟩) := by rw [hg]; exact e7
        rw [e]
        refine wpListIn_nil ?_
        simp only [List.range, List.range.loop, List.map_cons, List.map_nil, g4, g7]
        generalize W2.putObj mb (.map es3 ck3) = W3 at *
        have HR := hid (And.intro hbase (And.intro hmm (And.intro hgd (And.intro hdef3 (And.intro hb4 (And.intro hDl (And.intro l4 hgl)))))))
        obtain ⟨c0, c1, c2⟩ := hb4.c3
        obtain ⟨c3, c4, c5⟩ := hb7.c3
        have fr0 := hb4.frozen 0
        have fr1 := hb4.frozen 1
        have fr2 := hb4.frozen 2
        have l7 := hb4.lt
        clear hbase hmm hgd hdef3 hb4 hb7 hk hnc hgp hmb3 hdef hgood hacc hkp hrun hrun' hmem hk3 hg2 hk2 hm2 hD e88 e89 e90 e e4 e7 hg g4 g7 hs hd HI HQ HG HE HN HBW hfrom hmemo ok hY hYl
        go_wp2
        obtain ⟨hbase, hmm, hgd, hdef3, hb4, hDl, l4, hgl⟩ := HR.out
        have hst := set3_grown W3 (W.heap.size + 1 + 1) (.int .i64 (spec b cs fs (k + 1) s).ways) (.int .i64 (spec b cs fs (k + 1) s).change) (.slice A0 (spec b cs fs (k + 1) s).first.length ca)
        have hb44 := set3_blk hb4 (.int .i64 (spec b cs fs (k + 1) s).ways) (.int .i64 (spec b cs fs (k + 1) s).change) (.slice A0 (spec b cs fs (k + 1) s).first.length ca)
        have hm4 := hmm.set_ hb4 (by decide) hst
        have hg4 := hgd.set_ hb4 (by decide) (Keep.of_grown (Z := fun q => q = W.heap.size + 1 + 1) hst rfl)
        have hd4 := (hst.block D (Array.getElem?_eq_some_iff.1 hdef3).1 (fun e => by cases e; omega)).trans hdef3
        have hba4 := grown_new hbase hst (by omega)
        revert hst hb44 hm4 hg4 hd4 hba4
        unfold set3
        generalize ((W3.setCell ⟨W.heap.size + 1 + 1, 0, none⟩ (.int .i64 (spec b cs fs (k + 1) s).ways)).setCell ⟨W.heap.size + 1 + 1, 1, none⟩ (.int .i64 (spec b cs fs (k + 1) s).change)).setCell ⟨W.heap.size + 1 + 1, 2, none⟩ (.slice A0 (spec b cs fs (k + 1) s).first.length ca) = W4
        intro hst hb44 hm4 hg4 hd4 hba4
        have hgD := grownBy_putObj' W4 D (.deferred none)
        have hnD : ∃ o, W4.heap[D]? = some o ∧ o.isCells = false := ⟨_, hd4, rfl⟩
        obtain ⟨c6, c7, c8⟩ := ((Keep.of_other (Z := fun _ => False) hgD hnD).blk hb44 id).c3
        refine ⟨by simp, .inl ⟨_, _, rfl, run_takeDeferred hd4, ?_⟩⟩
        refine ⟨restV (spec b cs fs (k + 1) s) A0 ca, ?_, A0, ca, rfl, grown_new hba4 hgD (by omega), hm4.grown hgD (by omega) (.inr hnD), hg4.grown hgD (.inr hnD)⟩
        simp [results, Tryz.results28, go_sem, restV, c6, c7, c8]
    case hbody =>
      intro l y j x A c Wc hy hyl hx hi hsz hints hA hc1 hc2 hc3
      obtain ⟨ok, hr, hs, hY, hYl, hmemo, hP, hnm, hfrom⟩ := HH.out
      obtain ⟨l2, l3, l4, hgl, hW2⟩ := HL2.out
      obtain ⟨hPl, hml, hn0⟩ := HL.out
      have hr4 : (r : Int) ≤ 4 := by have := ok.okc.n2; omega
      have hr0 : (0 : Int) ≤ (r : Int) := by omega
      have hxm : x ∈ outsAt b cs fs (k + 1) := List.mem_of_getElem? hx
      obtain ⟨hx1, hx2, hx3⟩ := outsAt_mem ok (by omega) hxm
      have hamb : ∀ a, A = some a → a.block ≠ mb := fun a e => by have := hA a e; omega
      have HQ := hid (show ∀ W1, Wc.grownBy W1 (some mb) → FEnv P n mb b At ct cs Af cf fs W1 ∧ Blk W1 W.heap.size 94 #[.pointer (some ⟨P, 0, none⟩)] ∧ Blk W1 (W.heap.size + 1) 100 #[.int .i64 (r : Int), .int .i64 s.a, .int .i64 s.b, .int .i64 s.c, .int .i64 s.d] ∧ Blk W1 (W.heap.size + 1 + 1) 102 #[.int .i64 0, .int .i64 0, .slice none 0 0] ∧ IsInts W1 W1.heap.size A x from fun W1 hg => by
        have hk : Keep (fun q => q = mb) Wc W1 := Keep.of_grown hg rfl
        exact ⟨hi.env.keep hk hP (fun q hq => by omega), hk.blk hi.b2 (by omega), hk.blk hi.b3 (by omega), hk.blk hi.b4 (by omega), (hints.grown hg (.inl hamb)).more hg.size⟩)
      have HC := hid (show ∀ W1, Wc.grownBy W1 (some mb) → W1.cell? ⟨W.heap.size, 0, none⟩ = some (.pointer (some ⟨P, 0, none⟩)) ∧ W1.cell? ⟨W.heap.size + 1, 0, none⟩ = some (.int .i64 (r : Int)) ∧ W1.cell? ⟨W.heap.size + 1, 1, none⟩ = some (.int .i64 s.a) ∧ W1.cell? ⟨W.heap.size + 1, 2, none⟩ = some (.int .i64 s.b) ∧ W1.cell? ⟨W.heap.size + 1, 3, none⟩ = some (.int .i64 s.c) ∧ W1.cell? ⟨W.heap.size + 1, 4, none⟩ = some (.int .i64 s.d) from
        fun W1 hg => ⟨(HQ.out W1 hg).2.1.c1, (HQ.out W1 hg).2.2.1.c5.1, (HQ.out W1 hg).2.2.1.c5.2.1, (HQ.out W1 hg).2.2.1.c5.2.2.1, (HQ.out W1 hg).2.2.1.c5.2.2.2.1, (HQ.out W1 hg).2.2.1.c5.2.2.2.2⟩)
      have HP := hid (show ∀ W1, Wc.grownBy W1 (some mb) → _ from fun W1 hg => plus_any s A c x W1 (hs.mono (by omega)) (HQ.out W1 hg).2.2.2.2 hx2 (fun v hv => by have := hx3 v hv; omega))
      have HF := hid (show ∀ W1, Wc.grownBy W1 (some mb) → Memo b cs fs mb (fun q => Y q ∨ q = y) W1 → _ from fun W1 hg hm => hfrom (plusS s x) (fun q => Y q ∨ q = y) W1 ((plusS_small' hs hx3).mono (by omega)) (.inl hY) (fun q hq => by
        have h1 := hg.size
        rcases hq with h | h
        · have := hYl q h; omega
        · omega) (HQ.out W1 hg).1 hm)
      have HSZ := hid hsz
      have HI := hid hi
      have HA := hid (And.intro hA (And.intro hc1 (And.intro hc2 (And.intro hc3 (And.intro hx1 (And.intro hx2 (And.intro hx3 (And.intro hx (And.intro hxm (And.intro hyl (And.intro hy hamb)))))))))))
      have HY := hid hY
      clear hi hA hc1 hc2 hc3 hx1 hx2 hx3 hx hxm hyl hy hamb hY hYl hmemo hP hnm hfrom hs ok hr hsz hints l2 l3 l4 hgl hW2 hPl hml hn0
      simp only [List.setIfInBounds_toArray, List.set_cons_succ, List.set_cons_zero]
      gi_wp2
      refine wpIn_region_each 11 (fun i v W' => match i with | 0 => v = .pointer (some ⟨P, 0, none⟩) | 1 => v = .pointer (some ⟨W.heap.size + 1, 0, none⟩) | 2 => v = .int .i64 (r : Int) | 3 => v = .int .i64 ((r : Int) + 1) | 4 => v = .pointer (some ⟨W.heap.size + 1, 1, none⟩) | 5 => v = .agg #[.int .i64 s.a, .int .i64 s.b, .int .i64 s.c, .int .i64 s.d] | 6 => v = .slice A x.length c | 7 => v = .agg #[.int .i64 (plusS s x).a, .int .i64 (plusS s x).b, .int .i64 (plusS s x).c, .int .i64 (plusS s x).d] | 8 => v = .agg #[.int .i64 ((r : Int) + 1), .int .i64 (plusS s x).a, .int .i64 (plusS s x).b, .int .i64 (plusS s x).c, .int .i64 (plusS s x).d] | 9 => ∃ A' c', v = restV (spec b cs fs k (plusS s x)) A' c' ∧ Good (fun q => Y q ∨ q = y) W' (spec b cs fs k (plusS s x)) A' c' | 10 => ∃ g, v = .pointer (some ⟨g, 0, none⟩) ∧ Wc.heap.size ≤ g ∧ Blk W' g 102 #[.int .i64 0, .int .i64 0, .slice none 0 0] | _ => True) (fun A B => A.grownBy B (some mb)) (fun _ W' => Memo b cs fs mb (fun q => Y q ∨ q = y) W') (by kernel_rfl) (by kernel_rfl) ?_ (fun h k => grown_then h k) ⟨rfl, rfl, rfl, Nat.le_refl _, fun _ _ _ => rfl⟩ (HI.out.memo.below ⟨rfl, rfl, rfl, Nat.le_refl _, fun _ _ => rfl⟩) (by kernel_rfl) ?_ ?_
      · intro i v W1 W2 hb h
        match i, h with
        | 0, h => exact h
        | 1, h => exact h
        | 2, h => exact h
        | 3, h => exact h
        | 4, h => exact h
        | 5, h => exact h
        | 6, h => exact h
        | 7, h => exact h
        | 8, h => exact h
        | 9, h =>
          obtain ⟨A', c', rfl, h1⟩ := h
          exact ⟨A', c', rfl, h1.grown hb (.inl (.inl HY.out))⟩
        | 10, h =>
          obtain ⟨g, rfl, h1, h2⟩ := h
          refine ⟨g, rfl, h1, (hb.block g h2.lt (fun e => ?_)).trans h2⟩
          cases e
          have := HSZ.out; have := HBW.out.size; have := HL.out.2.1
          omega
        | i + 11, h => trivial
      · refine ⟨?_, ?_, ?_, ?_, ?_, ?_, ?_, ?_, ?_, ?_, ?_, trivial⟩
        · -- 0: Op.load 83 t2
          intro li a1 W2 hA K hK
          have e2 := hA.par 2 (by kernel_rfl)
          obtain ⟨q1, q2, q3, q4, q5, q6⟩ := HC.out W2 hA.st
          refine opStep (some l) 0 rfl rfl (fun c hc => by cases hc) ?_
          go_simp
          exact hK _ _ rfl (grown_of_below (Below.refl _ _) _) hA.ph
        · -- 1: Op.fieldAddr 89 t3 0
          intro li a1 W2 hA K hK
          have e3 := hA.par 3 (by kernel_rfl)
          obtain ⟨q1, q2, q3, q4, q5, q6⟩ := HC.out W2 hA.st
          refine opStep (some l) 0 rfl rfl (fun c hc => by cases hc) ?_
          go_simp
          exact hK _ _ rfl (grown_of_below (Below.refl _ _) _) hA.ph
        · -- 2: Op.load 3 t46
          intro li a1 W2 hA K hK
          have e46 : a1.tmps.getD 46 undef = .pointer (some ⟨W.heap.size + 1, 0, none⟩) := hA.val 1 46 (by kernel_rfl) (by kernel_rfl)
          obtain ⟨q1, q2, q3, q4, q5, q6⟩ := HC.out W2 hA.st
          refine opStep (some l) 0 rfl rfl (fun c hc => by cases hc) ?_
          go_simp
          exact hK _ _ rfl (grown_of_below (Below.refl _ _) _) hA.ph
        · -- 3: Op.binOp BinOp.add 3 t47 (const (1:i64)) 3
          intro li a1 W2 hA K hK
          have e47 : a1.tmps.getD 47 undef = .int .i64 (r : Int) := hA.val 2 47 (by kernel_rfl) (by kernel_rfl)
          obtain ⟨q1, q2, q3, q4, q5, q6⟩ := HC.out W2 hA.st
          refine opStep (some l) 0 rfl rfl (fun c hc => by cases hc) ?_
          have hw : IntKind.i64.wrap ((r : Int) + 1) = (r : Int) + 1 := by rw [IntKind.wrap_i64]; omega
          go_simp
          exact hK _ _ (by first | rfl | exact congrArg (Value.int .i64) hw) (grown_of_below (Below.refl _ _) _) hA.ph
        · -- 4: Op.fieldAddr 89 t3 1
          intro li a1 W2 hA K hK
          have e3 := hA.par 3 (by kernel_rfl)
          obtain ⟨q1, q2, q3, q4, q5, q6⟩ := HC.out W2 hA.st
          refine opStep (some l) 0 rfl rfl (fun c hc => by cases hc) ?_
          go_simp
          exact hK _ _ rfl (grown_of_below (Below.refl _ _) _) hA.ph
        · -- 5: Op.load 87 t49
          intro li a1 W2 hA K hK
          have e49 : a1.tmps.getD 49 undef = .pointer (some ⟨W.heap.size + 1, 1, none⟩) := hA.val 4 49 (by kernel_rfl) (by kernel_rfl)
          obtain ⟨q1, q2, q3, q4, q5, q6⟩ := HC.out W2 hA.st
          refine opStep (some l) 0 rfl rfl (fun c hc => by cases hc) ?_
          go_simp
          exact hK _ _ rfl (grown_of_below (Below.refl _ _) _) hA.ph
        · -- 6: Op.move t8
          intro li a1 W2 hA K hK
          have e8 := hA.par 8 (by kernel_rfl)
          obtain ⟨q1, q2, q3, q4, q5, q6⟩ := HC.out W2 hA.st
          refine opStep (some l) 0 rfl rfl (fun c hc => by cases hc) ?_
          go_simp
          exact hK _ _ rfl (grown_of_below (Below.refl _ _) _) hA.ph
        · -- 7: Op.call { value (Operand.func 50), args := #[t50, t51], argTypes := #[87, 56] }
          intro li a1 W2 hA K hK
          have e50 : a1.tmps.getD 50 undef = .agg #[.int .i64 s.a, .int .i64 s.b, .int .i64 s.c, .int .i64 s.d] := hA.val 5 50 (by kernel_rfl) (by kernel_rfl)
          have e51 : a1.tmps.getD 51 undef = .slice A x.length c := hA.val 6 51 (by kernel_rfl) (by kernel_rfl)
          obtain ⟨q1, q2, q3, q4, q5, q6⟩ := HC.out W2 hA.st
          refine opStep (some l) 0 rfl rfl (fun c hc => by cases hc) ?_
          go_simp
          refine (HP.out W2 hA.st).mono ?_
          rintro e W3 ⟨rfl, hb3⟩
          exact hK _ _ rfl (grown_of_below hb3 _) (hA.ph.below hb3)
        · -- 8: Op.build 89 #[(0, t48), (1, t52)]
          intro li a1 W2 hA K hK
          have e48 : a1.tmps.getD 48 undef = .int .i64 ((r : Int) + 1) := hA.val 3 48 (by kernel_rfl) (by kernel_rfl)
          have e52 : a1.tmps.getD 52 undef = .agg #[.int .i64 (plusS s x).a, .int .i64 (plusS s x).b, .int .i64 (plusS s x).c, .int .i64 (plusS s x).d] := hA.val 7 52 (by kernel_rfl) (by kernel_rfl)
          obtain ⟨q1, q2, q3, q4, q5, q6⟩ := HC.out W2 hA.st
          refine opStep (some l) 0 rfl rfl (fun c hc => by cases hc) ?_
          have e48' := e48
          have e52' := e52
          rw [Array.getD_eq_getD_getElem?] at e48' e52'
          go_simp
          exact hK _ _ rfl (grown_of_below (Below.refl _ _) _) hA.ph
        · -- 9: Op.call { value (Operand.func 48), args := #[t45, t53], argTypes := #[83, 89] }
          intro li a1 W2 hA K hK
          have e45 : a1.tmps.getD 45 undef = .pointer (some ⟨P, 0, none⟩) := hA.val 0 45 (by kernel_rfl) (by kernel_rfl)
          have e53 : a1.tmps.getD 53 undef = .agg #[.int .i64 ((r : Int) + 1), .int .i64 (plusS s x).a, .int .i64 (plusS s x).b, .int .i64 (plusS s x).c, .int .i64 (plusS s x).d] := hA.val 8 53 (by kernel_rfl) (by kernel_rfl)
          obtain ⟨q1, q2, q3, q4, q5, q6⟩ := HC.out W2 hA.st
          refine opStep (some l) 0 rfl rfl (fun c hc => by cases hc) ?_
          go_simp
          refine (HF.out W2 hA.st hA.ph).mono ?_
          rintro e W3 ⟨A', c', rfl, h1, h2, h3⟩
          exact hK _ _ ⟨A', c', rfl, h3⟩ h1 h2
        · -- 10: Op.alloc 91
          intro li a1 W2 hA K hK
          obtain ⟨q1, q2, q3, q4, q5, q6⟩ := HC.out W2 hA.st
          refine opStep (some l) 0 rfl rfl (fun c hc => by cases hc) ?_
          go_simp
          exact hK _ _ ⟨_, rfl, hA.st.size, Blk.new _ _ _⟩ (grown_of_below ((Below.refl _ _).alloc (Nat.le_refl _) _) _) (hA.ph.below ((Below.refl _ _).alloc (Nat.le_refl _) _))
      · intro li a1 W2 hD
        obtain ⟨A', c', e54, hgd⟩ := hD.val 9 54 (by kernel_rfl) (by kernel_rfl)
        obtain ⟨gb, e9, hgb, hbl⟩ := hD.val 10 9 (by kernel_rfl) (by kernel_rfl)
        obtain ⟨c0, c1, c2⟩ := hbl.c3
        have f0 := hbl.frozen 0
        have f1 := hbl.frozen 1
        have f2 := hbl.frozen 2
        have hgl := hbl.lt
        rw [restV] at e54
        refine tail_store (i := 11) (W' := ((W2.setCell ⟨gb, 0, none⟩ (.int .i64 (spec b cs fs k (plusS s x)).ways)).setCell ⟨gb, 1, none⟩ (.int .i64 (spec b cs fs k (plusS s x)).change)).setCell ⟨gb, 2, none⟩ (.slice A' (spec b cs fs k (plusS s x)).first.length c')) (some l) 0 rfl rfl rfl (fun c hc => by cases hc) (by go_simp) ?_
        have hs3 := set3_grown W2 gb (.int .i64 (spec b cs fs k (plusS s x)).ways) (.int .i64 (spec b cs fs k (plusS s x)).change) (.slice A' (spec b cs fs k (plusS s x)).first.length c')
        have hb3 := set3_blk hbl (.int .i64 (spec b cs fs k (plusS s x)).ways) (.int .i64 (spec b cs fs k (plusS s x)).change) (.slice A' (spec b cs fs k (plusS s x)).first.length c')
        have hg3 := grown_new hD.st hs3 hgb
        have hm3 := hD.ph.set_ hbl (by decide) hs3
        have hd3 := hgd.set_ hbl (by decide) (Keep.of_grown (Z := fun q => q = gb) hs3 rfl)
        have HW3 := hid (And.intro hb3 (And.intro hg3 (And.intro hm3 hd3)))
        clear hb3 hg3 hm3 hd3 hs3 c0 c1 c2 f0 f1 f2 hgl hbl hgd e54
        have hs : a1.tmps.size = 92 := hD.size
        have hd : a1.defers = [] := hD.defers
        have e2 : a1.tmps.getD 2 undef = .pointer (some ⟨W.heap.size, 0, none⟩) := hD.par 2 (by kernel_rfl)
        have e3 : a1.tmps.getD 3 undef = .pointer (some ⟨W.heap.size + 1, 0, none⟩) := hD.par 3 (by kernel_rfl)
        have e7 : a1.tmps.getD 7 undef = .pointer (some ⟨B7, 0, none⟩) := hD.par 7 (by kernel_rfl)
        have e8 : a1.tmps.getD 8 undef = .slice A x.length c := hD.par 8 (by kernel_rfl)
        have e := act_eq hs hd
        obtain ⟨g', hg⟩ : ∃ g' : Nat → Value, g' = fun i => a1.tmps.getD i undef := ⟨_, rfl⟩
        rw [← hg] at e
        have g2 : g' 2 = .pointer (some ⟨W.heap.size, 0, none⟩) := by rw [hg]; exact e2
        have g3 : g' 3 = .pointer (some ⟨W.heap.size + 1, 0, none⟩) := by rw [hg]; exact e3
        have g7 : g' 7 = .pointer (some ⟨B7, 0, none⟩) := by rw [hg]; exact e7
        have g8 : g' 8 = .slice A x.length c := by rw [hg]; exact e8
        have g9 : g' 9 = .pointer (some ⟨gb, 0, none⟩) := by rw [hg]; exact e9
        rw [e]
        clear hs hd e e2 e3 e7 e8 e9 hg hD HP HF
        refine wpListIn_nil ?_
        simp only [List.range, List.range.loop, List.map_cons, List.map_nil, g2, g3, g7, g8, g9]
        clear g2 g3 g7 g8 g9
        refine gen (p := Exit.then _ _ .normal _) (fun W3 => Blk W3 gb 102 #[.int .i64 (spec b cs fs k (plusS s x)).ways, .int .i64 (spec b cs fs k (plusS s x)).change, .slice A' (spec b cs fs k (plusS s x)).first.length c'] ∧ Wc.grownBy W3 (some mb) ∧ Memo b cs fs mb (fun q => Y q ∨ q = y) W3 ∧ Good (fun q => Y q ∨ q = y) W3 (spec b cs fs k (plusS s x)) A' c') HW3.out ?_
        clear HW3
        clear W2
        rintro W3 ⟨hb3, hg3, hm3, hd3⟩
        obtain ⟨A0, ca, hacc, hgood⟩ := HI.out.acc
        have hk4 : k ≤ 4 := by have := HH.out.2.1; have := HH.out.1.okc.n2; omega
        have hkl : k + 1 ≤ cs.length := by have := HH.out.2.1; omega
        have hjl : j ≤ (outsAt b cs fs (k + 1)).length := by have := (List.getElem?_eq_some_iff.1 HA.out.2.2.2.2.2.2.2.1).1; omega
        have hj16 : j ≤ 16 := Nat.le_trans hjl (outsAt_count HH.out.1 hkl)
        have hbn := (bnd_spec HH.out.1 k (by omega) (plusS s x)).1
        have hbj := (bnd_spec HH.out.1 k (by omega) s).2 hkl j hjl
        have hbc := rowCost_bound HH.out.1 hkl HA.out.2.2.2.2.2.2.2.2.1
        have hsq := specTo_succ (s := s) HA.out.2.2.2.2.2.2.2.1
        have hp16 := pow16 hk4
        have hp0 : (0 : Int) ≤ 16 ^ k := Int.pow_nonneg (by decide)
        have hjp : (j : Int) * 16 ^ k ≤ 16 * 65536 := Int.mul_le_mul (by omega) hp16 hp0 (by decide)
        have hnw : 0 ≤ (spec b cs fs k (plusS s x)).ways ∧ (spec b cs fs k (plusS s x)).ways ≤ 65536 := ⟨hbn.w1, Int.le_trans hbn.w2 hp16⟩
        have hnc : 0 ≤ (spec b cs fs k (plusS s x)).change ∧ (spec b cs fs k (plusS s x)).change ≤ 200000 := ⟨hbn.c1, by have := hbn.c2; omega⟩
        have haw : 0 ≤ (specTo b cs fs k s j).ways ∧ (specTo b cs fs k s j).ways ≤ 1048576 := ⟨hbj.w.1, by have := hbj.w.2; omega⟩
        have hac : 0 ≤ (specTo b cs fs k s j).change ∧ (specTo b cs fs k s j).change ≤ 250000 := ⟨hbj.c.1, by have := hbj.c.2; omega⟩
        have hB7 : Blk W3 B7 102 _ := (hg3.block B7 hacc.lt (fun e => by have := HL2.out; have := HL.out; cases e; omega)).trans hacc
        have hgood3 := hgood.grown hg3 (.inl (.inl HY.out))
        clear hbn hbj hacc hgood hp16 hp0 hjp hk4 hjl hj16
        have HSQ := hid hsq
        have HG := hid (And.intro hg3 (And.intro hm3 (And.intro hd3 hgood3)))
        clear hsq hg3 hm3 hd3 hgood3
        generalize hnx : spec b cs fs k (plusS s x) = nx at *
        generalize hax : specTo b cs fs k s j = ac at *
        clear hnx hax
        obtain ⟨c0, c1, c2⟩ := hb3.c3
        obtain ⟨c3, c4, c5⟩ := hB7.c3
        have lb := hb3.lt
        have l7 := hB7.lt
        have hmbl : mb < W5.heap.size := by have := HL.out; have := HBW.out.size; omega
        cases h0 : (nx.ways == 0)
        · gi_wp2
          have hrk : cs.length - (k + 1) = r := by have := HH.out.2.1; omega
          have hT := hid (show ∀ q, _ from fun q => by
            have hg' : Wc.grownBy (xt W3 q) (some mb) := grown_one HG.out.1 (grown_of_below (below_xt W3 q) _)
            have hE := (HQ.out _ hg').1
            exact Calls.same_below (cost_any (.int .i64 b) (.map (some mb)) (.slice Af fs.length cf) P At ct cs r A c x (xt W3 q) (hE.ic.more hE.hn) hE.bp (HQ.out _ hg').2.2.2.2 (by have := HH.out.2.1; omega) HA.out.2.2.2.2.2.1 (by rw [← hrk]; exact HA.out.2.2.2.2.1.symm) HA.out.2.2.2.2.2.2.1 (fun r' hr' v hv => by have := HH.out.1.okc.cell r' hr' v hv; omega)))
          have hrw : cs.getD r [] = rowAt cs (k + 1) := by rw [← hrk]; rfl
          rw [hrw] at hT
          generalize hrc : rowCost x (rowAt cs (k + 1)) = rc at *
          have HRC := hid hrc
          clear hrc hrw
          have q0 := xt_c3 hb3
          have q2 : ∀ q, (xt W3 q).cell? ⟨W.heap.size, 0, none⟩ = some (.pointer (some ⟨P, 0, none⟩)) := fun q => (HC.out _ (grown_one HG.out.1 (grown_of_below (below_xt W3 q) _))).1
          have q3 : ∀ q, (xt W3 q).cell? ⟨W.heap.size + 1, 0, none⟩ = some (.int .i64 (r : Int)) := fun q => (HC.out _ (grown_one HG.out.1 (grown_of_below (below_xt W3 q) _))).2.1
          obtain ⟨q4, q5, q6⟩ := q0
          refine wpIn_region_quiet_xt (some l) 0 (by kernel_rfl) (by kernel_rfl) (by kernel_rfl) ?_
          repeat (go_big_quiet_step ((go_at_call 61; with_reducible exact Calls.xt (hT.out _))))
          refine wpQuiet_nil ?_
          intro W4 hw4
          replace hw4 := of_xt hw4
          have hB74 := hB7.keep hw4
          have hb34 := hb3.keep hw4
          have HW4 := hid hw4
          clear q2 q3 q4 q5 q6 c0 c1 c2 c3 c4 c5 lb l7 hT hb3 hB7 hw4
          obtain ⟨c0, c1, c2⟩ := hb34.c3
          obtain ⟨c3, c4, c5⟩ := hB74.c3
          have fr0 := hB74.frozen 0
          have fr1 := hB74.frozen 1
          have fr2 := hB74.frozen 2
          have lb := hb34.lt
          have l7 := hB74.lt
          have hne7 : gb ≠ B7 := by have := HSZ.out; have := HL2.out; omega
          have hg4 : Wc.grownBy W4 (some mb) := grown_one HG.out.1 (grown_of_below HW4.out _)
          have FIN := hid (show ∀ (W' : World) (acc' : Rst) (A1 : Option Addr) (c1 : Nat), W4.grownBy W' (some B7) → Blk W' B7 102 #[.int .i64 acc'.ways, .int .i64 acc'.change, .slice A1 acc'.first.length c1] → specTo b cs fs k s (j + 1) = acc' → Good (fun q => Y q ∨ q = y) W4 acc' A1 c1 → RoundOk W5.heap.size (LoopI P n mb b At ct cs Af cf fs W s r k B7 Y) (fun q => q = B7) y j Wc .normal W' from by
            intro W' acc' A1 c1 hgB hbl heq hgd
            obtain ⟨es', ck', hmap, _⟩ := HI.out.memo
            obtain ⟨l2, l3, l4, hgl, hW2⟩ := HL2.out
            obtain ⟨hPl, hml, hn0⟩ := HL.out
            have hk : Keep (fun q => q = B7) W4 W' := Keep.of_grown hgB rfl
            obtain ⟨v1, v2, v3, v4, v5⟩ := HQ.out W4 hg4
            refine ⟨rfl, ⟨v1.keep hk (by omega) (fun q hq => by omega), (HG.out.2.1.below HW4.out).set_ hB74 (by decide) hgB, hk.blk v2 (by omega), hk.blk v3 (by omega), hk.blk v4 (by omega), grown_new (grown_then HI.out.base hg4) hgB (by omega), A1, c1, by rw [heq]; exact hbl, by rw [heq]; exact hgd.set_ hB74 (by decide) hk⟩,
              (Keep.of_other hg4 ⟨_, hmap, rfl⟩).trans hk, fun i hi hlt => (hgB.block i (Nat.lt_of_lt_of_le hlt hg4.size) (fun e => by cases e; omega)).trans (hg4.block i hlt (fun e => by cases e; omega))⟩)
          have GX := hid (show ∀ (a' c' : Int), Good (fun q => Y q ∨ q = y) W4 ⟨a', c', x⟩ A c from fun a' c' => by
            obtain ⟨hA1, hc1, hc2, hc3, _, _, _, _, _, _, _, hamb⟩ := HA.out
            have := HBW.out.size
            refine ⟨(HQ.out W4 hg4).2.2.2.2, fun a e => ⟨ex_of (hA1 a e).2.2 fun _ hb => (hg4.block a.block (Blk.lt hb) (fun e' => hamb a e (by cases e'; rfl))).trans hb, ?_⟩, hc1, hc2, hc3⟩
            rintro (hq | hq)
            · have := HH.out.2.2.2.2.1 _ hq; have := (hA1 a e).2.1; omega
            · exact (hA1 a e).1 hq)
          have GO := hid (show ∀ (a' : Int), Good (fun q => Y q ∨ q = y) W4 ⟨a', ac.change, ac.first⟩ A0 ca from fun a' => by
            have := HG.out.2.2.2.below HW4.out
            exact ⟨this.ints, this.av, this.le, this.mx, this.nil⟩)
          have SK := hid (show (ac.ways == 0 || decide (nx.change + rc < ac.change)) = true → specTo b cs fs k s (j + 1) = ⟨ac.ways + nx.ways, nx.change + rc, x⟩ from fun h => by rw [HSQ.out, stepR_take h0 (by rw [HRC.out]; exact h), HRC.out])
          have SM := hid (show (ac.ways == 0 || decide (nx.change + rc < ac.change)) = false → specTo b cs fs k s (j + 1) = ⟨ac.ways + nx.ways, ac.change, ac.first⟩ from fun h => by rw [HSQ.out, stepR_more h0 (by rw [HRC.out]; exact h)])
          have B0 := hid hB74
          clear hg4
          cases h1 : (ac.ways == 0)
          · cases h2 : decide (nx.change + rc < ac.change)
            · gi_wp2
              exact FIN.out _ _ _ _ (grown_of_set W4 ⟨B7, 0, none⟩ _) (B0.out.set_ 0 _) (SM.out (by rw [h1, h2]; rfl)) (GO.out _)
            · gi_wp2
              exact FIN.out _ _ _ _ (grown_one (grown_one (grown_of_set W4 ⟨B7, 1, none⟩ _) (grown_of_set _ ⟨B7, 2, none⟩ _)) (grown_of_set _ ⟨B7, 0, none⟩ _)) (((B0.out.set_ 1 _).set_ 2 _).set_ 0 _) (SK.out (by rw [h1]; rw [h2]; rfl)) (GX.out _ _)
          · gi_wp2
            exact FIN.out _ _ _ _ (grown_one (grown_one (grown_of_set W4 ⟨B7, 1, none⟩ _) (grown_of_set _ ⟨B7, 2, none⟩ _)) (grown_of_set _ ⟨B7, 0, none⟩ _)) (((B0.out.set_ 1 _).set_ 2 _).set_ 0 _) (SK.out (by rw [h1]; rfl)) (GX.out _ _)
        · gi_wp2
          obtain ⟨es', ck', hmap, _⟩ := HI.out.memo
          exact ⟨rfl, ⟨(HQ.out W3 HG.out.1).1, HG.out.2.1, (HQ.out W3 HG.out.1).2.1, (HQ.out W3 HG.out.1).2.2.1, (HQ.out W3 HG.out.1).2.2.2.1, grown_then HI.out.base HG.out.1, A0, ca, by rw [HSQ.out, stepR_skip h0]; exact hB7, by rw [HSQ.out, stepR_skip h0]; exact HG.out.2.2.2⟩,
            Keep.of_other HG.out.1 ⟨_, hmap, rfl⟩, fun i hi hlt => HG.out.1.block i hlt (fun e => by cases e; omega)⟩
end Go.Proofs.YtlnamjhgbdacbaaGreat
/- from, whole. -/
namespace Go.Proofs.YtlnamjhgbdacbaaGreat
open Go.RowKit Go.Shelf

theorem from_any {P n mb : Nat} {b : Int} {At : Option Addr} {ct : Nat} {cs : List (List Int)} {Af : Option Addr} {cf : Nat} {fs : List Fx} (ok : TOk b cs fs) (hP : P ≠ mb) (hnm : n ≤ mb) :
    ∀ (k r : Nat) (s : S4) (Y : Nat → Prop) (W : World), r + k = cs.length → Small (10100 * (r : Int)) s → Y mb → (∀ q, Y q → q < W.heap.size) → FEnv P n mb b At ct cs Af cf fs W → Memo b cs fs mb Y W →
      Calls Tryz.prog 28 #[.pointer (some ⟨P, 0, none⟩), spotV (r : Int) s] W fun e W' => ∃ A c, e = .returned (restV (spec b cs fs k s) A c) ∧ W.grownBy W' (some mb) ∧ Memo b cs fs mb Y W' ∧ Good Y W' (spec b cs fs k s) A c := by
  intro k
  induction k with
  | zero =>
    intro r s Y W hr hs hY hYl he hm
    have hrl : r = cs.length := by omega
    subst hrl
    have hn2 := ok.okc.n2
    have hfirst : (spec b cs fs 0 s).first = [] := by unfold spec; split <;> rfl
    refine (from_zero he ok (hs.mono (by omega))).mono ?_
    rintro e W' ⟨rfl, hb⟩
    refine ⟨none, 0, rfl, grown_of_below hb _, hm.below hb, ⟨?_, ?_, ?_, Nat.zero_le _, fun _ => rfl⟩⟩
    · rw [hfirst]; intro q v hq; simp at hq
    · intro a e; cases e
    · rw [hfirst]; exact Nat.le_refl _
  | succ k ih =>
    intro r s Y W hr hs hY hYl he hm
    have hn2 := ok.okc.n2
    obtain ⟨es, clock, h1, h2, h3⟩ := id hm
    by_cases hin : ∃ x ∈ es.toList, x.key = spotV (r : Int) s
    · refine (from_hit he ok (by omega) (hs.mono (by omega)) h1 h2 (fun e he => by
        obtain ⟨k', s', A, c, g1, g2, g3, g4, _⟩ := h3 e he
        exact ⟨k', s', A, c, g1, g2, g3, g4⟩) hin).mono ?_
      rintro e W' ⟨⟨x, hx, hk, rfl⟩, hb⟩
      obtain ⟨k', s', A, c, g1, g2, g3, g4, g5⟩ := h3 x hx
      obtain ⟨e1, rfl⟩ := spotV_inj (g3.symm.trans hk)
      obtain rfl : k' = k + 1 := by omega
      exact ⟨A, c, by rw [g4], grown_of_below hb _, hm.below hb, g5.below hb⟩
    · refine from_miss he ok hr hs hY hYl hm h1 h2 (fun x hx hk => hin ⟨x, hx, hk⟩) hP hnm ?_
      intro s' Y' W' q1 q2 q3 q4 q5
      exact ih (r + 1) s' Y' W' (by omega) q1 q2 q3 q4 q5
end Go.Proofs.YtlnamjhgbdacbaaGreat
/- CheckTable: the error of a table, for every table that can be read. -/
namespace Go.Proofs.YtlnamjhgbdacbaaGreat
open Go.RowKit Go.Shelf

def narrowB (xs : List Int) : Bool := decide (xs.length ≤ 4)
/-- the number of a table's error -/
def chkE (b : Int) (cs : List (List Int)) (fs : List Fx) : Int :=
  if decide (5 < (cs.length : Int)) || !cs.all narrowB || decide (10 < (fs.length : Int)) then 3 else
  if !withinB b 2 100 || ((colsOf cs : Int) == 0) || !cs.all (rowB (colsOf cs) 10000) || !fs.all (fixOkB cs.length (colsOf cs)) then 1 else 0

set_option maxRecDepth 10000 in
set_option maxHeartbeats 1000000 in
theorem check_any (b : Int) (A : Option Addr) (c : Nat) (cs : List (List Int)) (A2 : Option Addr) (c2 : Nat) (fs : List Fx) (w : World) (h : IsRows w w.heap.size A cs) (hf : IsFixes w w.heap.size A2 fs)
    (hl : cs.length ≤ c) (hm : c ≤ maxLen) (hl2 : fs.length ≤ c2) (hm2 : c2 ≤ maxLen) (hk : colsOf cs ≤ maxLen) :
    Calls Tryz.prog 58 #[.agg #[.int .i64 b, .slice A cs.length c, .slice A2 fs.length c2]] w fun e w' => e = .returned (.int .i64 (chkE b cs fs)) ∧ Below w.heap.size w w' := by
  have hB := below_box (w := w) #[.int .i64 b, .slice A cs.length c, .slice A2 fs.length c2] 41
  have K1 := hid (fun W (hW : Below w.heap.size w W) => all_row narrowB A c cs W (h.at_ hW) hl hm 90 #[] #[] (enters_of Tryz.func90 (by kernel_rfl) rfl)
    (fun W1 x A' c' _ _ _ _ _ => by simpa [narrowB] using Calls.same_below (narrow_any A' x.length c' W1)))
  have K2 := hid (fun W => Calls.same_below (isBase_any b W))
  have K3 := hid (fun W (hW : Below w.heap.size w W) => columns_any (.int .i64 b) (.slice A2 fs.length c2) A c cs W (h.at_ hW))
  have K4 := hid (fun W (hW : Below w.heap.size w W) => all_row (rowB (colsOf cs) 10000) A c cs W (h.at_ hW) hl hm 87 #[.agg #[.int .i64 b, .slice A cs.length c, .slice A2 fs.length c2]] #[] (enters_of Tryz.func87 (by kernel_rfl) rfl)
    (fun W1 x A' c' hW1 _ h1 h2 h3 => by simpa using row_any (.int .i64 b) (.slice A2 fs.length c2) A c cs A' c' x W1 (h.at_ (then_below hW hW1)) h3 h1 h2))
  have K5 := hid (fun W (hW : Below w.heap.size w W) => all_fix (fixOkB cs.length (colsOf cs)) A2 c2 fs W (hf.at_ hW) hl2 hm2 88 #[.agg #[.int .i64 b, .slice A cs.length c, .slice A2 fs.length c2]] #[] (enters_of Tryz.func88 (by kernel_rfl) rfl)
    (fun W1 x hW1 _ => by simpa using fix_any (.int .i64 b) (.slice A2 fs.length c2) A c cs x W1 (h.at_ (then_below hW hW1)) (Nat.le_trans hl hm) hk))
  clear h hf hk hm hm2
  cases d1 : decide (5 < (cs.length : Int))
  · cases k1 : cs.all narrowB
    · have HR : Hid (chkE b cs fs = 3) := hid (by simp only [chkE, d1, k1]; rfl)
      rw [k1] at K1
      go_enter Tryz.func58, Tryz.ntmps58
      go_wp2_with fail
      go_region
      refine gen (p := Exit.then _ _ .normal _) (fun W => Below w.heap.size w W ∧ Blk W w.heap.size 41 #[.int .i64 b, .slice A cs.length c, .slice A2 fs.length c2]) ⟨hB.drew, Blk.new _ _ _⟩ ?_
      rintro W ⟨hW, hT⟩
      obtain ⟨e1, e2, e3⟩ := hT.c3
      go_wp2_with fail
      refine (K1.out W hW).mono ?_
      rintro e W1 ⟨rfl, hb1⟩
      have h1 := then_below hW hb1
      obtain ⟨e11, e21, e31⟩ := (hT.keep hb1).c3
      have hT1 := hT.keep hb1
      go_wp2
      go_ret
      exact ⟨by rw [HR.out]; rfl, h1⟩
    · cases d2 : decide (10 < (fs.length : Int))
      · cases k2 : withinB b 2 100
        · have HR : Hid (chkE b cs fs = 1) := hid (by simp only [chkE, d1, k1, d2, k2]; rfl)
          rw [k1] at K1
          rw [k2] at K2
          go_enter Tryz.func58, Tryz.ntmps58
          go_wp2_with fail
          go_region
          refine gen (p := Exit.then _ _ .normal _) (fun W => Below w.heap.size w W ∧ Blk W w.heap.size 41 #[.int .i64 b, .slice A cs.length c, .slice A2 fs.length c2]) ⟨hB.drew, Blk.new _ _ _⟩ ?_
          rintro W ⟨hW, hT⟩
          obtain ⟨e1, e2, e3⟩ := hT.c3
          go_wp2_with fail
          refine (K1.out W hW).mono ?_
          rintro e W1 ⟨rfl, hb1⟩
          have h1 := then_below hW hb1
          obtain ⟨e11, e21, e31⟩ := (hT.keep hb1).c3
          have hT1 := hT.keep hb1
          go_wp2_with fail
          refine (K2.out W1).mono ?_
          rintro e W2 ⟨rfl, hb2⟩
          have h2 := then_below h1 hb2
          obtain ⟨e12, e22, e32⟩ := (hT1.keep hb2).c3
          have hT2 := hT1.keep hb2
          go_wp2
          go_ret
          exact ⟨by rw [HR.out]; rfl, h2⟩
        · cases d3 : ((colsOf cs : Int) == 0)
          · cases k4 : cs.all (rowB (colsOf cs) 10000)
            · have HR : Hid (chkE b cs fs = 1) := hid (by simp only [chkE, d1, k1, d2, k2, d3, k4]; rfl)
              rw [k1] at K1
              rw [k2] at K2
              rw [k4] at K4
              go_enter Tryz.func58, Tryz.ntmps58
              go_wp2_with fail
              go_region
              refine gen (p := Exit.then _ _ .normal _) (fun W => Below w.heap.size w W ∧ Blk W w.heap.size 41 #[.int .i64 b, .slice A cs.length c, .slice A2 fs.length c2]) ⟨hB.drew, Blk.new _ _ _⟩ ?_
              rintro W ⟨hW, hT⟩
              obtain ⟨e1, e2, e3⟩ := hT.c3
              go_wp2_with fail
              refine (K1.out W hW).mono ?_
              rintro e W1 ⟨rfl, hb1⟩
              have h1 := then_below hW hb1
              obtain ⟨e11, e21, e31⟩ := (hT.keep hb1).c3
              have hT1 := hT.keep hb1
              go_wp2_with fail
              refine (K2.out W1).mono ?_
              rintro e W2 ⟨rfl, hb2⟩
              have h2 := then_below h1 hb2
              obtain ⟨e12, e22, e32⟩ := (hT1.keep hb2).c3
              have hT2 := hT1.keep hb2
              go_wp2_with fail
              refine (K3.out W2 h2).mono ?_
              rintro e W3 ⟨rfl, hb3⟩
              have h3 := then_below h2 hb3
              obtain ⟨e13, e23, e33⟩ := (hT2.keep hb3).c3
              have hT3 := hT2.keep hb3
              go_wp2_with fail
              refine (K4.out W3 h3).mono ?_
              rintro e W4 ⟨rfl, hb4⟩
              have h4 := then_below h3 hb4
              obtain ⟨e14, e24, e34⟩ := (hT3.keep hb4).c3
              have hT4 := hT3.keep hb4
              go_wp2
              go_ret
              exact ⟨by rw [HR.out]; rfl, h4⟩
            · cases k5 : fs.all (fixOkB cs.length (colsOf cs))
              · have HR : Hid (chkE b cs fs = 1) := hid (by simp only [chkE, d1, k1, d2, k2, d3, k4, k5]; rfl)
                rw [k1] at K1
                rw [k2] at K2
                rw [k4] at K4
                rw [k5] at K5
                go_enter Tryz.func58, Tryz.ntmps58
                go_wp2_with fail
                go_region
                refine gen (p := Exit.then _ _ .normal _) (fun W => Below w.heap.size w W ∧ Blk W w.heap.size 41 #[.int .i64 b, .slice A cs.length c, .slice A2 fs.length c2]) ⟨hB.drew, Blk.new _ _ _⟩ ?_
                rintro W ⟨hW, hT⟩
                obtain ⟨e1, e2, e3⟩ := hT.c3
                go_wp2_with fail
                refine (K1.out W hW).mono ?_
                rintro e W1 ⟨rfl, hb1⟩
                have h1 := then_below hW hb1
                obtain ⟨e11, e21, e31⟩ := (hT.keep hb1).c3
                have hT1 := hT.keep hb1
                go_wp2_with fail
                refine (K2.out W1).mono ?_
                rintro e W2 ⟨rfl, hb2⟩
                have h2 := then_below h1 hb2
                obtain ⟨e12, e22, e32⟩ := (hT1.keep hb2).c3
                have hT2 := hT1.keep hb2
                go_wp2_with fail
                refine (K3.out W2 h2).mono ?_
                rintro e W3 ⟨rfl, hb3⟩
                have h3 := then_below h2 hb3
                obtain ⟨e13, e23, e33⟩ := (hT2.keep hb3).c3
                have hT3 := hT2.keep hb3
                go_wp2_with fail
                refine (K4.out W3 h3).mono ?_
                rintro e W4 ⟨rfl, hb4⟩
                have h4 := then_below h3 hb4
                obtain ⟨e14, e24, e34⟩ := (hT3.keep hb4).c3
                have hT4 := hT3.keep hb4
                go_wp2_with fail
                refine (K5.out W4 h4).mono ?_
                rintro e W5 ⟨rfl, hb5⟩
                have h5 := then_below h4 hb5
                obtain ⟨e15, e25, e35⟩ := (hT4.keep hb5).c3
                have hT5 := hT4.keep hb5
                go_wp2
                go_ret
                exact ⟨by rw [HR.out]; rfl, h5⟩
              · have HR : Hid (chkE b cs fs = 0) := hid (by simp only [chkE, d1, k1, d2, k2, d3, k4, k5]; rfl)
                rw [k1] at K1
                rw [k2] at K2
                rw [k4] at K4
                rw [k5] at K5
                go_enter Tryz.func58, Tryz.ntmps58
                go_wp2_with fail
                go_region
                refine gen (p := Exit.then _ _ .normal _) (fun W => Below w.heap.size w W ∧ Blk W w.heap.size 41 #[.int .i64 b, .slice A cs.length c, .slice A2 fs.length c2]) ⟨hB.drew, Blk.new _ _ _⟩ ?_
                rintro W ⟨hW, hT⟩
                obtain ⟨e1, e2, e3⟩ := hT.c3
                go_wp2_with fail
                refine (K1.out W hW).mono ?_
                rintro e W1 ⟨rfl, hb1⟩
                have h1 := then_below hW hb1
                obtain ⟨e11, e21, e31⟩ := (hT.keep hb1).c3
                have hT1 := hT.keep hb1
                go_wp2_with fail
                refine (K2.out W1).mono ?_
                rintro e W2 ⟨rfl, hb2⟩
                have h2 := then_below h1 hb2
                obtain ⟨e12, e22, e32⟩ := (hT1.keep hb2).c3
                have hT2 := hT1.keep hb2
                go_wp2_with fail
                refine (K3.out W2 h2).mono ?_
                rintro e W3 ⟨rfl, hb3⟩
                have h3 := then_below h2 hb3
                obtain ⟨e13, e23, e33⟩ := (hT2.keep hb3).c3
                have hT3 := hT2.keep hb3
                go_wp2_with fail
                refine (K4.out W3 h3).mono ?_
                rintro e W4 ⟨rfl, hb4⟩
                have h4 := then_below h3 hb4
                obtain ⟨e14, e24, e34⟩ := (hT3.keep hb4).c3
                have hT4 := hT3.keep hb4
                go_wp2_with fail
                refine (K5.out W4 h4).mono ?_
                rintro e W5 ⟨rfl, hb5⟩
                have h5 := then_below h4 hb5
                obtain ⟨e15, e25, e35⟩ := (hT4.keep hb5).c3
                have hT5 := hT4.keep hb5
                go_wp2
                go_ret
                exact ⟨by rw [HR.out]; rfl, h5⟩
          · have HR : Hid (chkE b cs fs = 1) := hid (by simp only [chkE, d1, k1, d2, k2, d3]; rfl)
            rw [k1] at K1
            rw [k2] at K2
            go_enter Tryz.func58, Tryz.ntmps58
            go_wp2_with fail
            go_region
            refine gen (p := Exit.then _ _ .normal _) (fun W => Below w.heap.size w W ∧ Blk W w.heap.size 41 #[.int .i64 b, .slice A cs.length c, .slice A2 fs.length c2]) ⟨hB.drew, Blk.new _ _ _⟩ ?_
            rintro W ⟨hW, hT⟩
            obtain ⟨e1, e2, e3⟩ := hT.c3
            go_wp2_with fail
            refine (K1.out W hW).mono ?_
            rintro e W1 ⟨rfl, hb1⟩
            have h1 := then_below hW hb1
            obtain ⟨e11, e21, e31⟩ := (hT.keep hb1).c3
            have hT1 := hT.keep hb1
            go_wp2_with fail
            refine (K2.out W1).mono ?_
            rintro e W2 ⟨rfl, hb2⟩
            have h2 := then_below h1 hb2
            obtain ⟨e12, e22, e32⟩ := (hT1.keep hb2).c3
            have hT2 := hT1.keep hb2
            go_wp2_with fail
            refine (K3.out W2 h2).mono ?_
            rintro e W3 ⟨rfl, hb3⟩
            have h3 := then_below h2 hb3
            obtain ⟨e13, e23, e33⟩ := (hT2.keep hb3).c3
            have hT3 := hT2.keep hb3
            go_wp2
            go_ret
            exact ⟨by rw [HR.out]; rfl, h3⟩
      · have HR : Hid (chkE b cs fs = 3) := hid (by simp only [chkE, d1, k1, d2]; rfl)
        rw [k1] at K1
        go_enter Tryz.func58, Tryz.ntmps58
        go_wp2_with fail
        go_region
        refine gen (p := Exit.then _ _ .normal _) (fun W => Below w.heap.size w W ∧ Blk W w.heap.size 41 #[.int .i64 b, .slice A cs.length c, .slice A2 fs.length c2]) ⟨hB.drew, Blk.new _ _ _⟩ ?_
        rintro W ⟨hW, hT⟩
        obtain ⟨e1, e2, e3⟩ := hT.c3
        go_wp2_with fail
        refine (K1.out W hW).mono ?_
        rintro e W1 ⟨rfl, hb1⟩
        have h1 := then_below hW hb1
        obtain ⟨e11, e21, e31⟩ := (hT.keep hb1).c3
        have hT1 := hT.keep hb1
        go_wp2
        go_ret
        exact ⟨by rw [HR.out]; rfl, h1⟩
  · have HR : Hid (chkE b cs fs = 3) := hid (by simp only [chkE, d1]; rfl)
    go_enter Tryz.func58, Tryz.ntmps58
    go_wp2_with fail
    go_region
    refine gen (p := Exit.then _ _ .normal _) (fun W => Below w.heap.size w W ∧ Blk W w.heap.size 41 #[.int .i64 b, .slice A cs.length c, .slice A2 fs.length c2]) ⟨hB.drew, Blk.new _ _ _⟩ ?_
    rintro W ⟨hW, hT⟩
    obtain ⟨e1, e2, e3⟩ := hT.c3
    go_wp2
    go_ret
    exact ⟨by rw [HR.out]; rfl, hW⟩
end Go.Proofs.YtlnamjhgbdacbaaGreat
/- work: a table at work. -/
namespace Go.Proofs.YtlnamjhgbdacbaaGreat
open Go.RowKit Go.Shelf

/-- the table of a call lies in memory -/
structure TIn (A : Option Addr) (c : Nat) (cs : List (List Int)) (A2 : Option Addr) (c2 : Nat) (fs : List Fx) (w : World) : Prop where
  ic : IsRows w w.heap.size A cs
  ix : IsFixes w w.heap.size A2 fs
  l1 : cs.length ≤ c
  m1 : c ≤ maxLen
  l2 : fs.length ≤ c2
  m2 : c2 ≤ maxLen
  k : colsOf cs ≤ maxLen
theorem TIn.at_ {A : Option Addr} {c : Nat} {cs : List (List Int)} {A2 : Option Addr} {c2 : Nat} {fs : List Fx} {w w' : World} (h : TIn A c cs A2 c2 fs w) (hb : Below w.heap.size w w') : TIn A c cs A2 c2 fs w' :=
  ⟨h.ic.at_ hb, h.ix.at_ hb, h.l1, h.m1, h.l2, h.m2, h.k⟩

set_option maxRecDepth 10000 in
set_option maxHeartbeats 1000000 in
theorem work_bad (b : Int) (A : Option Addr) (c : Nat) (cs : List (List Int)) (A2 : Option Addr) (c2 : Nat) (fs : List Fx) (w : World) (h : TIn A c cs A2 c2 fs w) (hc : chkE b cs fs ≠ 0) :
    Calls Tryz.prog 27 #[.agg #[.int .i64 b, .slice A cs.length c, .slice A2 fs.length c2]] w fun e w' => e = .returned (.tuple #[.pointer none, .int .i64 (chkE b cs fs)]) ∧ Below w.heap.size w w' := by
  have hB := below_box (w := w) #[.int .i64 b, .slice A cs.length c, .slice A2 fs.length c2] 41
  have K := hid (show ∀ W, Below w.heap.size w W → _ from fun W hW => check_any b A c cs A2 c2 fs W (h.at_ hW).ic (h.at_ hW).ix h.l1 h.m1 h.l2 h.m2 h.k)
  have hne : (chkE b cs fs != 0) = true := by simpa using hc
  clear h hc
  generalize chkE b cs fs = ce at *
  go_enter Tryz.func27, Tryz.ntmps27
  go_wp2_with (go_at_call 58; refine (K.out _ hB).mono ?_; rintro e w2 ⟨rfl, hb2⟩)
  exact bodyPost_ret (v := .tuple #[.pointer none, .int .i64 ce]) (by simp [results, Tryz.results27, go_sem]) rfl ⟨rfl, hB.trans (hb2.mono hB.size)⟩

set_option maxRecDepth 10000 in
set_option maxHeartbeats 1000000 in
theorem work_ok (b : Int) (A : Option Addr) (c : Nat) (cs : List (List Int)) (A2 : Option Addr) (c2 : Nat) (fs : List Fx) (w : World) (h : TIn A c cs A2 c2 fs w) (hc : chkE b cs fs = 0) :
    Calls Tryz.prog 27 #[.agg #[.int .i64 b, .slice A cs.length c, .slice A2 fs.length c2]] w fun e w' => ∃ mb, e = .returned (.tuple #[.pointer (some ⟨mb + 1, 0, none⟩), .int .i64 0]) ∧ Below w.heap.size w w' ∧ w.heap.size ≤ mb ∧
      w'.heap[mb]? = some (.map #[] 0) ∧ Blk w' (mb + 1) 143 #[.int .i64 b, .slice A cs.length c, .slice A2 fs.length c2, .map (some mb)] := by
  have hB := below_box (w := w) #[.int .i64 b, .slice A cs.length c, .slice A2 fs.length c2] 41
  have K := hid (show ∀ W, Below w.heap.size w W → _ from fun W hW => check_any b A c cs A2 c2 fs W (h.at_ hW).ic (h.at_ hW).ix h.l1 h.m1 h.l2 h.m2 h.k)
  rw [hc] at K
  clear h hc
  have hmm := @run_makeMap Tryz.prog
  go_enter Tryz.func27, Tryz.ntmps27
  go_wp2_with (go_at_call 58; refine (K.out _ hB).mono ?_; rintro e w2 ⟨rfl, hb2⟩; have hz := hb2.size; simp at hz; have hT := (Blk.new w 41 #[.int .i64 b, .slice A cs.length c, .slice A2 fs.length c2]).keep hb2; have hlt := hT.lt; obtain ⟨d0, d1, d2⟩ := hT.c3)
  refine bodyPost_ret (v := .tuple #[.pointer (some ⟨w2.heap.size + 1, 0, none⟩), .int .i64 0]) (by simp [results, Tryz.results27, go_sem]) rfl ⟨w2.heap.size, rfl, ?_, by omega, ?_, ?_⟩
  · exact ((hB.trans (hb2.mono hB.size)).alloc (by omega) _).alloc (by simp; omega) _
  · exact (Below.heap_alloc _ _ _ (by simp)).trans (World.alloc_heap_new w2 _)
  · have := Blk.new (w2.alloc (.map #[] 0)) 143 #[.int .i64 b, .slice A cs.length c, .slice A2 fs.length c2, .map (some w2.heap.size)]
    rwa [World.size_alloc] at this
end Go.Proofs.YtlnamjhgbdacbaaGreat
/- Ways: how many roundings a table has. -/
namespace Go.Proofs.YtlnamjhgbdacbaaGreat
open Go.RowKit Go.Shelf

/-- where the work on a table begins -/
structure Began (b : Int) (A : Option Addr) (c : Nat) (cs : List (List Int)) (A2 : Option Addr) (c2 : Nat) (fs : List Fx) (n mb : Nat) (w' : World) : Prop where
  ok : TOk b cs fs
  env : FEnv (mb + 1) n mb b A c cs A2 c2 fs w'
  memo : Memo b cs fs mb (fun q => q = mb) w'
  hn : n ≤ mb
  lt : mb < w'.heap.size
theorem chk_ok {b : Int} {cs : List (List Int)} {fs : List Fx} (h : chkE b cs fs = 0) : TOk b cs fs := by
  unfold chkE at h
  split at h
  · cases h
  · rename_i h1
    split at h
    · cases h
    · rename_i h2
      simp only [Bool.or_eq_true, Bool.not_eq_true', not_or, Bool.not_eq_false, decide_eq_true_eq] at h1 h2
      obtain ⟨⟨a1, a2⟩, a3⟩ := h1
      obtain ⟨⟨⟨b1, b2⟩, b3⟩, b4⟩ := h2
      have q1 : 2 ≤ b ∧ b ≤ 100 := by simpa [withinB] using b1
      have q2 : colsOf cs ≠ 0 := by intro e; apply b2; rw [e]; rfl
      have q3 : ∀ r ∈ cs, r.length = colsOf cs ∧ ∀ x ∈ r, 0 ≤ x ∧ x ≤ 10000 := fun r hr => by
        have := List.all_eq_true.1 b3 r hr
        simp only [rowB, Bool.and_eq_true, beq_iff_eq] at this
        exact ⟨by omega, fun x hx => by simpa [withinB] using List.all_eq_true.1 this.2 x hx⟩
      have q4 : colsOf cs ≤ 4 := by
        cases cs with
        | nil => exact absurd rfl q2
        | cons r l =>
          have := List.all_eq_true.1 a2 r (by simp)
          simpa [narrowB, colsOf] using this
      have q5 : 1 ≤ cs.length := by
        cases cs with
        | nil => exact absurd rfl q2
        | cons r l => simp
      refine ⟨⟨q1.1, q1.2, q5, by omega, by omega, q4, fun r hr => (q3 r hr).1, fun r hr => (q3 r hr).2⟩, by omega, fun f hf => ?_⟩
      have := List.all_eq_true.1 b4 f hf
      simp only [fixOkB, withinB, Bool.and_eq_true, decide_eq_true_eq] at this
      omega

theorem below_new {A B C : World} {m : Nat} (h : Below A.heap.size A B) (k : B.grownBy C (some m)) (hm : A.heap.size ≤ m) : Below A.heap.size A C :=
  ⟨k.os.trans h.os, k.tape.trans h.tape, k.output.trans h.output, Nat.le_trans h.size k.size, fun i hi => (k.block i (Nat.lt_of_lt_of_le hi h.size) (fun e => by cases e; omega)).trans (h.block i hi)⟩
theorem began {b : Int} {A : Option Addr} {c : Nat} {cs : List (List Int)} {A2 : Option Addr} {c2 : Nat} {fs : List Fx} {w w' : World} {mb : Nat} (h : TIn A c cs A2 c2 fs w) (hc : chkE b cs fs = 0) (hb : Below w.heap.size w w') (h1 : w.heap.size ≤ mb) (h2 : w'.heap[mb]? = some (.map #[] 0))
    (h3 : Blk w' (mb + 1) 143 #[.int .i64 b, .slice A cs.length c, .slice A2 fs.length c2, .map (some mb)]) : Began b A c cs A2 c2 fs w.heap.size mb w' :=
  ⟨chk_ok hc, ⟨h3, h.ic.below hb, h.ix.below hb, hb.size⟩, ⟨#[], 0, h2, (fun e he => by simp at he), fun e he => by simp at he⟩, h1, (Array.getElem?_eq_some_iff.1 h2).1⟩
def zeroS : S4 := ⟨0, 0, 0, 0⟩
theorem zeroS_small {M : Int} (h : 0 ≤ M) : Small M zeroS := ⟨⟨Int.le_refl _, h⟩, ⟨Int.le_refl _, h⟩, ⟨Int.le_refl _, h⟩, ⟨Int.le_refl _, h⟩⟩
theorem rest_fields : (Tryz.prog.fieldsOf 102).toList.map (fun f => (f.type, f.offset)) = [(3, 0), (3, 1), (22, 2)] := by kernel_rfl
theorem rest_under : Tryz.prog.underlying 102 = some (.struct (Tryz.prog.fieldsOf 102)) := by kernel_rfl
theorem field_at {P : Program} {l : List (Nat × Nat)} {t : TypeId} (h : (P.fieldsOf t).toList.map (fun f => (f.type, f.offset)) = l) {i a b : Nat} (hl : l[i]? = some (a, b)) : ∃ f : Field, (P.fieldsOf t)[i]? = some f ∧ f.type = a ∧ f.offset = b := by
  rw [← h, List.getElem?_map] at hl
  cases hf : (P.fieldsOf t).toList[i]? with
  | none => rw [hf] at hl; cases hl
  | some f =>
    rw [hf] at hl
    simp at hl
    exact ⟨f, by simpa using hf, hl.1, hl.2⟩
theorem rest_field {u0 u1 u2 : Value} (i : Nat) (a : Nat) (v : Value) (W : World) (hl : [(3, 0), (3, 1), (22, 2)][i]? = some (a, i)) (hv : #[u0, u1, u2][i]? = some v) (ha : (isAgg a).run Tryz.prog W = .ok false W) : (Instr.field 102 (.agg #[u0, u1, u2]) i).run Tryz.prog W = .ok v W := by
  obtain ⟨f, h1, h2, h3⟩ := field_at rest_fields hl
  have hv' : [u0, u1, u2][i]? = some v := by simpa using hv
  simp [Instr.field, run_underlying rest_under, h1, h2, h3, part, asAgg, ha, hv', Result.andThen]
/-- the first call of from -/
theorem Began.from {b : Int} {A : Option Addr} {c : Nat} {cs : List (List Int)} {A2 : Option Addr} {c2 : Nat} {fs : List Fx} {n mb : Nat} {w : World} (h : Began b A c cs A2 c2 fs n mb w) :
    Calls Tryz.prog 28 #[.pointer (some ⟨mb + 1, 0, none⟩), spotV 0 zeroS] w fun e W' => ∃ A' c', e = .returned (restV (spec b cs fs cs.length zeroS) A' c') ∧ w.grownBy W' (some mb) ∧ Memo b cs fs mb (fun q => q = mb) W' ∧ Good (fun q => q = mb) W' (spec b cs fs cs.length zeroS) A' c' :=
  from_any h.ok (by omega) h.hn cs.length 0 zeroS (fun q => q = mb) w (by omega) (zeroS_small (by decide)) rfl (fun q hq => by cases hq; exact h.lt) h.env h.memo

set_option maxRecDepth 10000 in
set_option maxHeartbeats 1000000 in
theorem ways_any (b : Int) (A : Option Addr) (c : Nat) (cs : List (List Int)) (A2 : Option Addr) (c2 : Nat) (fs : List Fx) (w : World) (h : TIn A c cs A2 c2 fs w) :
    Calls Tryz.prog 21 #[.agg #[.int .i64 b, .slice A cs.length c, .slice A2 fs.length c2]] w fun e w' =>
      e = .returned (if chkE b cs fs = 0 then .tuple #[.int .i64 (spec b cs fs cs.length zeroS).ways, .int .i64 0] else .tuple #[.int .i64 0, .int .i64 (chkE b cs fs)]) ∧ Below w.heap.size w w' := by
  have hB := below_box (w := w) #[.int .i64 b, .slice A cs.length c, .slice A2 fs.length c2] 41
  have h' := h.at_ hB
  by_cases hc : chkE b cs fs = 0
  · have K := hid (work_ok b A c cs A2 c2 fs _ h' hc)
    have KB := hid (fun w' mb hb h1 h2 h3 => (began (w' := w') (mb := mb) h' hc hb h1 h2 h3).from)
    rw [if_pos hc]
    clear h h' hc
    go_enter Tryz.func21, Tryz.ntmps21
    go_wp2_with (first | (go_at_call 27; refine (K.out).mono ?_; rintro e w2 ⟨mb, rfl, hb2, h1, h2, h3⟩; have KC := KB.out w2 mb hb2 h1 h2 h3; have KD := hid (And.intro KC (And.intro hb2 h1)); clear KC hb2 h1 h2 h3) | (go_at_call 28; refine (KD.out.1).mono ?_; rintro e w3 ⟨A', c', rfl, hg, _, _⟩; simp only [restV]))
    have hfl := rest_field (u0 := .int .i64 (spec b cs fs cs.length zeroS).ways) (u1 := .int .i64 (spec b cs fs cs.length zeroS).change) (u2 := .slice A' (spec b cs fs cs.length zeroS).first.length c') 0 3 _ w3 rfl rfl (by simp [go_sem, isAgg])
    go_simp
    go_wp2
    exact bodyPost_ret (v := .tuple #[.int .i64 (spec b cs fs cs.length zeroS).ways, .int .i64 0]) (by simp [results, Tryz.results21, go_sem]) rfl ⟨rfl, hB.trans ((below_new KD.out.2.1 hg KD.out.2.2).mono hB.size)⟩
  · have K := hid (work_bad b A c cs A2 c2 fs _ h' hc)
    have hne : (chkE b cs fs != 0) = true := by simpa using hc
    rw [if_neg hc]
    clear h h' hc
    generalize chkE b cs fs = ce at *
    go_enter Tryz.func21, Tryz.ntmps21
    go_wp2_with (go_at_call 27; refine (K.out).mono ?_; rintro e w2 ⟨rfl, hb2⟩)
    exact bodyPost_ret (v := .tuple #[.int .i64 0, .int .i64 ce]) (by simp [results, Tryz.results21, go_sem]) rfl ⟨rfl, hB.trans (hb2.mono hB.size)⟩
end Go.Proofs.YtlnamjhgbdacbaaGreat
/- The way, the time and the tour of one place. Conditions stand at each theorem. -/
namespace Go.Proofs.YtlnamjhgbdacbaaGreat
open Go.RowKit Go.Shelf

theorem leg_fields : (Tryz.prog.fieldsOf 155).toList.map (fun f => (f.type, f.offset)) = [(3, 0), (3, 1)] := by kernel_rfl
theorem leg_under : Tryz.prog.underlying 155 = some (.struct (Tryz.prog.fieldsOf 155)) := by kernel_rfl
theorem leg_field {u0 u1 : Value} (i : Nat) (a : Nat) (v : Value) (W : World) (hl : [(3, 0), (3, 1)][i]? = some (a, i)) (hv : #[u0, u1][i]? = some v) (ha : (isAgg a).run Tryz.prog W = .ok false W) : (Instr.field 155 (.agg #[u0, u1]) i).run Tryz.prog W = .ok v W := by
  obtain ⟨f, h1, h2, h3⟩ := field_at leg_fields hl
  have hv' : [u0, u1][i]? = some v := by simpa using hv
  simp [Instr.field, run_underlying leg_under, h1, h2, h3, part, asAgg, ha, hv', Result.andThen]
theorem leg_time (W : World) : (Instr.field 155 (.agg #[.int .i64 0, .int .i64 0]) 0).run Tryz.prog W = .ok (.int .i64 0) W := leg_field 0 3 _ W rfl rfl (by simp [go_sem, isAgg])
theorem leg_next (W : World) : (Instr.field 155 (.agg #[.int .i64 0, .int .i64 0]) 1).run Tryz.prog W = .ok (.int .i64 0) W := leg_field 1 3 _ W rfl rfl (by simp [go_sem, isAgg])

set_option maxRecDepth 100000 in
set_option maxHeartbeats 1000000 in
theorem wway_zero (v : Value) (w : World) : Calls Tryz.prog 44 #[v, .int .i64 0, .int .i64 0] w fun e w' => (∃ b, e = .returned (.slice (some ⟨b, 0, none⟩) 1 1)) ∧ Below w.heap.size w w' := by
  have hB := below_box (w := w) #[.int .i64 0] 3
  have HB := hid hB
  clear hB
  go_enter Tryz.func44, Tryz.ntmps44
  go_wp2
  go_rounds 1
  go_ret
  exact ⟨⟨_, rfl⟩, HB.out⟩

set_option maxRecDepth 100000 in
set_option maxHeartbeats 2000000 in
theorem wlongest_one {g mp B : Nat} {c : Nat} {f : Value} (w : World) (h : AtOne w g mp (some ⟨B, 0, none⟩) c (.int .i64 0) f) (hm : w.heap[mp]? = some (.map #[] 0)) (hb : Blk w B 87 #[.int .i64 1, .int .i64 2]) (hg : g ≠ mp) (hB : B ≠ mp) :
    Calls Tryz.prog 47 #[.pointer (some ⟨g, 0, none⟩), .int .i64 1] w fun e w' => e = .returned (.int .i64 2) ∧ MChg (fun q => q = mp) w w' ∧ TOne w' mp := by
  have K1 := hid (wrest_miss w h hm)
  obtain ⟨cs, hc, hr⟩ := h.blk
  have HA := hid (And.intro hc hr)
  have HB := hid hb
  clear h hm hc hr hb
  go_enter Tryz.func47, Tryz.ntmps47
  go_wp2_with fail
  refine K1.out.mono ?_
  rintro e w2 ⟨rfl, hch, hto⟩
  have H2 := hid (And.intro hch hto)
  have hlt := leg_time w2
  clear hch hto K1
  go_wp2_with fail
  refine (wlist_one' _).mono ?_
  rintro e w3 ⟨a, cc, rfl, h1, h2, h3, h4, hb3⟩
  have H3 := hid (And.intro (H2.out.1.trans (MChg.of_below (Z := fun q => q = mp) hb3)) (H2.out.2.keep hb3))
  unfold maxLen at h2
  have hA : AtOne w3 g mp (some ⟨B, 0, none⟩) c (.int .i64 0) f := ⟨cs, H3.out.1.blk HA.out.1 hg, HA.out.2⟩
  obtain ⟨a0, a1, a2, a3, a4⟩ := hA.cells
  obtain ⟨b0, b1⟩ := (H3.out.1.blk HB.out hB).c2
  clear H2 hb3 hA
  go_wp2
  go_rounds 2
  go_ret
  exact ⟨rfl, H3.out⟩
end Go.Proofs.YtlnamjhgbdacbaaGreat
/- rest, longest on any atlas. Conditions stand at each theorem. -/
namespace Go.Proofs.YtlnamjhgbdacbaaGreat
open Go.RowKit Go.Shelf

theorem wrestg_any {g mp : Nat} {m : WMD} {A A2 : Option Addr} {c c2 : Nat} {T F : Nat → Nat → Int} (hg : g ≠ mp) {B : Nat} (hBp : 0 < B) (hB8 : B ≤ 8) (hT : ∀ x y, x < B → y < B → 0 ≤ T x y ∧ T x y ≤ farI) :
    ∀ (k s a : Nat), (bl s).length = k → s < 256 → (∀ n ∈ bl s, n < B) → a < B → ∀ w, AtW w g mp m A c A2 c2 T F → TMem T mp w →
    Calls Tryz.prog 65 #[.pointer (some ⟨g, 0, none⟩), .agg #[.int .i64 (a : Int), .int .i64 (s : Int)]] w fun e w' => e = .returned (legV (rst T a (bl s))) ∧ MChg (fun q => q = mp) w w' ∧ TMem T mp w' := by
  intro k
  induction k with
  | zero =>
    intro s a hk hs hsB haB w hA hM
    have ha : a < 8 := by omega
    by_cases h0 : s = 0
    · exact (wrestg_zero a s ha hs w hA h0).mono fun e w' ⟨he, hb⟩ => ⟨he, MChg.of_below hb, hM.keep hb⟩
    · exact absurd (List.eq_nil_of_length_eq_zero hk) (bl_ne s hs h0)
  | succ k ih =>
    intro s a hk hs hsB haB w hA hM
    have ha : a < 8 := by omega
    have h0 : s ≠ 0 := fun e => by subst e; rw [bl_zero] at hk; simp at hk
    rcases hM.split a s with hn | hn
    · exact (wrestg_hit a s ha hs w hA hn h0).mono fun e w' ⟨he, hb⟩ => ⟨he, MChg.of_below hb, hM.keep hb⟩
    · refine wrestg_miss a s ha hs w hA hM hn h0 hg hBp haB hsB hT fun o ho W hA' hM' => ?_
      have ho8 := (bl_mem.1 ho).1
      have hl : (bl (rmv s o)).length = k := by
        rw [bl_rmv hs ho8]
        have := without_len (bl_nodup s) ho
        omega
      exact ih (rmv s o) o hl (rmv_fact s hs o ho8).2.1 (fun n hn => hsB n (by rw [bl_rmv hs ho8] at hn; exact (List.mem_filter.1 hn).1)) (hsB o ho) W hA' hM'
/-- the greatest time of the work of some places -/
def wkS (m : WMD) (l : List Nat) : Int := (l.map fun p => (m.work.getD p ⟨0, 0⟩).b).sum
def lonG (m : WMD) (T : Nat → Nat → Int) (s : Nat) : Int := (rst T 0 (bl s)).1 + wkS m (bl s)
theorem wkS_snoc (m : WMD) (l : List Nat) (n : Nat) : wkS m (l ++ [n]) = wkS m l + (m.work.getD n ⟨0, 0⟩).b := by simp [wkS]
theorem wk_at {m : WMD} (ok : OkW m) (p : Nat) : 0 ≤ (m.work.getD p ⟨0, 0⟩).b ∧ (m.work.getD p ⟨0, 0⟩).b ≤ 50 := by
  rw [List.getD]
  cases h : m.work[p]? with
  | none => simp
  | some x => have := ok.wk x (List.mem_of_getElem? h); simp only [Option.getD_some]; omega
theorem wkS_bound {m : WMD} (ok : OkW m) : ∀ l : List Nat, 0 ≤ wkS m l ∧ wkS m l ≤ 50 * (l.length : Int)
  | [] => by simp [wkS]
  | x :: l => by
    have h1 := wk_at ok x
    have h2 := wkS_bound ok l
    have e : wkS m (x :: l) = (m.work.getD x ⟨0, 0⟩).b + wkS m l := by simp [wkS]
    rw [e, List.length_cons]
    omega
theorem legg_time (p : Int × Int) (W : World) : (Instr.field 155 (.agg #[.int .i64 p.1, .int .i64 p.2]) 0).run Tryz.prog W = .ok (.int .i64 p.1) W := leg_field 0 3 _ W rfl rfl (by simp [go_sem, isAgg])
theorem legg_next (p : Int × Int) (W : World) : (Instr.field 155 (.agg #[.int .i64 p.1, .int .i64 p.2]) 1).run Tryz.prog W = .ok (.int .i64 p.2) W := leg_field 1 3 _ W rfl rfl (by simp [go_sem, isAgg])

set_option maxRecDepth 100000 in
set_option maxHeartbeats 4000000 in
theorem wlongest_any {g mp : Nat} {m : WMD} {A A2 : Option Addr} {c c2 : Nat} {T F : Nat → Nat → Int} (ok : OkW m) (hg : g ≠ mp) (hT : ∀ x y, x < m.N → y < m.N → 0 ≤ T x y ∧ T x y ≤ farI) (s : Nat) (hs : s < 256) (hsN : ∀ p ∈ bl s, p < m.N) (w : World) (h : AtW w g mp m A c A2 c2 T F) (hm : TMem T mp w) (hw : IsJns w w.heap.size A m.work) (hwz : ∀ a, A = some a → a.block ≠ mp) :
    Calls Tryz.prog 47 #[.pointer (some ⟨g, 0, none⟩), .int .i64 (s : Int)] w fun e w' => e = .returned (.int .i64 (lonG m T s)) ∧ MChg (fun q => q = mp) w w' ∧ TMem T mp w' := by
  have hN0 : 0 < m.N := ok.w1
  have hN8 : m.N ≤ 8 := ok.w8
  have K1 := wrestg_any hg hN0 hN8 hT _ s 0 rfl hs hsN hN0 w h hm
  obtain ⟨⟨r1, r2⟩, hr⟩ : ∃ p, rst T 0 (bl s) = p := ⟨_, rfl⟩
  have hrb := rst_bound hN0 hT _ (bl s) rfl (bl_nodup _) hsN 0 hN0
  rw [hr] at K1 hrb
  unfold legV at K1
  have K1 := hid K1
  have HR := hid hr
  obtain ⟨L, hL⟩ : ∃ L, (bl s).length = L := ⟨_, rfl⟩
  have hL8 : L ≤ 8 := by rw [← hL]; exact bl_len s
  have HL := hid hL
  have HA := hid h
  have HW := hid (And.intro hw hwz)
  have HSN := hid hsN
  have OK := hid ok
  have hrb1 : 0 ≤ r1 ∧ r1 ≤ 1048576 := hrb
  clear hrb
  clear h hm hw hwz hr hL hsN ok
  go_enter Tryz.func47, Tryz.ntmps47
  go_wp2_with fail
  refine K1.out.mono ?_
  rintro e w2 ⟨rfl, hch, hto⟩
  have hlt := legg_time (r1, r2) w2
  have H2 := hid (And.intro hch hto)
  clear hch hto K1
  have KL := wlist_set s hs w2
  unfold GivesInts at KL
  rw [List.length_map, HL.out] at KL
  have KL := hid KL
  go_wp2_with fail
  refine KL.out.mono ?_
  rintro e w3 ⟨A4, c4, rfl, h1, h2, h3, h4, h5, hb⟩
  have H3 := hid (And.intro (H2.out.1.trans (MChg.of_below (Z := fun q => q = mp) hb)) (H2.out.2.keep hb))
  have HLI := hid h3
  unfold maxLen at h2
  clear H2 hb KL h3 h4 h5 hlt
  go_wp2
  go_loopw [5, 16] (fun v i W => ∃ k : Nat, k ≤ L ∧ i = .int .i64 k ∧ v = .int .i64 (r1 + wkS m ((bl s).take k)) ∧ W = w3) (fun _ i _ => L - (intOf i).toNat)
  case atStart => exact ⟨0, Nat.zero_le _, rfl, by simp [wkS], by first | trivial | rfl⟩
  case round =>
    obtain ⟨k, hk, rfl, rfl, rfl⟩ := hrel
    by_cases hlk : k < L
    · have hkI : (k : Int) < (L : Int) := by omega
      obtain ⟨p, hp⟩ : ∃ p, (bl s)[k]? = some p := ⟨_, List.getElem?_eq_getElem (by rw [HL.out]; exact hlk)⟩
      have hpN : p < m.work.length := HSN.out p (List.mem_of_getElem? hp)
      have hpI : (p : Int) < (m.work.length : Int) := by omega
      obtain ⟨a4, rfl, _, c4'⟩ := HLI.out k (p : Int) (by rw [List.getElem?_map, hp]; rfl)
      have hAt := HA.out.chg H3.out.1 hg
      obtain ⟨a0, a1, _⟩ := hAt.head
      have al := hAt.lt
      obtain ⟨x, hx⟩ : ∃ x, m.work[p]? = some x := ⟨_, List.getElem?_eq_getElem hpN⟩
      obtain ⟨aw, eaw, g1, g2, g3⟩ := HW.out.1 p x hx
      have hz := HW.out.2 aw eaw
      have g3 := H3.out.1.keep.cell g3 (show ¬ (aw.add (p * 2)).block = mp by rw [block_of_add]; exact hz)
      have hwkb := wkS_bound OK.out ((bl s).take k)
      have hlen : (((bl s).take k).length : Int) ≤ 8 := by have := List.length_take_le k (bl s); omega
      have hxb := OK.out.wk x (List.mem_of_getElem? hx)
      have hwx : IntKind.i64.wrap (r1 + wkS m ((bl s).take k) + x.b) = r1 + wkS m ((bl s).take k) + x.b := IntWalk.i64_in _ (by omega)
      have HST := hid (show r1 + wkS m ((bl s).take (k + 1)) = r1 + wkS m ((bl s).take k) + x.b by
        obtain ⟨h9, e9⟩ := List.getElem?_eq_some_iff.1 hp
        rw [List.take_succ_eq_append_getElem h9, wkS_snoc, e9, List.getD, hx]
        simp; omega)
      subst eaw
      clear hp hx hAt g1 g2 hz hwkb hlen hxb hpN
      go_wp2
      go_roundw
      case rel => exact ⟨k + 1, by omega, by go_num, by rw [HST.out], by first | trivial | rfl⟩
      case measure => first | (simp [intOf]; done) | (simp [intOf]; omega)
    · have hkI : decide ((k : Int) < (L : Int)) = false := decide_eq_false (by omega)
      have HFI := hid (show r1 + wkS m ((bl s).take k) = lonG m T s by unfold lonG; rw [HR.out, List.take_of_length_le (by rw [HL.out]; omega)])
      rw [HFI.out]
      go_wp2
      go_ret
      exact ⟨rfl, H3.out⟩
end Go.Proofs.YtlnamjhgbdacbaaGreat
/- Plain: a set of places in parts. No condition. -/
namespace Go.Proofs.YtlnamjhgbdacbaaGreat
open Go.RowKit Go.Shelf

/-- a set without another one -/
def wsub (s p : Nat) : Nat := s ^^^ (s &&& p)
theorem wsub_bit (s p n : Nat) : Nat.testBit (wsub s p) n = (Nat.testBit s n && !Nat.testBit p n) := by
  simp only [wsub, Nat.testBit_xor, Nat.testBit_and]
  cases Nat.testBit s n <;> cases Nat.testBit p n <;> rfl
theorem small64 (a : Nat) (ha : a < 256) : (BitVec.ofInt 64 (a : Int)).toNat = a := by
  rw [BitVec.ofInt_natCast, BitVec.toNat_ofNat]; exact Nat.mod_eq_of_lt (by omega)
theorem and_fact (s : Nat) (hs : s < 256) (p : Nat) (hp : p < 256) : bits BinOp.and IntKind.i64 (p : Int) (s : Int) = ((p &&& s : Nat) : Int) := by
  have hx : p &&& s < 2 ^ 8 := Nat.and_lt_two_pow _ (by omega)
  show IntKind.i64.wrap ((BitVec.ofInt 64 (p : Int) &&& BitVec.ofInt 64 (s : Int)).toNat : Int) = _
  rw [BitVec.toNat_and, small64 p hp, small64 s hs]
  exact IntWalk.i64_in _ (by omega)
theorem wsub_lt256 (s : Nat) (hs : s < 256) (p : Nat) : wsub s p < 256 := by
  have h1 : s &&& p < 2 ^ 8 := Nat.lt_of_le_of_lt Nat.and_le_left (by omega)
  exact Nat.xor_lt_two_pow (n := 8) (by omega) h1
theorem wsub_fact (s : Nat) (hs : s < 256) (p : Nat) (hp : p < 256) : bits BinOp.andNot IntKind.i64 (s : Int) (p : Int) = (wsub s p : Int) ∧ wsub s p < 256 := by
  have h0 := wsub_lt256 s hs p
  refine ⟨?_, h0⟩
  show IntKind.i64.wrap ((BitVec.ofInt 64 (s : Int) &&& ~~~ BitVec.ofInt 64 (p : Int)).toNat : Int) = _
  have e : s &&& (2 ^ 64 - 1 - p) = wsub s p := by
    refine Nat.eq_of_testBit_eq fun i => ?_
    rw [wsub_bit, Nat.testBit_and, show 2 ^ 64 - 1 - p = 2 ^ 64 - (p + 1) by omega, Nat.testBit_two_pow_sub_succ (by omega)]
    by_cases hi : i < 64
    · simp [hi]
    · have : Nat.testBit s i = false := Nat.testBit_lt_two_pow (Nat.lt_of_lt_of_le (show s < 2 ^ 8 by omega) (Nat.pow_le_pow_right (by omega) (by omega)))
      simp [this]
  rw [BitVec.toNat_and, BitVec.toNat_not, small64 s hs, small64 p hp, e]
  exact IntWalk.i64_in _ (by omega)
theorem wsub_lt (s : Nat) (_hs : s < 256) (p : Nat) (_hp : p < 256) (h : p &&& s = p) (h0 : p ≠ 0) : wsub s p < s := by
  have e : s &&& p = p := by rw [Nat.and_comm]; exact h
  obtain ⟨i, hi⟩ := Nat.exists_testBit_of_ne_zero h0
  have hne : wsub s p ≠ s := fun e2 => by
    have h1 := congrArg (fun x => Nat.testBit x i) e2
    simp only [wsub_bit, hi] at h1
    have h2 := congrArg (fun x => Nat.testBit x i) e
    simp only [Nat.testBit_and, hi, Bool.and_true] at h2
    rw [h2] at h1
    simp at h1
  have hle : wsub s p ≤ s := by
    have h3 : wsub s p &&& s = wsub s p := by
      refine Nat.eq_of_testBit_eq fun j => ?_
      rw [Nat.testBit_and, wsub_bit]
      cases Nat.testBit s j <;> cases Nat.testBit p j <;> rfl
    rw [← h3]
    exact Nat.and_le_right
  omega
theorem wsub_self (s : Nat) : wsub s s = 0 := by simp [wsub]
theorem sub_has {p s n : Nat} (h : p &&& s = p) (hp : Nat.testBit p n = true) : Nat.testBit s n = true := by
  have := congrArg (fun x => Nat.testBit x n) h
  simp only [Nat.testBit_and, hp, Bool.true_and] at this
  exact this
/-- parts of a set, each of which can be walked within a limit -/
inductive Div (m : WMD) (T : Nat → Nat → Int) (lim : Int) : Nat → List Nat → Prop
  | nil : Div m T lim 0 []
  | snoc {s p : Nat} {L : List Nat} : Div m T lim (wsub s p) L → p &&& s = p → p ≠ 0 → p < 256 → lonG m T p ≤ lim → Div m T lim s (L ++ [p])
section
variable {m : WMD} {T : Nat → Nat → Int} {lim : Int} {s : Nat} {L : List Nat}
theorem Div.has (h : Div m T lim s L) : ∀ n, Nat.testBit s n = true ↔ ∃ p, p ∈ L ∧ Nat.testBit p n = true := by
  induction h with
  | nil => intro n; simp
  | snoc h1 h2 h3 h4 h5 ih =>
    rename_i s p L
    intro n
    constructor
    · intro hs
      cases hp : Nat.testBit p n with
      | true => exact ⟨p, by simp, hp⟩
      | false =>
        obtain ⟨q, hq, hqn⟩ := (ih n).1 (by rw [wsub_bit, hs, hp]; rfl)
        exact ⟨q, by simp [hq], hqn⟩
    · rintro ⟨q, hq, hqn⟩
      rcases List.mem_append.1 hq with h | h
      · have := (ih n).2 ⟨q, h, hqn⟩
        rw [wsub_bit] at this
        simp at this
        exact this.1
      · simp at h
        subst h
        exact sub_has h2 hqn
theorem Div.part (h : Div m T lim s L) : ∀ p, p ∈ L → p ≠ 0 ∧ p < 256 ∧ lonG m T p ≤ lim := by
  induction h with
  | nil => intro p hp; cases hp
  | snoc h1 h2 h3 h4 h5 ih =>
    intro q hq
    rcases List.mem_append.1 hq with h | h
    · exact ih q h
    · simp at h
      subst h
      exact ⟨h3, h4, h5⟩
theorem Div.uniq (h : Div m T lim s L) : ∀ (k j p q n : Nat), L[k]? = some p → L[j]? = some q → Nat.testBit p n = true → Nat.testBit q n = true → k = j := by
  induction h with
  | nil => intro k j p q n h; simp at h
  | snoc h1 h2 h3 h4 h5 ih =>
    rename_i s r L
    have key : ∀ (k p n : Nat), L[k]? = some p → Nat.testBit p n = true → Nat.testBit r n = true → False := fun k p n hk hp hr => by
      have := (h1.has n).2 ⟨p, List.mem_of_getElem? hk, hp⟩
      rw [wsub_bit, hr] at this
      simp at this
    have cut : ∀ (k p : Nat), (L ++ [r])[k]? = some p → (k < L.length ∧ L[k]? = some p) ∨ (k = L.length ∧ p = r) := fun k p hk => by
      by_cases hl : k < L.length
      · rw [List.getElem?_append_left hl] at hk
        exact .inl ⟨hl, hk⟩
      · rw [List.getElem?_append_right (by omega)] at hk
        by_cases e : k - L.length = 0
        · rw [e] at hk
          simp at hk
          exact .inr ⟨by omega, hk.symm⟩
        · rw [List.getElem?_eq_none (by simp; omega)] at hk
          cases hk
    intro k j p q n hk hj hp hq
    rcases cut k p hk with ⟨k1, k2⟩ | ⟨k1, k2⟩ <;> rcases cut j q hj with ⟨j1, j2⟩ | ⟨j1, j2⟩
    · exact ih k j p q n k2 j2 hp hq
    · subst j2; exact (key k p n k2 hp hq).elim
    · subst k2; exact (key j q n j2 hq hp).elim
    · omega
theorem Div.len (h : Div m T lim s L) : s < 256 → L.length ≤ s := by
  induction h with
  | nil => intro _; simp
  | snoc h1 h2 h3 h4 h5 ih =>
    rename_i s p L
    intro hs
    have h6 := wsub_lt s hs p h4 h2 h3
    have := ih (by omega)
    rw [List.length_append, List.length_singleton]
    omega
end
end Go.Proofs.YtlnamjhgbdacbaaGreat
