/- The walks and the plain laws of this part of the program, part 11: what each computes. Conditions stand at each theorem. -/
import Derived.Test.YtlnamjhgbdacbaaGreatK6
import Derived.Test.YtlnamjhgbdacbaaGreatK8
import Derived.Test.YtlnamjhgbdacbaaGreatK10
/- How a tour goes on, on any atlas. Conditions stand at each theorem. -/
namespace Go.Proofs.YtlnamjhgbdacbaaGreat
open Go.RowKit Go.Shelf

def legV (p : Int × Int) : Value := .agg #[.int .i64 p.1, .int .i64 p.2]
/-- the map of tours holds what is true -/
def TMem (T : Nat → Nat → Int) (mp : Nat) (W : World) : Prop := ∃ es ck, W.heap[mp]? = some (.map es ck) ∧ StandKeys es ∧ ∀ x ∈ es.toList, ∃ a s : Nat, a < 8 ∧ s < 256 ∧ x.key = stV a s ∧ x.val = legV (rst T a (bl s))
def TKnow (T : Nat → Nat → Int) (mp a s : Nat) (W : World) : Prop := ∃ es ck, W.heap[mp]? = some (.map es ck) ∧ StandKeys es ∧ (∃ x ∈ es.toList, x.key = stV a s) ∧ ∀ x ∈ es.toList, x.key = stV a s → x.val = legV (rst T a (bl s))
def TNot (mp a s : Nat) (W : World) : Prop := ∃ es ck, W.heap[mp]? = some (.map es ck) ∧ StandKeys es ∧ ∀ x ∈ es.toList, x.key ≠ stV a s
theorem stV_inj {a b a' b' : Int} (h : stV a b = stV a' b') : a = a' ∧ b = b' := by
  simp [stV] at h
  exact h
section
variable {T : Nat → Nat → Int} {mp a s : Nat} {W W' : World}
theorem TMem.split (h : TMem T mp W) (a s : Nat) : TKnow T mp a s W ∨ TNot mp a s W := by
  obtain ⟨es, ck, h1, h2, h3⟩ := h
  by_cases e : ∃ x ∈ es.toList, x.key = stV a s
  · refine .inl ⟨es, ck, h1, h2, e, fun x hx hk => ?_⟩
    obtain ⟨a', s', _, _, g1, g2⟩ := h3 x hx
    rw [g1] at hk
    obtain ⟨e1, e2⟩ := stV_inj hk
    have e1 : a' = a := by omega
    have e2 : s' = s := by omega
    subst e1 e2
    exact g2
  · exact .inr ⟨es, ck, h1, h2, fun x hx hk => e ⟨x, hx, hk⟩⟩
theorem TMem.lt (h : TMem T mp W) : mp < W.heap.size := by
  obtain ⟨es, ck, h1, _⟩ := h
  exact (Array.getElem?_eq_some_iff.1 h1).1
theorem TMem.keep (h : TMem T mp W) (hb : Below W.heap.size W W') : TMem T mp W' := by
  obtain ⟨es, ck, h1, h2⟩ := h
  exact ⟨es, ck, (hb.block _ (Array.getElem?_eq_some_iff.1 h1).1).trans h1, h2⟩
theorem TMem.far (h : TMem T mp W) {p : Addr} (hp : p.block ≠ mp) (u : Value) : TMem T mp (W.setCell p u) := by
  obtain ⟨es, ck, h1, h2⟩ := h
  exact ⟨es, ck, (Below.heap_setCell W p u _ hp.symm).trans h1, h2⟩
theorem TKnow.keep (h : TKnow T mp a s W) (hb : Below W.heap.size W W') : TKnow T mp a s W' := by
  obtain ⟨es, ck, h1, h2⟩ := h
  exact ⟨es, ck, (hb.block _ (Array.getElem?_eq_some_iff.1 h1).1).trans h1, h2⟩
theorem TNot.keep (h : TNot mp a s W) (hb : Below W.heap.size W W') : TNot mp a s W' := by
  obtain ⟨es, ck, h1, h2⟩ := h
  exact ⟨es, ck, (hb.block _ (Array.getElem?_eq_some_iff.1 h1).1).trans h1, h2⟩
theorem stand_nat (ha : a < 8) (hs : s < 256) : ∃ l, keyOf Tryz.prog 153 (stV a s) = some l := stand_key (by unfold Ix; omega) (by unfold Ix; omega)
theorem TKnow.look (h : TKnow T mp a s W) (ha : a < 8) (hs : s < 256) : (Instr.lookup 125 (.map (some mp)) (.agg #[.int .i64 (a : Int), .int .i64 (s : Int)]) true).run Tryz.prog W = .ok (.tuple #[legV (rst T a (bl s)), .bool true]) W := by
  obtain ⟨es, ck, h1, h2, ⟨x0, h4, h5⟩, h3⟩ := h
  rcases stand_look (t := 125) true Tryz.underlying125 (leg_zero _) h1 h2 (stand_nat ha hs) with ⟨_, hno⟩ | ⟨x, hx, hk, hr⟩
  · exact absurd h5 (hno x0 h4)
  · rw [h3 x hx hk] at hr
    exact hr
theorem TNot.look (h : TNot mp a s W) (ha : a < 8) (hs : s < 256) : (Instr.lookup 125 (.map (some mp)) (.agg #[.int .i64 (a : Int), .int .i64 (s : Int)]) true).run Tryz.prog W = .ok (.tuple #[.agg #[.int .i64 0, .int .i64 0], .bool false]) W := by
  obtain ⟨es, ck, h1, h2, h3⟩ := h
  rcases stand_look (t := 125) true Tryz.underlying125 (leg_zero _) h1 h2 (stand_nat ha hs) with ⟨hr, _⟩ | ⟨x, hx, hk, _⟩
  · exact hr
  · exact absurd hk (h3 x hx)
theorem TMem.store (h : TMem T mp W) (ha : a < 8) (hs : s < 256) : ∃ es ck, (Instr.mapUpdate 125 (.map (some mp)) (.agg #[.int .i64 (a : Int), .int .i64 (s : Int)]) (legV (rst T a (bl s)))).run Tryz.prog W = .ok () (W.putObj mp (.map es ck)) ∧ TMem T mp (W.putObj mp (.map es ck)) := by
  obtain ⟨es0, ck0, g1, g2, g3⟩ := h
  obtain ⟨es, ck, h1, h2, h3, _⟩ := stand_store (t := 125) Tryz.underlying125 g1 g2 (stand_nat ha hs) (legV (rst T a (bl s)))
  refine ⟨es, ck, h1, es, ck, World.putObj_heap_same (Array.getElem?_eq_some_iff.1 g1).1, h2, fun x hx => ?_⟩
  rcases h3 x hx with h | h
  · exact g3 x h
  · exact ⟨a, s, ha, hs, h.1, h.2⟩
end
/-- where rest stands while it looks a stand up -/
structure PhK (w : World) (a s : Nat) (u v : Int) (ac : Act) (li : Array Bool) (W : World) : Prop where
  bel : Below w.heap.size w W
  bs : Blk W w.heap.size 153 #[.int .i64 (a : Int), .int .i64 (s : Int)]
  bl : Blk W (w.heap.size + 1) 155 #[.int .i64 0, .int .i64 0]
  al : li.getD 9 false = true → ∃ z, ac.tmps.getD 5 undef = .pointer (some ⟨z, 0, none⟩) ∧ w.heap.size + 2 ≤ z ∧ Blk W z 155 (if li.getD 10 false = true then #[.int .i64 u, .int .i64 v] else #[.int .i64 0, .int .i64 0])
section
variable {w : World} {a s : Nat} {u v : Int} {ac : Act} {li : Array Bool} {W : World}
theorem PhK.other {i d : Nat} {x : Value} (h : PhK w a s u v ac li W) (hi : i ≠ 9) (hi2 : i ≠ 10) (hd : d ≠ 5) : PhK w a s u v (ac.put (some d) x) (li.setIfInBounds i true) W :=
  ⟨h.bel, h.bs, h.bl, fun hl => by
    rw [getD_set_oth hi] at hl
    rw [getD_set_oth hi2]
    obtain ⟨z, e, hz⟩ := h.al hl
    exact ⟨z, (put_getD_other hd).trans e, hz⟩⟩
theorem PhK.new (h : PhK w a s u v ac li W) (hs : 5 < ac.tmps.size) (hn : li.getD 10 false = false) : PhK w a s u v (ac.put (some 5) (.pointer (some ⟨W.heap.size, 0, none⟩))) (li.setIfInBounds 9 true) (W.alloc (.cells #[.int .i64 0, .int .i64 0] 155)) :=
  ⟨h.bel.alloc h.bel.size _, h.bs.alloc _, h.bl.alloc _, fun _ => ⟨W.heap.size, put_getD_same hs, by have := h.bl.lt; omega, by rw [getD_set_oth (by decide), hn, if_neg (by decide)]; exact Blk.new _ _ _⟩⟩
theorem PhK.sto {z : Nat} {x : Value} (h : PhK w a s u v ac li W) (e : ac.tmps.getD 5 undef = .pointer (some ⟨z, 0, none⟩)) (hz : w.heap.size + 2 ≤ z) (hb : Blk W z 155 #[.int .i64 0, .int .i64 0]) (hl : 10 < li.size) : PhK w a s u v (ac.put none x) (li.setIfInBounds 10 true) ((W.setCell ⟨z, 0, none⟩ (.int .i64 u)).setCell ⟨z, 1, none⟩ (.int .i64 v)) :=
  ⟨(h.bel.setCell (p := ⟨z, 0, none⟩) (by show w.heap.size ≤ z; omega) _).setCell (p := ⟨z, 1, none⟩) (by show w.heap.size ≤ z; omega) _, (h.bs.far (p := ⟨z, 0, none⟩) (by show w.heap.size ≠ z; omega) _).far (p := ⟨z, 1, none⟩) (by show w.heap.size ≠ z; omega) _, (h.bl.far (p := ⟨z, 0, none⟩) (by show w.heap.size + 1 ≠ z; omega) _).far (p := ⟨z, 1, none⟩) (by show w.heap.size + 1 ≠ z; omega) _, fun _ => ⟨z, e, hz, by rw [getD_set_eq hl, if_pos rfl]; exact (hb.set_ 0 _).set_ 1 _⟩⟩
end

set_option maxRecDepth 100000 in
set_option maxHeartbeats 4000000 in
theorem wrestg_zero {g mp : Nat} {m : WMD} {A A2 : Option Addr} {c c2 : Nat} {T F : Nat → Nat → Int} (a s : Nat) (ha : a < 8) (hs : s < 256) (w : World) (h : AtW w g mp m A c A2 c2 T F) (h0 : s = 0) :
    Calls Tryz.prog 65 #[.pointer (some ⟨g, 0, none⟩), .agg #[.int .i64 (a : Int), .int .i64 (s : Int)]] w fun e w' => e = .returned (legV (rst T a (bl s))) ∧ Below w.heap.size w w' := by
  have hB := (below_box (w := w) #[.int .i64 (a : Int), .int .i64 (s : Int)] 153).alloc (below_box (w := w) #[.int .i64 (a : Int), .int .i64 (s : Int)] 153).size (.cells #[.int .i64 0, .int .i64 0] 155)
  have hT := (Blk.new w 153 #[.int .i64 (a : Int), .int .i64 (s : Int)]).alloc (.cells #[.int .i64 0, .int .i64 0] 155)
  have hL := Blk.new (w.alloc (.cells #[.int .i64 (a : Int), .int .i64 (s : Int)] 153)) 155 #[.int .i64 0, .int .i64 0]
  rw [World.size_alloc] at hL
  have ha8I : (a : Int) < 8 := by omega
  have HA := hid h
  have HS := hid (And.intro hB (And.intro hT hL))
  clear h hB hT hL
  subst h0
  rw [bl_zero, rst_nil]
  have hz : (((0 : Nat) : Int) == 0) = true := by decide
  go_enter Tryz.func65, Tryz.ntmps65
  go_upto_region 2 with (fail)
  refine gen (p := Code.wp _ _ _ _) (fun W => Below w.heap.size w W ∧ Blk W w.heap.size 153 #[.int .i64 (a : Int), .int .i64 0] ∧ Blk W (w.heap.size + 1) 155 #[.int .i64 0, .int .i64 0]) HS.out ?_
  clear HS
  rintro W h
  have H := hid h
  have hA := HA.out.keep h.1
  have a2 := hA.time ha (show 0 < 8 by omega)
  have al := hA.lt
  simp only [Nat.add_zero] at a2
  obtain ⟨t0, t1⟩ := h.2.1.c2
  obtain ⟨l0, l1⟩ := h.2.2.c2
  have lf0 := h.2.2.frozen 0
  have lf1 := h.2.2.frozen 1
  have ll := h.2.2.lt
  clear h hA
  go_region
  go_wp2
  have HX := hid (show Blk ((W.setCell ⟨w.heap.size + 1, 0, none⟩ (.int .i64 (T a 0))).setCell ⟨w.heap.size + 1, 1, none⟩ (.int .i64 0)).drew (w.heap.size + 1) 155 #[.int .i64 (T a 0), .int .i64 0] ∧ Below w.heap.size w ((W.setCell ⟨w.heap.size + 1, 0, none⟩ (.int .i64 (T a 0))).setCell ⟨w.heap.size + 1, 1, none⟩ (.int .i64 0)).drew from ⟨((H.out.2.2.set_ 0 _).set_ 1 _).drew, ((H.out.1.setCell (p := ⟨w.heap.size + 1, 0, none⟩) (by show w.heap.size ≤ w.heap.size + 1; omega) _).setCell (p := ⟨w.heap.size + 1, 1, none⟩) (by show w.heap.size ≤ w.heap.size + 1; omega) _).drew⟩)
  clear H a2 al t0 t1 l0 l1 lf0 lf1 ll
  generalize ((W.setCell ⟨w.heap.size + 1, 0, none⟩ (.int .i64 (T a 0))).setCell ⟨w.heap.size + 1, 1, none⟩ (.int .i64 0)).drew = W2 at *
  obtain ⟨l0, l1⟩ := HX.out.1.c2
  exact bodyPost_ret (v := .agg #[.int .i64 (T a 0), .int .i64 0]) (by simp [results, Tryz.results65, go_sem, l0, l1]) rfl ⟨rfl, HX.out.2⟩

set_option maxRecDepth 100000 in
set_option maxHeartbeats 4000000 in
theorem wrestg_hit {g mp : Nat} {m : WMD} {A A2 : Option Addr} {c c2 : Nat} {T F : Nat → Nat → Int} (a s : Nat) (ha : a < 8) (hs : s < 256) (w : World) (h : AtW w g mp m A c A2 c2 T F) (hm : TKnow T mp a s w) (hs0 : s ≠ 0) :
    Calls Tryz.prog 65 #[.pointer (some ⟨g, 0, none⟩), .agg #[.int .i64 (a : Int), .int .i64 (s : Int)]] w fun e w' => e = .returned (legV (rst T a (bl s))) ∧ Below w.heap.size w w' := by
  have hB := (below_box (w := w) #[.int .i64 (a : Int), .int .i64 (s : Int)] 153).alloc (below_box (w := w) #[.int .i64 (a : Int), .int .i64 (s : Int)] 153).size (.cells #[.int .i64 0, .int .i64 0] 155)
  have hT := (Blk.new w 153 #[.int .i64 (a : Int), .int .i64 (s : Int)]).alloc (.cells #[.int .i64 0, .int .i64 0] 155)
  have hL := Blk.new (w.alloc (.cells #[.int .i64 (a : Int), .int .i64 (s : Int)] 153)) 155 #[.int .i64 0, .int .i64 0]
  rw [World.size_alloc] at hL
  have ha8I : (a : Int) < 8 := by omega
  have HA := hid h
  have HS := hid (And.intro hB (And.intro hT hL))
  clear h hB hT hL
  have HM := hid hm
  obtain ⟨⟨bu, bv⟩, huv⟩ : ∃ p, rst T a (bl s) = p := ⟨_, rfl⟩
  have HE := hid huv
  clear hm huv
  have hsz : ((s : Int) == 0) = false := by simp; exact hs0
  go_enter Tryz.func65, Tryz.ntmps65
  go_upto_region 3 with (fail)
  refine gen (p := Code.wp _ _ _ _) (fun W => Below w.heap.size w W ∧ Blk W w.heap.size 153 #[.int .i64 (a : Int), .int .i64 (s : Int)] ∧ Blk W (w.heap.size + 1) 155 #[.int .i64 0, .int .i64 0]) HS.out ?_
  clear HS
  rintro W1 ⟨h1, h2, h3⟩
  have HG0 := hid (show PhK w a s bu bv { tmps := #[], defers := [] } (Array.replicate 12 false) W1.drew from ⟨h1.drew, h2.drew, h3.drew, fun hl => by rw [getD_replicate_false] at hl; cases hl⟩)
  clear h1 h2 h3
  refine (wpIn_wide (n := 0)).1 ?_
  refine wpIn_region_each2 11 (fun i v W' => match i with | 0 => v = .pointer (some ⟨g, 0, none⟩) | 1 => v = .pointer (some ⟨g, 0, none⟩) | 2 => v = .pointer (some ⟨g, 130, none⟩) | 3 => v = .map (some mp) | 4 => v = .agg #[.int .i64 (a : Int), .int .i64 (s : Int)] | 5 => v = .tuple #[.agg #[.int .i64 bu, .int .i64 bv], .bool true] | 6 => v = .tuple #[.agg #[.int .i64 bu, .int .i64 bv], .bool true] | 7 => v = .agg #[.int .i64 bu, .int .i64 bv] | 8 => v = .bool true | _ => True) (fun _ _ => True) (fun li a' W => PhK w a s bu bv a' li W) (by kernel_rfl) (by kernel_rfl) ?_ (fun _ _ => trivial) trivial ⟨HG0.out.bel, HG0.out.bs, HG0.out.bl, fun hl => by rw [getD_replicate_false] at hl; cases hl⟩ (by kernel_rfl) ?_ ?_
  · intro i v W1 W2 hb h; exact h
  · refine ⟨?_, ?_, ?_, ?_, ?_, ?_, ?_, ?_, ?_, ?_, ?_, trivial⟩
    · -- 0
      intro li a1 W2 hA K hK
      have e0 := hA.par 0 (by kernel_rfl)
      refine opStep none 0 rfl rfl (fun c hc => by cases hc) ?_
      go_simp
      exact hK _ _ rfl trivial (hA.ph.other (by decide) (by decide) (by decide))
    · -- 1
      intro li a1 W2 hA K hK
      have e24 : a1.tmps.getD 24 undef = .pointer (some ⟨g, 0, none⟩) := hA.val 0 24 (by kernel_rfl) (by kernel_rfl)
      refine opStep none 0 rfl rfl (fun c hc => by cases hc) ?_
      go_simp
      exact hK _ _ rfl trivial (hA.ph.other (by decide) (by decide) (by decide))
    · -- 2
      intro li a1 W2 hA K hK
      have e25 : a1.tmps.getD 25 undef = .pointer (some ⟨g, 0, none⟩) := hA.val 1 25 (by kernel_rfl) (by kernel_rfl)
      refine opStep none 0 rfl rfl (fun c hc => by cases hc) ?_
      go_simp
      exact hK _ _ rfl trivial (hA.ph.other (by decide) (by decide) (by decide))
    · -- 3
      intro li a1 W2 hA K hK
      have e26 : a1.tmps.getD 26 undef = .pointer (some ⟨g, 130, none⟩) := hA.val 2 26 (by kernel_rfl) (by kernel_rfl)
      obtain ⟨_, _, a4⟩ := (HA.out.keep hA.ph.bel).head
      obtain ⟨t0, t1⟩ := hA.ph.bs.c2
      refine opStep none 0 rfl rfl (fun c hc => by cases hc) ?_
      go_simp
      exact hK _ _ rfl trivial (hA.ph.other (by decide) (by decide) (by decide))
    · -- 4
      intro li a1 W2 hA K hK
      have e3 := hA.par 3 (by kernel_rfl)
      obtain ⟨_, _, a4⟩ := (HA.out.keep hA.ph.bel).head
      obtain ⟨t0, t1⟩ := hA.ph.bs.c2
      refine opStep none 0 rfl rfl (fun c hc => by cases hc) ?_
      go_simp
      exact hK _ _ rfl trivial (hA.ph.other (by decide) (by decide) (by decide))
    · -- 5
      intro li a1 W2 hA K hK
      have e27 : a1.tmps.getD 27 undef = .map (some mp) := hA.val 3 27 (by kernel_rfl) (by kernel_rfl)
      have e28 : a1.tmps.getD 28 undef = .agg #[.int .i64 (a : Int), .int .i64 (s : Int)] := hA.val 4 28 (by kernel_rfl) (by kernel_rfl)
      have hl := (HM.out.keep hA.ph.bel).look ha hs
      rw [HE.out] at hl
      unfold legV at hl
      dsimp only at hl
      refine opValue (v := .tuple #[.agg #[.int .i64 bu, .int .i64 bv], .bool true]) none 0 rfl rfl (fun c hc => by cases hc) (W' := W2) (by simp [execOp, Act.eval, e27, e28, hl, Result.andThen]) ?_
      exact hK _ _ rfl trivial (hA.ph.other (by decide) (by decide) (by decide))
    · -- 6
      intro li a1 W2 hA K hK
      have e29 : a1.tmps.getD 29 undef = .tuple #[.agg #[.int .i64 bu, .int .i64 bv], .bool true] := hA.val 5 29 (by kernel_rfl) (by kernel_rfl)
      refine opStep none 0 rfl rfl (fun c hc => by cases hc) ?_
      go_simp
      exact hK _ _ rfl trivial (hA.ph.other (by decide) (by decide) (by decide))
    · -- 7
      intro li a1 W2 hA K hK
      have e23 : a1.tmps.getD 23 undef = .tuple #[.agg #[.int .i64 bu, .int .i64 bv], .bool true] := hA.val 6 23 (by kernel_rfl) (by kernel_rfl)
      refine opStep none 0 rfl rfl (fun c hc => by cases hc) ?_
      go_simp
      exact hK _ _ rfl trivial (hA.ph.other (by decide) (by decide) (by decide))
    · -- 8
      intro li a1 W2 hA K hK
      have e23 : a1.tmps.getD 23 undef = .tuple #[.agg #[.int .i64 bu, .int .i64 bv], .bool true] := hA.val 6 23 (by kernel_rfl) (by kernel_rfl)
      refine opStep none 0 rfl rfl (fun c hc => by cases hc) ?_
      go_simp
      exact hK _ _ rfl trivial (hA.ph.other (by decide) (by decide) (by decide))
    · -- 9
      intro li a1 W2 hA K hK
      have hnl : li.getD 10 false = false := by
        cases hl' : li.getD 10 false
        · rfl
        · have := hA.past hl' 9 (by kernel_rfl); rw [hA.new] at this; cases this
      refine opStep none 0 rfl rfl (fun c hc => by cases hc) ?_
      go_simp
      exact hK _ _ trivial trivial (hA.ph.new (by rw [hA.size]; show 5 < 78; decide) hnl)
    · -- 10
      intro li a1 W2 hA K hK
      have e30 : a1.tmps.getD 30 undef = .agg #[.int .i64 bu, .int .i64 bv] := hA.val 7 30 (by kernel_rfl) (by kernel_rfl)
      obtain ⟨_, _, a4⟩ := (HA.out.keep hA.ph.bel).head
      obtain ⟨t0, t1⟩ := hA.ph.bs.c2
      obtain ⟨z, e5, hz, hbz⟩ := hA.ph.al (hA.has 9 (by kernel_rfl))
      rw [hA.new, if_neg (by decide)] at hbz
      obtain ⟨q0, q1⟩ := hbz.c2
      have f0 := hbz.frozen 0
      have f1 := hbz.frozen 1
      have zl := hbz.lt
      refine opStep none 0 rfl rfl (fun c hc => by cases hc) ?_
      go_simp
      exact hK undef _ trivial trivial (hA.ph.sto e5 hz hbz (by rw [hA.lsize]; decide))
  intro li a1 W2 hD
  obtain ⟨z, e5, hz, hbz⟩ := hD.ph.al (hD.all 9 (by decide))
  rw [hD.all 10 (by decide), if_pos rfl] at hbz
  have e31 : a1.tmps.getD 31 undef = .bool true := hD.val 8 31 (by kernel_rfl) (by kernel_rfl)
  have hsz : a1.tmps.size = 78 := hD.size
  have hkp2 := hD.keeps (ds := [24, 25, 26, 27, 28, 29, 23, 30, 31, 5, 6]) (by kernel_rfl)
  refine tail_val (i := 11) (v := .bool true) (W' := W2) none 0 rfl rfl rfl (fun c hc => by cases hc) (by go_simp) (by rw [hsz]; decide) ?_
  intro a3 s3 d3 f3 o3
  have hkp3 := keeps_then hkp2 o3 (by decide)
  have e := act_mix [24, 25, 26, 27, 28, 29, 23, 30, 31, 5, 6] (s3.trans hD.size) (d3.trans hD.defers) (fun i _ hc => hkp3 i hc)
  have f6 : (fun i => a3.tmps.getD i undef) 6 = .bool true := f3
  have f5 : (fun i => a3.tmps.getD i undef) 5 = .pointer (some ⟨z, 0, none⟩) := (o3 5 (by decide)).trans e5
  generalize (fun i => a3.tmps.getD i undef) = g' at e f5 f6
  refine wpListIn_nil ?_
  rw [e]
  have HP := hid (And.intro hD.ph.bel (And.intro hD.ph.bs (And.intro hD.ph.bl (And.intro hz hbz))))
  clear e hD hkp2 hkp3 s3 d3 f3 o3 e5 e31 hsz hz hbz
  simp only [mix, List.contains_cons, List.contains_nil, Nat.reduceAdd, Nat.reduceBEq, Bool.or_false, Bool.or_true, cond_true, cond_false, f5, f6]
  clear f5 f6
  obtain ⟨q0, q1⟩ := HP.out.2.2.2.2.c2
  obtain ⟨l0, l1⟩ := HP.out.2.2.1.c2
  have lf0 := HP.out.2.2.1.frozen 0
  have lf1 := HP.out.2.2.1.frozen 1
  have ll := HP.out.2.2.1.lt
  go_wp2
  have HX := hid (show Blk ((W2.setCell ⟨w.heap.size + 1, 0, none⟩ (.int .i64 bu)).setCell ⟨w.heap.size + 1, 1, none⟩ (.int .i64 bv)) (w.heap.size + 1) 155 #[.int .i64 bu, .int .i64 bv] ∧ Below w.heap.size w ((W2.setCell ⟨w.heap.size + 1, 0, none⟩ (.int .i64 bu)).setCell ⟨w.heap.size + 1, 1, none⟩ (.int .i64 bv)) from ⟨(HP.out.2.2.1.set_ 0 _).set_ 1 _, (HP.out.1.setCell (p := ⟨w.heap.size + 1, 0, none⟩) (by show w.heap.size ≤ w.heap.size + 1; omega) _).setCell (p := ⟨w.heap.size + 1, 1, none⟩) (by show w.heap.size ≤ w.heap.size + 1; omega) _⟩)
  clear HP q0 q1 l0 l1 lf0 lf1 ll
  generalize ((W2.setCell ⟨w.heap.size + 1, 0, none⟩ (.int .i64 bu)).setCell ⟨w.heap.size + 1, 1, none⟩ (.int .i64 bv)) = W3 at *
  obtain ⟨l0, l1⟩ := HX.out.1.c2
  exact bodyPost_ret (v := .agg #[.int .i64 bu, .int .i64 bv]) (by simp [results, Tryz.results65, go_sem, l0, l1]) rfl ⟨by rw [HE.out]; rfl, HX.out.2⟩

/-- where rest stands in its loop -/
structure PhR (w : World) (g mp : Nat) (m : WMD) (A : Option Addr) (c : Nat) (A2 : Option Addr) (c2 : Nat) (T F : Nat → Nat → Int) (a s y : Nat) (W4 : World) (b1 b2 : Int) (W : World) : Prop where
  at_ : AtW W g mp m A c A2 c2 T F
  tm : TMem T mp W
  bs : Blk W w.heap.size 153 #[.int .i64 (a : Int), .int .i64 (s : Int)]
  bl : Blk W (w.heap.size + 1) 155 #[.int .i64 0, .int .i64 0]
  by_ : Blk W y 155 #[.int .i64 b1, .int .i64 b2]
  ch : MChg (fun q => q = mp ∨ q = y) W4 W
  n1 : mp < w.heap.size ∧ g < w.heap.size ∧ g ≠ mp ∧ w.heap.size + 2 ≤ y
section
variable {w : World} {g mp : Nat} {m : WMD} {A A2 : Option Addr} {c c2 : Nat} {T F : Nat → Nat → Int} {a s y : Nat} {W4 W W' : World} {b1 b2 : Int}
theorem PhR.chg (h : PhR w g mp m A c A2 c2 T F a s y W4 b1 b2 W) (hc : MChg (fun q => q = mp) W W') (ht : TMem T mp W') : PhR w g mp m A c A2 c2 T F a s y W4 b1 b2 W' := by
  obtain ⟨n1, n2, n3, n4⟩ := h.n1
  exact ⟨h.at_.chg hc n3, ht, hc.blk h.bs (fun e => by omega), hc.blk h.bl (fun e => by omega), hc.blk h.by_ (fun e => by omega), h.ch.trans (hc.sub fun q e => .inl e), h.n1⟩
theorem PhR.keep (h : PhR w g mp m A c A2 c2 T F a s y W4 b1 b2 W) (hb : Below W.heap.size W W') : PhR w g mp m A c A2 c2 T F a s y W4 b1 b2 W' := h.chg (MChg.of_below hb) (h.tm.keep hb)
theorem PhR.sto (h : PhR w g mp m A c A2 c2 T F a s y W4 b1 b2 W) (u v : Int) : PhR w g mp m A c A2 c2 T F a s y W4 u v ((W.setCell ⟨y, 0, none⟩ (.int .i64 u)).setCell ⟨y, 1, none⟩ (.int .i64 v)) := by
  obtain ⟨n1, n2, n3, n4⟩ := h.n1
  exact ⟨(h.at_.far (p := ⟨y, 0, none⟩) (by show g ≠ y; omega) _).far (p := ⟨y, 1, none⟩) (by show g ≠ y; omega) _, (h.tm.far (p := ⟨y, 0, none⟩) (by show y ≠ mp; omega) _).far (p := ⟨y, 1, none⟩) (by show y ≠ mp; omega) _, (h.bs.far (p := ⟨y, 0, none⟩) (by show w.heap.size ≠ y; omega) _).far (p := ⟨y, 1, none⟩) (by show w.heap.size ≠ y; omega) _, (h.bl.far (p := ⟨y, 0, none⟩) (by show w.heap.size + 1 ≠ y; omega) _).far (p := ⟨y, 1, none⟩) (by show w.heap.size + 1 ≠ y; omega) _, (h.by_.set_ 0 _).set_ 1 _, (h.ch.set (.inr rfl) _).set (.inr rfl) _, h.n1⟩
end
theorem pow_fact : ∀ o : Nat, o < 8 → IntKind.i64.wrap (2 ^ o) = 2 ^ o := by decide +kernel

set_option maxRecDepth 100000 in
set_option maxHeartbeats 4000000 in
theorem wrestg_miss {g mp : Nat} {m : WMD} {A A2 : Option Addr} {c c2 : Nat} {T F : Nat → Nat → Int} (a s : Nat) (ha : a < 8) (hs : s < 256) (w : World) (h : AtW w g mp m A c A2 c2 T F) (hm : TMem T mp w) (hn : TNot mp a s w) (hs0 : s ≠ 0) (hg : g ≠ mp) {B : Nat} (hBp : 0 < B) (haB : a < B) (hsB : ∀ n ∈ bl s, n < B) (hT : ∀ x y, x < B → y < B → 0 ≤ T x y ∧ T x y ≤ farI) (ih : ∀ o, o ∈ bl s → ∀ W, AtW W g mp m A c A2 c2 T F → TMem T mp W → Calls Tryz.prog 65 #[.pointer (some ⟨g, 0, none⟩), .agg #[.int .i64 (o : Int), .int .i64 (rmv s o : Int)]] W fun e W' => e = .returned (legV (rst T o (bl (rmv s o)))) ∧ MChg (fun q => q = mp) W W' ∧ TMem T mp W') :
    Calls Tryz.prog 65 #[.pointer (some ⟨g, 0, none⟩), .agg #[.int .i64 (a : Int), .int .i64 (s : Int)]] w fun e w' => e = .returned (legV (rst T a (bl s))) ∧ MChg (fun q => q = mp) w w' ∧ TMem T mp w' := by
  have hB := (below_box (w := w) #[.int .i64 (a : Int), .int .i64 (s : Int)] 153).alloc (below_box (w := w) #[.int .i64 (a : Int), .int .i64 (s : Int)] 153).size (.cells #[.int .i64 0, .int .i64 0] 155)
  have hT := (Blk.new w 153 #[.int .i64 (a : Int), .int .i64 (s : Int)]).alloc (.cells #[.int .i64 0, .int .i64 0] 155)
  have hL := Blk.new (w.alloc (.cells #[.int .i64 (a : Int), .int .i64 (s : Int)] 153)) 155 #[.int .i64 0, .int .i64 0]
  rw [World.size_alloc] at hL
  have ha8I : (a : Int) < 8 := by omega
  have HA := hid h
  have HS := hid (And.intro hB (And.intro hT hL))
  clear h hB hT hL
  have HM := hid hm
  have HNT := hid hn
  have HIH := hid ih
  have HGL := hid (And.intro hm.lt (And.intro HA.out.lt hg))
  obtain ⟨L, hL⟩ : ∃ L, (bl s).length = L := ⟨_, rfl⟩
  have hL8 : L ≤ 8 := by rw [← hL]; exact bl_len s
  have HLL := hid hL
  have HNE := hid (bl_ne s hs hs0)
  clear hm hn ih hg hL
  have hsz : ((s : Int) == 0) = false := by simp; exact hs0
  go_enter Tryz.func65, Tryz.ntmps65
  go_upto_region 3 with (fail)
  refine gen (p := Code.wp _ _ _ _) (fun W => Below w.heap.size w W ∧ Blk W w.heap.size 153 #[.int .i64 (a : Int), .int .i64 (s : Int)] ∧ Blk W (w.heap.size + 1) 155 #[.int .i64 0, .int .i64 0]) HS.out ?_
  clear HS
  rintro W1 ⟨h1, h2, h3⟩
  have HG0 := hid (show PhK w a s 0 0 { tmps := #[], defers := [] } (Array.replicate 12 false) W1.drew from ⟨h1.drew, h2.drew, h3.drew, fun hl => by rw [getD_replicate_false] at hl; cases hl⟩)
  clear h1 h2 h3
  refine (wpIn_wide (n := 0)).1 ?_
  refine wpIn_region_each2 11 (fun i v W' => match i with | 0 => v = .pointer (some ⟨g, 0, none⟩) | 1 => v = .pointer (some ⟨g, 0, none⟩) | 2 => v = .pointer (some ⟨g, 130, none⟩) | 3 => v = .map (some mp) | 4 => v = .agg #[.int .i64 (a : Int), .int .i64 (s : Int)] | 5 => v = .tuple #[.agg #[.int .i64 0, .int .i64 0], .bool false] | 6 => v = .tuple #[.agg #[.int .i64 0, .int .i64 0], .bool false] | 7 => v = .agg #[.int .i64 0, .int .i64 0] | 8 => v = .bool false | _ => True) (fun _ _ => True) (fun li a' W => PhK w a s 0 0 a' li W) (by kernel_rfl) (by kernel_rfl) ?_ (fun _ _ => trivial) trivial ⟨HG0.out.bel, HG0.out.bs, HG0.out.bl, fun hl => by rw [getD_replicate_false] at hl; cases hl⟩ (by kernel_rfl) ?_ ?_
  · intro i v W1 W2 hb h; exact h
  · refine ⟨?_, ?_, ?_, ?_, ?_, ?_, ?_, ?_, ?_, ?_, ?_, trivial⟩
    · -- 0
      intro li a1 W2 hA K hK
      have e0 := hA.par 0 (by kernel_rfl)
      refine opStep none 0 rfl rfl (fun c hc => by cases hc) ?_
      go_simp
      exact hK _ _ rfl trivial (hA.ph.other (by decide) (by decide) (by decide))
    · -- 1
      intro li a1 W2 hA K hK
      have e24 : a1.tmps.getD 24 undef = .pointer (some ⟨g, 0, none⟩) := hA.val 0 24 (by kernel_rfl) (by kernel_rfl)
      refine opStep none 0 rfl rfl (fun c hc => by cases hc) ?_
      go_simp
      exact hK _ _ rfl trivial (hA.ph.other (by decide) (by decide) (by decide))
    · -- 2
      intro li a1 W2 hA K hK
      have e25 : a1.tmps.getD 25 undef = .pointer (some ⟨g, 0, none⟩) := hA.val 1 25 (by kernel_rfl) (by kernel_rfl)
      refine opStep none 0 rfl rfl (fun c hc => by cases hc) ?_
      go_simp
      exact hK _ _ rfl trivial (hA.ph.other (by decide) (by decide) (by decide))
    · -- 3
      intro li a1 W2 hA K hK
      have e26 : a1.tmps.getD 26 undef = .pointer (some ⟨g, 130, none⟩) := hA.val 2 26 (by kernel_rfl) (by kernel_rfl)
      obtain ⟨_, _, a4⟩ := (HA.out.keep hA.ph.bel).head
      obtain ⟨t0, t1⟩ := hA.ph.bs.c2
      refine opStep none 0 rfl rfl (fun c hc => by cases hc) ?_
      go_simp
      exact hK _ _ rfl trivial (hA.ph.other (by decide) (by decide) (by decide))
    · -- 4
      intro li a1 W2 hA K hK
      have e3 := hA.par 3 (by kernel_rfl)
      obtain ⟨_, _, a4⟩ := (HA.out.keep hA.ph.bel).head
      obtain ⟨t0, t1⟩ := hA.ph.bs.c2
      refine opStep none 0 rfl rfl (fun c hc => by cases hc) ?_
      go_simp
      exact hK _ _ rfl trivial (hA.ph.other (by decide) (by decide) (by decide))
    · -- 5
      intro li a1 W2 hA K hK
      have e27 : a1.tmps.getD 27 undef = .map (some mp) := hA.val 3 27 (by kernel_rfl) (by kernel_rfl)
      have e28 : a1.tmps.getD 28 undef = .agg #[.int .i64 (a : Int), .int .i64 (s : Int)] := hA.val 4 28 (by kernel_rfl) (by kernel_rfl)
      have hl := (HNT.out.keep hA.ph.bel).look ha hs
      refine opValue (v := .tuple #[.agg #[.int .i64 0, .int .i64 0], .bool false]) none 0 rfl rfl (fun c hc => by cases hc) (W' := W2) (by simp [execOp, Act.eval, e27, e28, hl, Result.andThen]) ?_
      exact hK _ _ rfl trivial (hA.ph.other (by decide) (by decide) (by decide))
    · -- 6
      intro li a1 W2 hA K hK
      have e29 : a1.tmps.getD 29 undef = .tuple #[.agg #[.int .i64 0, .int .i64 0], .bool false] := hA.val 5 29 (by kernel_rfl) (by kernel_rfl)
      refine opStep none 0 rfl rfl (fun c hc => by cases hc) ?_
      go_simp
      exact hK _ _ rfl trivial (hA.ph.other (by decide) (by decide) (by decide))
    · -- 7
      intro li a1 W2 hA K hK
      have e23 : a1.tmps.getD 23 undef = .tuple #[.agg #[.int .i64 0, .int .i64 0], .bool false] := hA.val 6 23 (by kernel_rfl) (by kernel_rfl)
      refine opStep none 0 rfl rfl (fun c hc => by cases hc) ?_
      go_simp
      exact hK _ _ rfl trivial (hA.ph.other (by decide) (by decide) (by decide))
    · -- 8
      intro li a1 W2 hA K hK
      have e23 : a1.tmps.getD 23 undef = .tuple #[.agg #[.int .i64 0, .int .i64 0], .bool false] := hA.val 6 23 (by kernel_rfl) (by kernel_rfl)
      refine opStep none 0 rfl rfl (fun c hc => by cases hc) ?_
      go_simp
      exact hK _ _ rfl trivial (hA.ph.other (by decide) (by decide) (by decide))
    · -- 9
      intro li a1 W2 hA K hK
      have hnl : li.getD 10 false = false := by
        cases hl' : li.getD 10 false
        · rfl
        · have := hA.past hl' 9 (by kernel_rfl); rw [hA.new] at this; cases this
      refine opStep none 0 rfl rfl (fun c hc => by cases hc) ?_
      go_simp
      exact hK _ _ trivial trivial (hA.ph.new (by rw [hA.size]; show 5 < 78; decide) hnl)
    · -- 10
      intro li a1 W2 hA K hK
      have e30 : a1.tmps.getD 30 undef = .agg #[.int .i64 0, .int .i64 0] := hA.val 7 30 (by kernel_rfl) (by kernel_rfl)
      obtain ⟨_, _, a4⟩ := (HA.out.keep hA.ph.bel).head
      obtain ⟨t0, t1⟩ := hA.ph.bs.c2
      obtain ⟨z, e5, hz, hbz⟩ := hA.ph.al (hA.has 9 (by kernel_rfl))
      rw [hA.new, if_neg (by decide)] at hbz
      obtain ⟨q0, q1⟩ := hbz.c2
      have f0 := hbz.frozen 0
      have f1 := hbz.frozen 1
      have zl := hbz.lt
      refine opStep none 0 rfl rfl (fun c hc => by cases hc) ?_
      go_simp
      exact hK undef _ trivial trivial (hA.ph.sto e5 hz hbz (by rw [hA.lsize]; decide))
  intro li a1 W2 hD
  obtain ⟨z, e5, hz, hbz⟩ := hD.ph.al (hD.all 9 (by decide))
  rw [hD.all 10 (by decide), if_pos rfl] at hbz
  have e31 : a1.tmps.getD 31 undef = .bool false := hD.val 8 31 (by kernel_rfl) (by kernel_rfl)
  have hsz : a1.tmps.size = 78 := hD.size
  have hkp2 := hD.keeps (ds := [24, 25, 26, 27, 28, 29, 23, 30, 31, 5, 6]) (by kernel_rfl)
  refine tail_val (i := 11) (v := .bool false) (W' := W2) none 0 rfl rfl rfl (fun c hc => by cases hc) (by go_simp) (by rw [hsz]; decide) ?_
  intro a3 s3 d3 f3 o3
  have hkp3 := keeps_then hkp2 o3 (by decide)
  have e := act_mix [24, 25, 26, 27, 28, 29, 23, 30, 31, 5, 6] (s3.trans hD.size) (d3.trans hD.defers) (fun i _ hc => hkp3 i hc)
  have f6 : (fun i => a3.tmps.getD i undef) 6 = .bool false := f3
  have f5 : (fun i => a3.tmps.getD i undef) 5 = .pointer (some ⟨z, 0, none⟩) := (o3 5 (by decide)).trans e5
  generalize (fun i => a3.tmps.getD i undef) = g' at e f5 f6
  refine wpListIn_nil ?_
  rw [e]
  have HP := hid (And.intro hD.ph.bel (And.intro hD.ph.bs (And.intro hD.ph.bl (And.intro hz hbz))))
  clear e hD hkp2 hkp3 s3 d3 f3 o3 e5 e31 hsz hz hbz
  simp only [mix, List.contains_cons, List.contains_nil, Nat.reduceAdd, Nat.reduceBEq, Bool.or_false, Bool.or_true, cond_true, cond_false, f5, f6]
  clear f5 f6
  obtain ⟨t0, t1⟩ := HP.out.2.1.c2
  go_upto_region 7 with (fail)
  obtain ⟨y, hy⟩ : ∃ y, W2.heap.size = y := ⟨_, rfl⟩
  refine gen (p := Code.wp _ _ _ _) (fun W => Below w.heap.size w W ∧ Blk W w.heap.size 153 #[.int .i64 (a : Int), .int .i64 (s : Int)] ∧ Blk W (w.heap.size + 1) 155 #[.int .i64 0, .int .i64 0] ∧ Blk W y 155 #[.int .i64 1048576, .int .i64 (-1)]) ⟨HP.out.1.alloc HP.out.1.size _, HP.out.2.1.alloc _, HP.out.2.2.1.alloc _, by rw [← hy]; exact Blk.new _ _ _⟩ ?_
  have hyw : w.heap.size + 2 ≤ y := by have := HP.out.2.2.1.lt; omega
  simp only [hy]
  clear t0 t1 HP hy
  rintro W3 h3
  have H3 := hid h3
  obtain ⟨t0, t1⟩ := h3.2.1.c2
  clear h3
  have KL := wlist_set s hs W3
  unfold GivesInts at KL
  rw [List.length_map, HLL.out] at KL
  have KL := hid KL
  go_wp2_with fail
  refine KL.out.mono ?_
  rintro e W4 ⟨A4, c4, rfl, h1, h2, h3, h4, h5, hb⟩
  obtain ⟨a4, ea4⟩ : ∃ q, A4 = some q := by
    obtain ⟨q, e, _⟩ := h3 0 _ (List.getElem?_eq_getElem (by rw [List.length_map]; have := HNE.out; cases hbl : bl s with | nil => exact absurd hbl this | cons => simp))
    exact ⟨q, e⟩
  subst ea4
  have hPR : PhR w g mp m A c A2 c2 T F a s y W4 (rstTo T a (bl s) []).1 (rstTo T a (bl s) []).2 W4 := ⟨(HA.out.keep H3.out.1).keep hb, (HM.out.keep H3.out.1).keep hb, H3.out.2.1.keep hb, H3.out.2.2.1.keep hb, H3.out.2.2.2.keep hb, MChg.refl, HGL.out.1, HGL.out.2.1, HGL.out.2.2, hyw⟩
  have HPR := hid hPR
  have HW4 := hid (H3.out.1.trans (hb.mono H3.out.1.size))
  obtain ⟨cs4, hcs4⟩ := (h4 a4 rfl).2
  have HLI := hid (show ∀ (k o : Nat), (bl s)[k]? = some o → ∀ W, MChg (fun q => q = mp ∨ q = y) W4 W → W.cell? (a4.add k) = some (.int .i64 (o : Int)) from fun k o hk W hW => by
    obtain ⟨q, e, _, hc⟩ := h3 k (o : Int) (by rw [List.getElem?_map, hk]; rfl)
    cases e
    refine hW.keep.cell hc ?_
    rw [block_of_add]
    rintro (e | e)
    · obtain ⟨es, ck, hes, _⟩ := hPR.tm
      rw [← e, show W4.heap[a4.block]? = _ from hcs4] at hes
      cases hes
    · rw [e] at hcs4
      exact Blk.ne_ hcs4 hPR.by_ (by decide) rfl)
  unfold maxLen at h2
  clear t0 t1 H3 hb h3 h4 h5 hcs4 hPR KL HA HM HNT
  go_wp2
  go_loopw [39] (fun i W => ∃ k : Nat, k ≤ L ∧ i = .int .i64 k ∧ PhR w g mp m A c A2 c2 T F a s y W4 (rstTo T a (bl s) ((bl s).take k)).1 (rstTo T a (bl s) ((bl s).take k)).2 W) (fun i _ => L - (intOf i).toNat)
  case atStart => exact ⟨0, Nat.zero_le _, rfl, by rw [List.take_zero]; exact HPR.out⟩
  case round =>
    clear HPR
    obtain ⟨k, hk, rfl, hPR⟩ := hrel
    have HPR := hid hPR
    clear hPR
    obtain ⟨⟨b1, b2⟩, hb12⟩ : ∃ p, rstTo T a (bl s) ((bl s).take k) = p := ⟨_, rfl⟩
    rw [hb12] at HPR
    have HB12 := hid hb12
    clear hb12
    by_cases hlk : k < L
    · have hkI : (k : Int) < (L : Int) := by omega
      obtain ⟨o, ho⟩ : ∃ o, (bl s)[k]? = some o := ⟨_, List.getElem?_eq_getElem (by rw [HLL.out]; exact hlk)⟩
      have HO := hid (List.mem_of_getElem? ho)
      have ho8 := (bl_mem.1 HO.out).1
      have ho8I : (o : Int) < 8 := by omega
      obtain ⟨hrm, hr256, _⟩ := rmv_fact s hs o ho8
      obtain ⟨⟨r1, r2⟩, hr12⟩ : ∃ p, rst T o (bl (rmv s o)) = p := ⟨_, rfl⟩
      have hrb := rst_bound hBp hT _ (bl (rmv s o)) rfl (bl_nodup _) (fun n hn => hsB n (by rw [bl_rmv hs ho8] at hn; exact (List.mem_filter.1 hn).1)) o (hsB o HO.out)
      rw [hr12] at hrb
      have hTb := hT a o haB (hsB o HO.out)
      unfold farI at hrb hTb
      have hneg : decide ((o : Int) < 0) = false := by simp
      have hmin : min o 64 = o := by omega
      have hpw := pow_fact o ho8
      have hwr : IntKind.i64.wrap (T a o + r1) = T a o + r1 := IntWalk.i64_in _ (by simp only at hrb; omega)
      have HE := hid hr12
      have HST := hid (show rstTo T a (bl s) ((bl s).take (k + 1)) = if T a o + r1 < b1 then (T a o + r1, (o : Int)) else (b1, b2) by
        obtain ⟨h9, e9⟩ := List.getElem?_eq_some_iff.1 ho
        rw [List.take_succ_eq_append_getElem h9, rstTo_snoc, HB12.out, e9, ← bl_rmv hs ho8, HE.out])
      have c4' := HLI.out k o ho _ HPR.out.ch
      clear ho hr12 hrb
      go_upto_region 10 with (fail)
      clear c4'
      refine (wpIn_wide (n := 0)).1 ?_
      refine wpIn_region_each2 20 (fun i v W' => match i with | 0 => v = .pointer (some ⟨g, 0, none⟩) | 1 => v = .pointer (some ⟨w.heap.size, 0, none⟩) | 2 => v = .int .i64 (a : Int) | 3 => v = .int .i64 (o : Int) | 4 => v = .pointer (some ⟨g, 0, none⟩) | 5 => v = .pointer (some ⟨g, 2, none⟩) | 6 => v = .pointer (some ⟨g, 2 + a * 8, none⟩) | 7 => v = .pointer (some ⟨g, 2 + a * 8 + o, none⟩) | 8 => v = .int .i64 (T a o) | 9 => v = .pointer (some ⟨g, 0, none⟩) | 10 => v = .int .i64 (o : Int) | 11 => v = .pointer (some ⟨w.heap.size, 1, none⟩) | 12 => v = .int .i64 (s : Int) | 13 => v = .int .i64 (o : Int) | 14 => v = .int .i64 (2 ^ o) | 15 => v = .int .i64 (rmv s o : Int) | 16 => v = .agg #[.int .i64 (o : Int), .int .i64 (rmv s o : Int)] | 17 => v = .agg #[.int .i64 r1, .int .i64 r2] | 18 => v = .int .i64 r1 | 19 => v = .int .i64 (T a o + r1) | _ => True) (fun _ _ => True) (fun _ _ W => PhR w g mp m A c A2 c2 T F a s y W4 b1 b2 W) (by kernel_rfl) (by kernel_rfl) ?_ (fun _ _ => trivial) trivial (HPR.out.keep ⟨rfl, rfl, rfl, Nat.le_refl _, fun _ _ => rfl⟩) (by kernel_rfl) ?_ ?_
      · intro i v W1 W2 hb h; exact h
      · refine ⟨?_, ?_, ?_, ?_, ?_, ?_, ?_, ?_, ?_, ?_, ?_, ?_, ?_, ?_, ?_, ?_, ?_, ?_, ?_, ?_, trivial⟩
        · -- 0
          intro li a1 W2 hA K hK
          have e0 := hA.par 0 (by kernel_rfl)
          refine opStep none 0 rfl rfl (fun c hc => by cases hc) ?_
          go_simp
          exact hK _ _ rfl trivial (hA.ph)
        · -- 1
          intro li a1 W2 hA K hK
          have e3 := hA.par 3 (by kernel_rfl)
          refine opStep none 0 rfl rfl (fun c hc => by cases hc) ?_
          go_simp
          exact hK _ _ rfl trivial (hA.ph)
        · -- 2
          intro li a1 W2 hA K hK
          have e44 : a1.tmps.getD 44 undef = .pointer (some ⟨w.heap.size, 0, none⟩) := hA.val 1 44 (by kernel_rfl) (by kernel_rfl)
          have a2 := hA.ph.at_.time ha ho8
          have al := hA.ph.at_.lt
          obtain ⟨t0, t1⟩ := hA.ph.bs.c2
          refine opStep none 0 rfl rfl (fun c hc => by cases hc) ?_
          go_simp
          exact hK _ _ rfl trivial (hA.ph)
        · -- 3
          intro li a1 W2 hA K hK
          have e9 := hA.par 9 (by kernel_rfl)
          refine opStep none 0 rfl rfl (fun c hc => by cases hc) ?_
          go_simp
          exact hK _ _ rfl trivial (hA.ph)
        · -- 4
          intro li a1 W2 hA K hK
          have e43 : a1.tmps.getD 43 undef = .pointer (some ⟨g, 0, none⟩) := hA.val 0 43 (by kernel_rfl) (by kernel_rfl)
          refine opStep none 0 rfl rfl (fun c hc => by cases hc) ?_
          go_simp
          exact hK _ _ rfl trivial (hA.ph)
        · -- 5
          intro li a1 W2 hA K hK
          have e47 : a1.tmps.getD 47 undef = .pointer (some ⟨g, 0, none⟩) := hA.val 4 47 (by kernel_rfl) (by kernel_rfl)
          refine opStep none 0 rfl rfl (fun c hc => by cases hc) ?_
          go_simp
          exact hK _ _ rfl trivial (hA.ph)
        · -- 6
          intro li a1 W2 hA K hK
          have e48 : a1.tmps.getD 48 undef = .pointer (some ⟨g, 2, none⟩) := hA.val 5 48 (by kernel_rfl) (by kernel_rfl)
          have e45 : a1.tmps.getD 45 undef = .int .i64 (a : Int) := hA.val 2 45 (by kernel_rfl) (by kernel_rfl)
          refine opStep none 0 rfl rfl (fun c hc => by cases hc) ?_
          go_simp
          exact hK _ _ rfl trivial (hA.ph)
        · -- 7
          intro li a1 W2 hA K hK
          have e49 : a1.tmps.getD 49 undef = .pointer (some ⟨g, 2 + a * 8, none⟩) := hA.val 6 49 (by kernel_rfl) (by kernel_rfl)
          have e46 : a1.tmps.getD 46 undef = .int .i64 (o : Int) := hA.val 3 46 (by kernel_rfl) (by kernel_rfl)
          refine opStep none 0 rfl rfl (fun c hc => by cases hc) ?_
          go_simp
          exact hK _ _ rfl trivial (hA.ph)
        · -- 8
          intro li a1 W2 hA K hK
          have e50 : a1.tmps.getD 50 undef = .pointer (some ⟨g, 2 + a * 8 + o, none⟩) := hA.val 7 50 (by kernel_rfl) (by kernel_rfl)
          have a2 := hA.ph.at_.time ha ho8
          have al := hA.ph.at_.lt
          obtain ⟨t0, t1⟩ := hA.ph.bs.c2
          refine opStep none 0 rfl rfl (fun c hc => by cases hc) ?_
          go_simp
          exact hK _ _ rfl trivial (hA.ph)
        · -- 9
          intro li a1 W2 hA K hK
          have e0 := hA.par 0 (by kernel_rfl)
          refine opStep none 0 rfl rfl (fun c hc => by cases hc) ?_
          go_simp
          exact hK _ _ rfl trivial (hA.ph)
        · -- 10
          intro li a1 W2 hA K hK
          have e9 := hA.par 9 (by kernel_rfl)
          refine opStep none 0 rfl rfl (fun c hc => by cases hc) ?_
          go_simp
          exact hK _ _ rfl trivial (hA.ph)
        · -- 11
          intro li a1 W2 hA K hK
          have e3 := hA.par 3 (by kernel_rfl)
          refine opStep none 0 rfl rfl (fun c hc => by cases hc) ?_
          go_simp
          exact hK _ _ rfl trivial (hA.ph)
        · -- 12
          intro li a1 W2 hA K hK
          have e54 : a1.tmps.getD 54 undef = .pointer (some ⟨w.heap.size, 1, none⟩) := hA.val 11 54 (by kernel_rfl) (by kernel_rfl)
          have a2 := hA.ph.at_.time ha ho8
          have al := hA.ph.at_.lt
          obtain ⟨t0, t1⟩ := hA.ph.bs.c2
          refine opStep none 0 rfl rfl (fun c hc => by cases hc) ?_
          go_simp
          exact hK _ _ rfl trivial (hA.ph)
        · -- 13
          intro li a1 W2 hA K hK
          have e9 := hA.par 9 (by kernel_rfl)
          refine opStep none 0 rfl rfl (fun c hc => by cases hc) ?_
          go_simp
          exact hK _ _ rfl trivial (hA.ph)
        · -- 14
          intro li a1 W2 hA K hK
          have e56 : a1.tmps.getD 56 undef = .int .i64 (o : Int) := hA.val 13 56 (by kernel_rfl) (by kernel_rfl)
          refine opStep none 0 rfl rfl (fun c hc => by cases hc) ?_
          go_simp
          exact hK _ _ rfl trivial (hA.ph)
        · -- 15
          intro li a1 W2 hA K hK
          have e55 : a1.tmps.getD 55 undef = .int .i64 (s : Int) := hA.val 12 55 (by kernel_rfl) (by kernel_rfl)
          have e57 : a1.tmps.getD 57 undef = .int .i64 (2 ^ o) := hA.val 14 57 (by kernel_rfl) (by kernel_rfl)
          refine opStep none 0 rfl rfl (fun c hc => by cases hc) ?_
          go_simp
          exact hK _ _ rfl trivial (hA.ph)
        · -- 16
          intro li a1 W2 hA K hK
          have e53 : a1.tmps.getD 53 undef = .int .i64 (o : Int) := hA.val 10 53 (by kernel_rfl) (by kernel_rfl)
          have e58 : a1.tmps.getD 58 undef = .int .i64 (rmv s o : Int) := hA.val 15 58 (by kernel_rfl) (by kernel_rfl)
          have e53' : a1.tmps[53]?.getD undef = .int .i64 (o : Int) := by rw [← Array.getD_eq_getD_getElem?]; exact e53
          have e58' : a1.tmps[58]?.getD undef = .int .i64 (rmv s o : Int) := by rw [← Array.getD_eq_getD_getElem?]; exact e58
          refine opStep none 0 rfl rfl (fun c hc => by cases hc) ?_
          go_simp
          exact hK _ _ rfl trivial (hA.ph)
        · -- 17
          intro li a1 W2 hA K hK
          have e52 : a1.tmps.getD 52 undef = .pointer (some ⟨g, 0, none⟩) := hA.val 9 52 (by kernel_rfl) (by kernel_rfl)
          have e59 : a1.tmps.getD 59 undef = .agg #[.int .i64 (o : Int), .int .i64 (rmv s o : Int)] := hA.val 16 59 (by kernel_rfl) (by kernel_rfl)
          refine opStep none 0 rfl rfl (fun c hc => by cases hc) ?_
          go_simp
          refine (HIH.out o HO.out W2 hA.ph.at_ hA.ph.tm).mono ?_
          rintro e W9 ⟨he, hc9, ht9⟩
          rw [HE.out] at he
          subst he
          exact hK _ _ rfl trivial (hA.ph.chg hc9 ht9)
        · -- 18
          intro li a1 W2 hA K hK
          have e60 : a1.tmps.getD 60 undef = .agg #[.int .i64 r1, .int .i64 r2] := hA.val 17 60 (by kernel_rfl) (by kernel_rfl)
          refine opStep none 0 rfl rfl (fun c hc => by cases hc) ?_
          go_simp
          exact hK _ _ rfl trivial (hA.ph)
        · -- 19
          intro li a1 W2 hA K hK
          have e51 : a1.tmps.getD 51 undef = .int .i64 (T a o) := hA.val 8 51 (by kernel_rfl) (by kernel_rfl)
          have e61 : a1.tmps.getD 61 undef = .int .i64 r1 := hA.val 18 61 (by kernel_rfl) (by kernel_rfl)
          refine opStep none 0 rfl rfl (fun c hc => by cases hc) ?_
          go_simp
          exact hK _ _ rfl trivial (hA.ph)
      intro li a1 W2 hD
      have e62 : a1.tmps.getD 62 undef = .int .i64 (T a o + r1) := hD.val 19 62 (by kernel_rfl) (by kernel_rfl)
      have hsz9 : a1.tmps.size = 78 := hD.size
      have hkp2 := hD.keeps (ds := [43, 44, 45, 46, 47, 48, 49, 50, 51, 52, 53, 54, 55, 56, 57, 58, 59, 60, 61, 62, 10]) (by kernel_rfl)
      refine tail_val (i := 20) (v := .int .i64 (T a o + r1)) (W' := W2) none 0 rfl rfl rfl (fun c hc => by cases hc) (by go_simp) (by rw [hsz9]; decide) ?_
      intro a3 s3 d3 f3 o3
      have hkp3 := keeps_then hkp2 o3 (by decide)
      have e := act_mix [43, 44, 45, 46, 47, 48, 49, 50, 51, 52, 53, 54, 55, 56, 57, 58, 59, 60, 61, 62, 10] (s3.trans hD.size) (d3.trans hD.defers) (fun i _ hc => hkp3 i hc)
      have f6 : (fun i => a3.tmps.getD i undef) 10 = .int .i64 (T a o + r1) := f3
      generalize (fun i => a3.tmps.getD i undef) = g' at e f6
      refine wpListIn_nil ?_
      rw [e]
      have HPW := hid hD.ph
      clear e hD hkp2 hkp3 s3 d3 f3 o3 e62 hsz9 HPR
      simp only [mix, List.contains_cons, List.contains_nil, Nat.reduceAdd, Nat.reduceBEq, Bool.or_false, Bool.or_true, cond_true, cond_false, f6]
      clear f6
      generalize W2 = W5 at *
      obtain ⟨y0, y1⟩ := HPW.out.by_.c2
      have yf0 := HPW.out.by_.frozen 0
      have yf1 := HPW.out.by_.frozen 1
      have yl := HPW.out.by_.lt
      cases hlt9 : decide (T a o + r1 < b1)
      · have HNX := hid (show PhR w g mp m A c A2 c2 T F a s y W4 (rstTo T a (bl s) ((bl s).take (k + 1))).1 (rstTo T a (bl s) ((bl s).take (k + 1))).2 W5 by rw [HST.out, if_neg (of_decide_eq_false hlt9)]; exact HPW.out)
        go_wp2
        clear y0 y1 yf0 yf1 yl HPW
        go_roundw
        case rel => exact ⟨k + 1, by omega, by go_num, HNX.out⟩
        case measure => first | (simp [intOf]; done) | (simp [intOf]; omega)
      · have HNX := hid (show PhR w g mp m A c A2 c2 T F a s y W4 (rstTo T a (bl s) ((bl s).take (k + 1))).1 (rstTo T a (bl s) ((bl s).take (k + 1))).2 ((W5.setCell ⟨y, 0, none⟩ (.int .i64 (T a o + r1))).setCell ⟨y, 1, none⟩ (.int .i64 (o : Int))) by rw [HST.out, if_pos (of_decide_eq_true hlt9)]; exact HPW.out.sto _ _)
        go_wp2
        clear y0 y1 yf0 yf1 yl HPW
        go_roundw
        case rel => exact ⟨k + 1, by omega, by go_num, HNX.out⟩
        case measure => first | (simp [intOf]; done) | (simp [intOf]; omega)
    · have hkI : decide ((k : Int) < (L : Int)) = false := decide_eq_false (by omega)
      have HE := hid (show rst T a (bl s) = (b1, b2) by rw [rst_cons HNE.out (bl_nodup s), ← HB12.out, List.take_of_length_le (by rw [HLL.out]; omega)])
      go_upto_region 14 with (fail)
      refine (wpIn_wide (n := 0)).1 ?_
      refine wpIn_region_each2 6 (fun i v W' => match i with | 0 => v = .pointer (some ⟨g, 0, none⟩) | 1 => v = .pointer (some ⟨g, 0, none⟩) | 2 => v = .pointer (some ⟨g, 130, none⟩) | 3 => v = .map (some mp) | 4 => v = .agg #[.int .i64 (a : Int), .int .i64 (s : Int)] | 5 => v = .agg #[.int .i64 b1, .int .i64 b2] | _ => True) (fun _ _ => True) (fun _ _ W => PhR w g mp m A c A2 c2 T F a s y W4 b1 b2 W) (by kernel_rfl) (by kernel_rfl) ?_ (fun _ _ => trivial) trivial (HPR.out.keep ⟨rfl, rfl, rfl, Nat.le_refl _, fun _ _ => rfl⟩) (by kernel_rfl) ?_ ?_
      · intro i v W1 W2 hb h; exact h
      · refine ⟨?_, ?_, ?_, ?_, ?_, ?_, trivial⟩
        · -- 0
          intro li a1 W2 hA K hK
          have e0 := hA.par 0 (by kernel_rfl)
          refine opStep none 0 rfl rfl (fun c hc => by cases hc) ?_
          go_simp
          exact hK _ _ rfl trivial (hA.ph)
        · -- 1
          intro li a1 W2 hA K hK
          have e71 : a1.tmps.getD 71 undef = .pointer (some ⟨g, 0, none⟩) := hA.val 0 71 (by kernel_rfl) (by kernel_rfl)
          refine opStep none 0 rfl rfl (fun c hc => by cases hc) ?_
          go_simp
          exact hK _ _ rfl trivial (hA.ph)
        · -- 2
          intro li a1 W2 hA K hK
          have e72 : a1.tmps.getD 72 undef = .pointer (some ⟨g, 0, none⟩) := hA.val 1 72 (by kernel_rfl) (by kernel_rfl)
          refine opStep none 0 rfl rfl (fun c hc => by cases hc) ?_
          go_simp
          exact hK _ _ rfl trivial (hA.ph)
        · -- 3
          intro li a1 W2 hA K hK
          have e73 : a1.tmps.getD 73 undef = .pointer (some ⟨g, 130, none⟩) := hA.val 2 73 (by kernel_rfl) (by kernel_rfl)
          obtain ⟨_, _, a4'⟩ := hA.ph.at_.head
          obtain ⟨t0, t1⟩ := hA.ph.bs.c2
          obtain ⟨y0, y1⟩ := hA.ph.by_.c2
          refine opStep none 0 rfl rfl (fun c hc => by cases hc) ?_
          go_simp
          exact hK _ _ rfl trivial (hA.ph)
        · -- 4
          intro li a1 W2 hA K hK
          have e3 := hA.par 3 (by kernel_rfl)
          obtain ⟨_, _, a4'⟩ := hA.ph.at_.head
          obtain ⟨t0, t1⟩ := hA.ph.bs.c2
          obtain ⟨y0, y1⟩ := hA.ph.by_.c2
          refine opStep none 0 rfl rfl (fun c hc => by cases hc) ?_
          go_simp
          exact hK _ _ rfl trivial (hA.ph)
        · -- 5
          intro li a1 W2 hA K hK
          have e7 := hA.par 7 (by kernel_rfl)
          obtain ⟨_, _, a4'⟩ := hA.ph.at_.head
          obtain ⟨t0, t1⟩ := hA.ph.bs.c2
          obtain ⟨y0, y1⟩ := hA.ph.by_.c2
          refine opStep none 0 rfl rfl (fun c hc => by cases hc) ?_
          go_simp
          exact hK _ _ rfl trivial (hA.ph)
      intro li a1 W2 hD
      have e74 : a1.tmps.getD 74 undef = .map (some mp) := hD.val 3 74 (by kernel_rfl) (by kernel_rfl)
      have e75 : a1.tmps.getD 75 undef = .agg #[.int .i64 (a : Int), .int .i64 (s : Int)] := hD.val 4 75 (by kernel_rfl) (by kernel_rfl)
      have e76 : a1.tmps.getD 76 undef = .agg #[.int .i64 b1, .int .i64 b2] := hD.val 5 76 (by kernel_rfl) (by kernel_rfl)
      have hkp2 := hD.keeps (ds := [71, 72, 73, 74, 75, 76]) (by kernel_rfl)
      obtain ⟨es, ck, hrun, htm⟩ := hD.ph.tm.store ha hs
      rw [HE.out] at hrun
      unfold legV at hrun
      dsimp only at hrun
      refine tail_store (i := 6) (W' := W2.putObj mp (.map es ck)) none 0 rfl rfl rfl (fun c hc => by cases hc) (by simp [execOp, Act.eval, e74, e75, e76, hrun, Result.andThen]) ?_
      have e := act_mix [71, 72, 73, 74, 75, 76] hD.size hD.defers (fun i _ hc => hkp2 i hc)
      generalize (fun i => a1.tmps.getD i undef) = g' at e
      refine wpListIn_nil ?_
      rw [e]
      obtain ⟨n1, n2, n3, n4⟩ := hD.ph.n1
      have hcw : MChg (fun q => q = mp) w W2 := ⟨hD.ph.ch.os.trans HW4.out.os, hD.ph.ch.tape.trans HW4.out.tape, hD.ph.ch.output.trans HW4.out.output, Nat.le_trans HW4.out.size hD.ph.ch.size, fun q hq hne => (hD.ph.ch.block q (Nat.lt_of_lt_of_le hq HW4.out.size) (fun e => by rcases e with e | e; exact hne e; omega)).trans (HW4.out.block q hq)⟩
      have H7 := hid (show MChg (fun q => q = mp) w (W2.putObj mp (.map es ck)) ∧ TMem T mp (W2.putObj mp (.map es ck)) ∧ Blk (W2.putObj mp (.map es ck)) (w.heap.size + 1) 155 #[.int .i64 0, .int .i64 0] ∧ Blk (W2.putObj mp (.map es ck)) y 155 #[.int .i64 b1, .int .i64 b2] from ⟨MChg.putObj (Z := fun q => q = mp) hcw rfl _, htm, hD.ph.bl.put (by omega) _, hD.ph.by_.put (by omega) _⟩)
      clear e hD hkp2 e74 e75 e76 hrun htm hcw HPR
      simp only [mix, List.contains_cons, List.contains_nil, Nat.reduceAdd, Nat.reduceBEq, Bool.or_false, Bool.or_true, cond_true, cond_false]
      generalize W2.putObj mp (.map es ck) = W7 at *
      obtain ⟨y0, y1⟩ := H7.out.2.2.2.c2
      obtain ⟨l0, l1⟩ := H7.out.2.2.1.c2
      have lf0 := H7.out.2.2.1.frozen 0
      have lf1 := H7.out.2.2.1.frozen 1
      have ll := H7.out.2.2.1.lt
      go_wp2
      have hne : mp ≠ w.heap.size + 1 := by have := HGL.out.1; omega
      have HX := hid (show Blk ((W7.setCell ⟨w.heap.size + 1, 0, none⟩ (.int .i64 b1)).setCell ⟨w.heap.size + 1, 1, none⟩ (.int .i64 b2)) (w.heap.size + 1) 155 #[.int .i64 b1, .int .i64 b2] ∧ MChg (fun q => q = mp) w ((W7.setCell ⟨w.heap.size + 1, 0, none⟩ (.int .i64 b1)).setCell ⟨w.heap.size + 1, 1, none⟩ (.int .i64 b2)) ∧ TMem T mp ((W7.setCell ⟨w.heap.size + 1, 0, none⟩ (.int .i64 b1)).setCell ⟨w.heap.size + 1, 1, none⟩ (.int .i64 b2)) from
        ⟨(H7.out.2.2.1.set_ 0 _).set_ 1 _, (H7.out.1.more (grown_of_set _ ⟨w.heap.size + 1, 0, none⟩ _) (Nat.le_succ _)).more (grown_of_set _ ⟨w.heap.size + 1, 1, none⟩ _) (Nat.le_succ _), (H7.out.2.1.far (p := ⟨w.heap.size + 1, 0, none⟩) hne.symm _).far (p := ⟨w.heap.size + 1, 1, none⟩) hne.symm _⟩)
      clear H7 y0 y1 l0 l1 lf0 lf1 ll
      generalize ((W7.setCell ⟨w.heap.size + 1, 0, none⟩ (.int .i64 b1)).setCell ⟨w.heap.size + 1, 1, none⟩ (.int .i64 b2)) = W8 at *
      obtain ⟨l0, l1⟩ := HX.out.1.c2
      exact bodyPost_ret (v := .agg #[.int .i64 b1, .int .i64 b2]) (by simp [results, Tryz.results65, go_sem, l0, l1]) rfl ⟨by rw [HE.out]; rfl, HX.out.2⟩
end Go.Proofs.YtlnamjhgbdacbaaGreat
/- from: behind the last row. -/
namespace Go.Proofs.YtlnamjhgbdacbaaGreat
open Go.RowKit Go.Shelf

set_option maxRecDepth 100000 in
set_option maxHeartbeats 4000000 in
theorem from_zero {P n mb : Nat} {b : Int} {At : Option Addr} {ct : Nat} {cs : List (List Int)} {Af : Option Addr} {cf : Nat} {fs : List Fx} {W : World} {s : S4} (he : FEnv P n mb b At ct cs Af cf fs W) (ok : TOk b cs fs) (hs : Small 200000 s) :
    Calls Tryz.prog 28 #[.pointer (some ⟨P, 0, none⟩), spotV (cs.length : Int) s] W fun e W' => e = .returned (restV (spec b cs fs 0 s) none 0) ∧ Below W.heap.size W W' := by
  have K := hid (show ∀ W1, Below W.heap.size W W1 → _ from fun W1 hb => closes_any b At ct cs (.slice Af fs.length cf) s W1 ok.okc ((he.below hb).ic.more (he.below hb).hn) hs)
  have HE := hid he
  obtain ⟨k0, k1, k2, k3⟩ := he.reads
  have hlt := he.bp.lt
  clear he ok hs
  cases hc : closesB b cs s
  all_goals
    rw [hc] at K
    have HC := hid hc
    clear hc
    go_enter Tryz.func28, Tryz.ntmps28
    simp only [spotV]
    go_wp2
    refine gen (p := Code.wp _ _ _ _) (fun W1 => Below W.heap.size W W1 ∧ Blk W1 W.heap.size 94 #[.pointer (some ⟨P, 0, none⟩)] ∧ Blk W1 (W.heap.size + 1) 100 #[.int .i64 (cs.length : Int), .int .i64 s.a, .int .i64 s.b, .int .i64 s.c, .int .i64 s.d] ∧ Blk W1 (W.heap.size + 1 + 1) 102 #[.int .i64 0, .int .i64 0, .slice none 0 0]) ⟨?_, ?_, ?_, ?_⟩ ?_
    · exact (((Below.refl _ _).alloc (Nat.le_refl _) _).alloc (by simp) _).alloc (by simp; omega) _
    · exact ((Blk.new _ _ _).alloc _).alloc _
    · have := (Blk.new (W.alloc (.cells #[.pointer (some ⟨P, 0, none⟩)] 94)) 100 #[.int .i64 (cs.length : Int), .int .i64 s.a, .int .i64 s.b, .int .i64 s.c, .int .i64 s.d]).alloc (.cells #[.int .i64 0, .int .i64 0, .slice none 0 0] 102)
      rwa [World.size_alloc] at this
    · have := Blk.new ((W.alloc (.cells #[.pointer (some ⟨P, 0, none⟩)] 94)).alloc (.cells #[.int .i64 (cs.length : Int), .int .i64 s.a, .int .i64 s.b, .int .i64 s.c, .int .i64 s.d] 100)) 102 #[.int .i64 0, .int .i64 0, .slice none 0 0]
      rwa [World.size_alloc, World.size_alloc] at this
    rintro W1 ⟨hb1, hw1, hs1, hr1⟩
    have HB1 := hid hb1
    have q1 := xt_c1 hw1
    obtain ⟨q2, q3, q4, q5, q6⟩ := xt_c5 hs1
    obtain ⟨q7, q8, q9, q10⟩ := xt_c4 (HE.out.below hb1).bp
    clear hb1 k0 k1 k2 k3
    refine wp_region_quiet_xt (by kernel_rfl) (by kernel_rfl) ?_
    repeat (go_big_quiet_step (fail))
    refine wpQuiet_nil ?_
    intro W2 hw2
    replace hw2 := of_xt hw2
    have hB2 := hid (HB1.out.trans (hw2.mono HB1.out.size))
    have hr2 := hr1.keep hw2
    clear q1 q2 q3 q4 q5 q6 q7 q8 q9 q10
    have q1 := xt_c1 (hw1.keep hw2)
    obtain ⟨q2, q3, q4, q5, q6⟩ := xt_c5 (hs1.keep hw2)
    obtain ⟨q7, q8, q9, q10⟩ := xt_c4 (HE.out.below hB2.out).bp
    have T := hid (show ∀ q, _ from fun q => K.out (xt W2 q) (hB2.out.trans ((below_xt W2 q).mono hB2.out.size)))
    clear hw2 hw1 hs1 hr1 HB1 K hlt
    go_wp2
    refine wp_region_quiet_xt (by kernel_rfl) (by kernel_rfl) ?_
    repeat (go_big_quiet_step ((go_at_call 59; with_reducible exact Calls.xt (T.out _))))
    refine wpQuiet_nil ?_
    intro W3 hw3
    replace hw3 := of_xt hw3
    have hr3 := hr2.keep hw3
    have hlt3 := hr3.lt
    obtain ⟨c0, c1, c2⟩ := hr3.c3
    have f0 := hr3.frozen 0
    have f1 := hr3.frozen 1
    have f2 := hr3.frozen 2
    clear q1 q2 q3 q4 q5 q6 q7 q8 q9 q10 T hr2
    have hB3 := hid (hB2.out.trans (hw3.mono hB2.out.size))
    clear hw3
    go_wp2
    have hfin : ∀ v : Int, Below W.heap.size W (((W3.setCell ⟨W.heap.size + 1 + 1, 0, none⟩ (.int .i64 v)).setCell ⟨W.heap.size + 1 + 1, 1, none⟩ (.int .i64 0)).setCell ⟨W.heap.size + 1 + 1, 2, none⟩ (.slice none 0 0)) :=
      fun v => ((hB3.out.setCell (by simp; omega) _).setCell (by simp; omega) _).setCell (by simp; omega) _
    first
      | exact bodyPost_ret (v := restV ⟨0, 0, []⟩ none 0) (by simp [results, Tryz.results28, go_sem, restV, c0, c1, c2]) rfl ⟨by rw [spec, HC.out]; rfl, hfin 0⟩
      | exact bodyPost_ret (v := restV ⟨1, 0, []⟩ none 0) (by simp [results, Tryz.results28, go_sem, restV, c0, c1, c2]) rfl ⟨by rw [spec, HC.out]; rfl, hfin 1⟩
end Go.Proofs.YtlnamjhgbdacbaaGreat
/- from: a spot that is known. -/
namespace Go.Proofs.YtlnamjhgbdacbaaGreat
open Go.RowKit Go.Shelf

theorem rest_info : (Tryz.prog.info? 102).map (fun i => i.zero) = some (some (.agg #[.int .i64 0, .int .i64 0, .slice none 0 0])) := by kernel_rfl
theorem rest_zero (W : World) : (zeroValue 102).run Tryz.prog W = .ok (.agg #[.int .i64 0, .int .i64 0, .slice none 0 0]) W := by
  obtain ⟨i, hi, hz⟩ := Option.map_eq_some_iff.1 rest_info
  simp [zeroValue, typeInfo, hi, hz, Result.andThen]

/-- one block is laid, then written -/
structure Ph5 (Val : Array Value → Prop) (w : World) (li : Array Bool) (W : World) : Prop where
  below : Below w.heap.size w W
  sz : li.getD 9 false = false → W.heap.size = w.heap.size
  blk : li.getD 9 false = true → ∃ u0 u1 u2, Blk W w.heap.size 102 #[u0, u1, u2]
  val : li.getD 10 false = true → ∃ u0 u1 u2, Blk W w.heap.size 102 #[u0, u1, u2] ∧ Val #[u0, u1, u2]
section
variable {Val : Array Value → Prop} {w W : World} {li : Array Bool} {u0 u1 u2 v0 v1 v2 : Value}
theorem Ph5.start (w : World) {n : Nat} (_ : 11 ≤ n) : Ph5 Val w (Array.replicate n false) { w with drawn := w.drawn + 1 } :=
  ⟨⟨rfl, rfl, rfl, Nat.le_refl _, fun _ _ => rfl⟩, fun _ => rfl, (by rw [getD_replicate_false]; intro h; cases h), (by rw [getD_replicate_false]; intro h; cases h)⟩
theorem Ph5.other (h : Ph5 Val w li W) {i : Nat} (h9 : i ≠ 9) (h10 : i ≠ 10) : Ph5 Val w (li.setIfInBounds i true) W :=
  ⟨h.below, by rw [getD_set_oth h9]; exact h.sz, by rw [getD_set_oth h9]; exact h.blk, by rw [getD_set_oth h10]; exact h.val⟩
theorem Ph5.alloc (h : Ph5 Val w li W) (h9 : li.getD 9 false = false) (hs : 9 < li.size) : Ph5 Val w (li.setIfInBounds 9 true) (W.alloc (.cells #[v0, v1, v2] 102)) := by
  have hz := h.sz h9
  have hb := Blk.new W 102 #[v0, v1, v2]
  rw [hz] at hb
  refine ⟨h.below.alloc (by omega) _, (by rw [getD_set_eq hs]; intro e; cases e), fun _ => ⟨_, _, _, hb⟩, ?_⟩
  rw [getD_set_oth (by decide)]
  intro h10
  obtain ⟨a, b, c, hb', _⟩ := h.val h10
  have := hb'.lt
  omega
theorem Ph5.store (h : Ph5 Val w li W) (h9 : li.getD 9 false = true) (hb : Blk W w.heap.size 102 #[u0, u1, u2]) (hv : Val #[v0, v1, v2]) :
    Ph5 Val w (li.setIfInBounds 10 true) (((W.setCell ⟨w.heap.size, 0, none⟩ v0).setCell ⟨w.heap.size, 1, none⟩ v1).setCell ⟨w.heap.size, 2, none⟩ v2) := by
  have hb2 := ((hb.set_ 0 v0).set_ 1 v1).set_ 2 v2
  refine ⟨((h.below.setCell (Nat.le_refl _) _).setCell (Nat.le_refl _) _).setCell (Nat.le_refl _) _, (by rw [getD_set_oth (by decide), h9]; intro e; cases e), fun _ => ⟨_, _, _, hb2⟩, fun _ => ⟨_, _, _, hb2, hv⟩⟩
end

set_option maxRecDepth 100000 in
set_option maxHeartbeats 4000000 in
theorem from_hit {P n mb : Nat} {b : Int} {At : Option Addr} {ct : Nat} {cs : List (List Int)} {Af : Option Addr} {cf : Nat} {fs : List Fx} {W : World} {s : S4} {r : Nat} {es : Array MapEntry} {clock : Nat} (he : FEnv P n mb b At ct cs Af cf fs W) (ok : TOk b cs fs) (hr : r < cs.length) (hs : Small 200000 s) (hm : W.heap[mb]? = some (.map es clock)) (hk : SpotKeys es)
    (hg : ∀ e ∈ es.toList, ∃ k s A c, 1 ≤ k ∧ k ≤ cs.length ∧ e.key = spotV ((cs.length - k : Nat) : Int) s ∧ e.val = restV (spec b cs fs k s) A c) (hin : ∃ x ∈ es.toList, x.key = spotV r s) :
    Calls Tryz.prog 28 #[.pointer (some ⟨P, 0, none⟩), spotV (r : Int) s] W fun e W' => (∃ x ∈ es.toList, x.key = spotV r s ∧ e = .returned x.val) ∧ Below W.heap.size W W' := by
  have HE := hid he
  obtain ⟨k0, k1, k2, k3⟩ := he.reads
  have hlt := he.bp.lt
  have hne : ((r : Int) == (cs.length : Int)) = false := by simp; omega
  have hkey := spot_key (r := (r : Int)) (s := s) ⟨by omega, by have := ok.okc.n2; omega⟩ (hs.mono (by decide))
  have hml : mb < W.heap.size := (Array.getElem?_eq_some_iff.1 hm).1
  have H0 := hid (And.intro hml (And.intro hm (And.intro hk (And.intro hkey hin))))
  have HG := hid (show ∀ x ∈ es.toList, ∃ k s A c, 1 ≤ k ∧ k ≤ cs.length ∧ x.key = spotV ((cs.length - k : Nat) : Int) s ∧ x.val = restV (spec b cs fs k s) A c ∧ True from fun x hx => by
    obtain ⟨k, s, A, c, g1, g2, g3, g4⟩ := hg x hx; exact ⟨k, s, A, c, g1, g2, g3, g4, trivial⟩)
  have HZ := hid (fun W => rest_zero W)
  clear he ok hs hm hk hg hin hkey hml hr
  go_enter Tryz.func28, Tryz.ntmps28
  simp only [spotV]
  go_wp2
  refine gen (p := Code.wp _ _ _ _) (fun W1 => Below W.heap.size W W1 ∧ Blk W1 W.heap.size 94 #[.pointer (some ⟨P, 0, none⟩)] ∧ Blk W1 (W.heap.size + 1) 100 #[.int .i64 (r : Int), .int .i64 s.a, .int .i64 s.b, .int .i64 s.c, .int .i64 s.d] ∧ Blk W1 (W.heap.size + 1 + 1) 102 #[.int .i64 0, .int .i64 0, .slice none 0 0]) ⟨?_, ?_, ?_, ?_⟩ ?_
  · exact (((Below.refl _ _).alloc (Nat.le_refl _) _).alloc (by simp) _).alloc (by simp; omega) _
  · exact ((Blk.new _ _ _).alloc _).alloc _
  · have := (Blk.new (W.alloc (.cells #[.pointer (some ⟨P, 0, none⟩)] 94)) 100 #[.int .i64 (r : Int), .int .i64 s.a, .int .i64 s.b, .int .i64 s.c, .int .i64 s.d]).alloc (.cells #[.int .i64 0, .int .i64 0, .slice none 0 0] 102)
    rwa [World.size_alloc] at this
  · have := Blk.new ((W.alloc (.cells #[.pointer (some ⟨P, 0, none⟩)] 94)).alloc (.cells #[.int .i64 (r : Int), .int .i64 s.a, .int .i64 s.b, .int .i64 s.c, .int .i64 s.d] 100)) 102 #[.int .i64 0, .int .i64 0, .slice none 0 0]
    rwa [World.size_alloc, World.size_alloc] at this
  rintro W1 ⟨hb1, hw1, hs1, hr1⟩
  have HB1 := hid hb1
  have q1 := xt_c1 hw1
  obtain ⟨q2, q3, q4, q5, q6⟩ := xt_c5 hs1
  obtain ⟨q7, q8, q9, q10⟩ := xt_c4 (HE.out.below hb1).bp
  clear hb1 k0 k1 k2 k3 hlt
  refine wp_region_quiet_xt (by kernel_rfl) (by kernel_rfl) ?_
  repeat (go_big_quiet_step (fail))
  refine wpQuiet_nil ?_
  intro W2 hw2
  replace hw2 := of_xt hw2
  clear q1 q2 q3 q4 q5 q6 q7 q8 q9 q10
  go_wp2
  refine gen (p := Code.wp _ _ _ _) (fun W3 => Below W.heap.size W W3 ∧ Blk W3 W.heap.size 94 #[.pointer (some ⟨P, 0, none⟩)] ∧ Blk W3 (W.heap.size + 1) 100 #[.int .i64 (r : Int), .int .i64 s.a, .int .i64 s.b, .int .i64 s.c, .int .i64 s.d] ∧ Blk W3 (W.heap.size + 1 + 1) 102 #[.int .i64 0, .int .i64 0, .slice none 0 0]) ⟨HB1.out.trans (hw2.mono HB1.out.size), hw1.keep hw2, hs1.keep hw2, hr1.keep hw2⟩ ?_
  clear hw2 hw1 hs1 hr1 HB1
  clear W2 W1
  rintro W1 ⟨hb1, hw1, hs1, hr1⟩
  have HM := hid (show mb < W1.heap.size ∧ W1.heap[mb]? = some (.map es clock) ∧ SpotKeys es ∧ (∃ l, keyOf Tryz.prog 100 (spotV r s) = some l) ∧ (∃ x ∈ es.toList, x.key = spotV r s) from
    ⟨Nat.lt_of_lt_of_le H0.out.1 hb1.size, (hb1.block mb H0.out.1).trans H0.out.2.1, H0.out.2.2.1, H0.out.2.2.2.1, H0.out.2.2.2.2⟩)
  clear H0
  have HQ := hid (show ∀ W2, Below W1.heap.size W1 W2 → W2.cell? ⟨W.heap.size, 0, none⟩ = some (.pointer (some ⟨P, 0, none⟩)) ∧ W2.cell? ⟨W.heap.size + 1, 0, none⟩ = some (.int .i64 (r : Int)) ∧ W2.cell? ⟨W.heap.size + 1, 1, none⟩ = some (.int .i64 s.a) ∧ W2.cell? ⟨W.heap.size + 1, 2, none⟩ = some (.int .i64 s.b) ∧ W2.cell? ⟨W.heap.size + 1, 3, none⟩ = some (.int .i64 s.c) ∧ W2.cell? ⟨W.heap.size + 1, 4, none⟩ = some (.int .i64 s.d) ∧ W2.cell? ⟨P, 3, none⟩ = some (.map (some mb)) from
    fun W2 hb => ⟨(hw1.keep hb).c1, (hs1.keep hb).c5.1, (hs1.keep hb).c5.2.1, (hs1.keep hb).c5.2.2.1, (hs1.keep hb).c5.2.2.2.1, (hs1.keep hb).c5.2.2.2.2, (((HE.out.below hb1).below hb).bp).c4.2.2.2⟩)
  refine (wpIn_wide (n := 0)).1 ?_
  refine wpIn_region_each 11 (fun i v _ => match i with | 0 => v = .pointer (some ⟨P, 0, none⟩) | 1 => v = .pointer (some ⟨P, 0, none⟩) | 2 => v = .pointer (some ⟨P, 3, none⟩) | 3 => v = .map (some mb) | 4 => v = .agg #[.int .i64 (r : Int), .int .i64 s.a, .int .i64 s.b, .int .i64 s.c, .int .i64 s.d] | 5 => ∃ x ∈ es.toList, x.key = spotV r s ∧ v = .tuple #[x.val, .bool true] | 6 => ∃ x ∈ es.toList, x.key = spotV r s ∧ v = .tuple #[x.val, .bool true] | 7 => ∃ x ∈ es.toList, x.key = spotV r s ∧ v = x.val | 8 => v = .bool true | 9 => v = .pointer (some ⟨W1.heap.size, 0, none⟩) | _ => True) (fun _ _ => True) (Ph5 (fun cells => ∃ x ∈ es.toList, x.key = spotV r s ∧ x.val = .agg cells) W1) (by kernel_rfl) (by kernel_rfl) ?_ (fun _ _ => trivial) trivial (Ph5.start _ (by decide)) (by kernel_rfl) ?_ ?_
  · intro i v _ _ _ h; exact h
  · refine ⟨?_, ?_, ?_, ?_, ?_, ?_, ?_, ?_, ?_, ?_, ?_, trivial⟩
    · -- 0: Op.load 83 t2
      intro li a1 W2 hA K hK
      have e2 := hA.par 2 (by kernel_rfl)
      obtain ⟨q1, q2, q3, q4, q5, q6, q7⟩ := HQ.out W2 hA.ph.below
      refine opStep none 0 rfl rfl (fun c hc => by cases hc) ?_
      go_simp
      exact hK _ _ rfl trivial (hA.ph.other (by decide) (by decide))
    · -- 1: Op.nilCheck t30
      intro li a1 W2 hA K hK
      have e30 : a1.tmps.getD 30 undef = .pointer (some ⟨P, 0, none⟩) := hA.val 0 30 (by kernel_rfl) (by kernel_rfl)
      obtain ⟨q1, q2, q3, q4, q5, q6, q7⟩ := HQ.out W2 hA.ph.below
      refine opStep none 0 rfl rfl (fun c hc => by cases hc) ?_
      go_simp
      exact hK _ _ rfl trivial (hA.ph.other (by decide) (by decide))
    · -- 2: Op.fieldAddr 124 t31 1
      intro li a1 W2 hA K hK
      have e31 : a1.tmps.getD 31 undef = .pointer (some ⟨P, 0, none⟩) := hA.val 1 31 (by kernel_rfl) (by kernel_rfl)
      obtain ⟨q1, q2, q3, q4, q5, q6, q7⟩ := HQ.out W2 hA.ph.below
      refine opStep none 0 rfl rfl (fun c hc => by cases hc) ?_
      go_simp
      exact hK _ _ rfl trivial (hA.ph.other (by decide) (by decide))
    · -- 3: Op.load 122 t32
      intro li a1 W2 hA K hK
      have e32 : a1.tmps.getD 32 undef = .pointer (some ⟨P, 3, none⟩) := hA.val 2 32 (by kernel_rfl) (by kernel_rfl)
      obtain ⟨q1, q2, q3, q4, q5, q6, q7⟩ := HQ.out W2 hA.ph.below
      refine opStep none 0 rfl rfl (fun c hc => by cases hc) ?_
      go_simp
      exact hK _ _ rfl trivial (hA.ph.other (by decide) (by decide))
    · -- 4: Op.load 89 t3
      intro li a1 W2 hA K hK
      have e3 := hA.par 3 (by kernel_rfl)
      obtain ⟨q1, q2, q3, q4, q5, q6, q7⟩ := HQ.out W2 hA.ph.below
      refine opStep none 0 rfl rfl (fun c hc => by cases hc) ?_
      go_simp
      exact hK _ _ rfl trivial (hA.ph.other (by decide) (by decide))
    · -- 5: Op.lookup 122 t33 t34 true
      intro li a1 W2 hA K hK
      have e33 : a1.tmps.getD 33 undef = .map (some mb) := hA.val 3 33 (by kernel_rfl) (by kernel_rfl)
      have e34 : a1.tmps.getD 34 undef = .agg #[.int .i64 (r : Int), .int .i64 s.a, .int .i64 s.b, .int .i64 s.c, .int .i64 s.d] := hA.val 4 34 (by kernel_rfl) (by kernel_rfl)
      obtain ⟨q1, q2, q3, q4, q5, q6, q7⟩ := HQ.out W2 hA.ph.below
      -- raw
      have hq := (hA.ph.below.block mb HM.out.1).trans HM.out.2.1
      rcases spot_look (t := 141) true Tryz.underlying141 (HZ.out _) hq HM.out.2.2.1 HM.out.2.2.2.1 with ⟨_, hno⟩ | ⟨x, hx, hk, hr⟩
      · exact absurd HM.out.2.2.2.2 (fun ⟨x, hx, hk⟩ => hno x hx hk)
      · refine opValue (v := .tuple #[x.val, .bool true]) none 0 rfl rfl (fun c hc => by cases hc) (W' := W2) (by
          have hr' : (Instr.lookup 141 (.map (some mb)) (.agg #[.int .i64 (r : Int), .int .i64 s.a, .int .i64 s.b, .int .i64 s.c, .int .i64 s.d]) true).run Tryz.prog W2 = _ := hr
          simp [execOp, Act.eval, e33, e34, hr', Result.andThen]) ?_
        exact hK _ _ ⟨x, hx, hk, rfl⟩ trivial (hA.ph.other (by decide) (by decide))
    · -- 6: Op.move t35
      intro li a1 W2 hA K hK
      have e35 := hA.val 5 35 (by kernel_rfl) (by kernel_rfl)
      obtain ⟨q1, q2, q3, q4, q5, q6, q7⟩ := HQ.out W2 hA.ph.below
      -- raw
      obtain ⟨x, hx, hk, e35'⟩ := e35
      refine opStep none 0 rfl rfl (fun c hc => by cases hc) ?_
      go_simp
      exact hK _ _ ⟨x, hx, hk, rfl⟩ trivial (hA.ph.other (by decide) (by decide))
    · -- 7: Op.extract t29 0
      intro li a1 W2 hA K hK
      have e29 := hA.val 6 29 (by kernel_rfl) (by kernel_rfl)
      obtain ⟨q1, q2, q3, q4, q5, q6, q7⟩ := HQ.out W2 hA.ph.below
      -- raw
      obtain ⟨x, hx, hk, e29'⟩ := e29
      refine opStep none 0 rfl rfl (fun c hc => by cases hc) ?_
      go_simp
      exact hK _ _ ⟨x, hx, hk, rfl⟩ trivial (hA.ph.other (by decide) (by decide))
    · -- 8: Op.extract t29 1
      intro li a1 W2 hA K hK
      have e29 := hA.val 6 29 (by kernel_rfl) (by kernel_rfl)
      obtain ⟨q1, q2, q3, q4, q5, q6, q7⟩ := HQ.out W2 hA.ph.below
      -- raw
      obtain ⟨x, hx, hk, e29'⟩ := e29
      refine opStep none 0 rfl rfl (fun c hc => by cases hc) ?_
      go_simp
      exact hK _ _ rfl trivial (hA.ph.other (by decide) (by decide))
    · -- 9: Op.alloc 91
      intro li a1 W2 hA K hK
      obtain ⟨q1, q2, q3, q4, q5, q6, q7⟩ := HQ.out W2 hA.ph.below
      refine opStep none 0 rfl rfl (fun c hc => by cases hc) ?_
      go_simp
      have hz := hA.ph.sz hA.new
      rw [hz]
      exact hK _ _ rfl trivial (hA.ph.alloc hA.new (by rw [hA.lsize]; decide))
    · -- 10: Op.store 91 t5 t36
      intro li a1 W2 hA K hK
      have e5 : a1.tmps.getD 5 undef = .pointer (some ⟨W1.heap.size, 0, none⟩) := hA.val 9 5 (by kernel_rfl) (by kernel_rfl)
      have e36 := hA.val 7 36 (by kernel_rfl) (by kernel_rfl)
      obtain ⟨q1, q2, q3, q4, q5, q6, q7⟩ := HQ.out W2 hA.ph.below
      -- raw
      obtain ⟨x, hx, hk, e36'⟩ := e36
      obtain ⟨kx, sx, Ax, cx, g1, g2, g3, g4, g5⟩ := HG.out x hx
      have hl9 := hA.has 9 (by kernel_rfl)
      obtain ⟨u0, u1, u2, hb2⟩ := hA.ph.blk hl9
      obtain ⟨c0, c1, c2⟩ := hb2.c3
      have f0 := hb2.frozen 0
      have f1 := hb2.frozen 1
      have f2 := hb2.frozen 2
      rw [g4, restV] at e36'
      refine opStep none 0 rfl rfl (fun c hc => by cases hc) ?_
      go_simp
      refine hK undef _ trivial trivial (hA.ph.store (Val := fun cells => ∃ x ∈ es.toList, x.key = spotV r s ∧ x.val = .agg cells) hl9 hb2 ?_)
      exact ⟨x, hx, hk, by rw [g4, restV]⟩
  · intro li a1 W2 hD
    have e37 : a1.tmps.getD 37 undef = .bool true := hD.val 8 37 (by kernel_rfl) (by kernel_rfl)
    have e4 := hD.par 4 (by kernel_rfl)
    have e5 : a1.tmps.getD 5 undef = .pointer (some ⟨W1.heap.size, 0, none⟩) := hD.val 9 5 (by kernel_rfl) (by kernel_rfl)
    have hs : a1.tmps.size = 92 := hD.size
    have hd : a1.defers = [] := hD.defers
    refine tail_val (i := 11) (W' := W2) (v := .bool true) none 0 rfl rfl rfl (fun c hc => by cases hc) (by go_simp) (by rw [hs]; decide) ?_
    intro a4 s4 d4 f6 o4
    obtain ⟨u0, u1, u2, hb5, x, hx, hk, hv⟩ := hD.ph.val (hD.all 10 (by decide))
    have hr2 := hr1.keep hD.ph.below
    have HB2 := hid (hb1.trans (hD.ph.below.mono hb1.size))
    have f4 := (o4 4 (by decide)).trans e4
    have f5 := (o4 5 (by decide)).trans e5
    replace hs := s4.trans hs
    replace hd := d4.trans hd
    refine wpListIn_nil ?_
    have e := act_eq hs hd
    obtain ⟨g, hg⟩ : ∃ g : Nat → Value, g = fun i => a4.tmps.getD i undef := ⟨_, rfl⟩
    rw [← hg] at e
    have g4 : g 4 = .pointer (some ⟨W.heap.size + 1 + 1, 0, none⟩) := by rw [hg]; exact f4
    have g5 : g 5 = .pointer (some ⟨W1.heap.size, 0, none⟩) := by rw [hg]; exact f5
    have g6 : g 6 = .bool true := by rw [hg]; exact f6
    rw [e]
    have hlt2 := hr2.lt
    obtain ⟨c0, c1, c2⟩ := hr2.c3
    have fr0 := hr2.frozen 0
    have fr1 := hr2.frozen 1
    have fr2 := hr2.frozen 2
    obtain ⟨d0, d1, d2⟩ := hb5.c3
    obtain ⟨kx, sx, Ax, cx, _, _, _, gx, _⟩ := HG.out x hx
    rw [hv, restV] at gx
    injection gx with gx
    simp only [Array.mk.injEq, List.cons.injEq, and_true] at gx
    obtain ⟨rfl, rfl, rfl⟩ := gx
    have HX := hid (show ∃ x ∈ es.toList, x.key = spotV r s ∧ x.val = .agg #[.int .i64 (spec b cs fs kx sx).ways, .int .i64 (spec b cs fs kx sx).change, .slice Ax (spec b cs fs kx sx).first.length cx] from ⟨x, hx, hk, hv⟩)
    clear hs hd e s4 d4 f6 o4 f4 f5 e4 e5 e37 hg hD hb5 hx hk hv HE HG HZ HM HQ hr1 hb1 hw1 hs1 hne hr2
    simp only [List.range, List.range.loop, List.map_cons, List.map_nil]
    simp only [g4, g5, g6]
    clear g4 g5 g6
    generalize spec b cs fs kx sx = sp at *
    go_wp2
    obtain ⟨x, hx, hk, hv⟩ := HX.out
    refine bodyPost_ret (v := .agg #[.int .i64 sp.ways, .int .i64 sp.change, .slice Ax sp.first.length cx]) (by simp [results, Tryz.results28, go_sem, c0, c1, c2]) rfl ⟨⟨x, hx, hk, by rw [hv]⟩, ?_⟩
    exact ((HB2.out.setCell (by simp; omega) _).setCell (by simp; omega) _).setCell (by simp; omega) _
end Go.Proofs.YtlnamjhgbdacbaaGreat
