/- A table under construction. Conditions stand at each theorem. -/
import Derived.Laws.Tables
import Derived.Deep.AppendSrc
import Derived.Deep.Upon
import Derived.Test.YtgoianldiomdoaaG5
import Derived.Test.YtgoianldiomdoaaG9
import Derived.Test.YtgoianldiomdoaaG11
/- A table under construction: its box, its rows; a row that is appended to. -/
namespace Go.Proofs.Ytgoianldiomdoaa
open Go.RowKit Go.Shelf

/-- a list of numbers of the call's own, as a row -/
theorem own_row {W : World} {base : Nat} {v : Value} {xs : List Int} (h : W.ownsRow base 3 1 v xs.length (xs.map (Value.int .i64))) :
    ∃ A c, v = .slice A xs.length c ∧ Good (fun _ => False) W ⟨0, 0, xs⟩ A c := by
  rcases h.2 with ⟨rfl, h0⟩ | ⟨g, cap, cur, rfl, hb, hg, h1, h2, h3, h4⟩
  · have : xs = [] := List.eq_nil_of_length_eq_zero h0
    subst this
    exact ⟨none, 0, rfl, ⟨(fun k x hk => by simp at hk), (fun a e => by cases e), Nat.le_refl 0, Nat.zero_le maxLen, fun _ => rfl⟩⟩
  · refine ⟨_, cap, rfl, ⟨fun k x hk => ⟨_, rfl, (Array.getElem?_eq_some_iff.1 hg).1, h.cells (g := g) rfl k (.int .i64 x) (by rw [List.getElem?_map]; exact congrArg _ hk)⟩, fun a e => ?_, h1, h2, (fun e => by cases e)⟩⟩
    injection e with e
    subst e
    exact ⟨⟨_, hg⟩, id⟩
/-- the table in its box, when k rows lie in it; the argument's box -/
structure XI (b : Int) (A : Option Addr) (c : Nat) (cs : List (List Int)) (A2 : Option Addr) (c2 : Nat) (fs : List Fx) (Bx : Nat) (X : List (List Int)) (k : Nat) (v : Value) (w W : World) : Prop where
  tb : Blk W w.heap.size 25 #[.int .i64 b, .slice A cs.length c, .slice A2 fs.length c2]
  bx : Blk W Bx 25 #[.int .i64 b, v, .slice none 0 0]
  rows : Rows_ w.heap.size v k X W
  below : Below w.heap.size w W
  ne : w.heap.size + 1 ≤ Bx
theorem XI.at_ {b : Int} {A : Option Addr} {c : Nat} {cs : List (List Int)} {A2 : Option Addr} {c2 : Nat} {fs : List Fx} {Bx : Nat} {X : List (List Int)} {k : Nat} {v : Value} {w W W' : World}
    (h : XI b A c cs A2 c2 fs Bx X k v w W) (hb : Below W.heap.size W W') : XI b A c cs A2 c2 fs Bx X k v w W' :=
  ⟨h.tb.keep hb, h.bx.keep hb, h.rows.below hb, h.below.trans (hb.mono h.below.size), h.ne⟩
/-- a row more -/
theorem XI.next {b : Int} {A : Option Addr} {c : Nat} {cs : List (List Int)} {A2 : Option Addr} {c2 : Nat} {fs : List Fx} {Bx : Nat} {X : List (List Int)} {k : Nat} {v v' : Value} {w W W1 W2 : World} {xs : List Int} {A5 : Option Addr} {c5 : Nat} {vs : List Value}
    (h : XI b A c cs A2 c2 fs Bx X k v w W) (hx : X[k]? = some xs) (hg : Good (fun _ => False) W ⟨0, 0, xs⟩ A5 c5) (hb : Below W.heap.size W W1)
    (ho : W1.ownsRow w.heap.size 56 1 v k vs) (hvs : ∀ i x, i < k → X[i]? = some x → ∃ A c, vs[i]? = some (.slice A x.length c) ∧ Good (fun _ => False) W1 ⟨0, 0, x⟩ A c)
    (hgr : W1.grownBy W2 v.ownBlock) (hown : W2.ownsRow w.heap.size 56 1 v' (k + 1) (vs ++ [.slice A5 xs.length c5])) :
    XI b A c cs A2 c2 fs Bx X (k + 1) v' w (W2.setCell ⟨Bx, 1, none⟩ v') := by
  have h1 := h.at_ hb
  have hg1 := hg.below hb
  have hbx2 := h1.bx.row ho (by decide) hgr
  have htb2 := h1.tb.row ho (by decide) hgr
  have hgs := grown_of_set W2 ⟨Bx, 1, none⟩ v'
  have hk7 : Keep (fun q => q = Bx) W2 (W2.setCell ⟨Bx, 1, none⟩ v') := Keep.of_grown hgs rfl
  have hne := h.ne
  refine ⟨hk7.blk htb2 (by omega), hbx2.set_ 1 v', ⟨_, hown.kept hgs (own_ne hown (blk_not hbx2 (by decide))), fun i x hi hxi => ?_⟩, ?_, h.ne⟩
  · by_cases hij : i < k
    · obtain ⟨Ai, ci, q1, q2⟩ := hvs i x hij hxi
      have : vs.length = k := by have := ho.1; omega
      exact ⟨Ai, ci, by rw [List.getElem?_append_left (by omega)]; exact q1, (q2.row ho (by decide) hgr).set_ hbx2 (by decide) hk7⟩
    · obtain rfl : i = k := by omega
      rw [hx] at hxi
      injection hxi with hxi
      subst hxi
      have : vs.length = i := by have := ho.1; omega
      exact ⟨A5, c5, by rw [List.getElem?_append_right (by omega), this]; simp, (hg1.row ho (by decide) hgr).set_ hbx2 (by decide) hk7⟩
  · exact (below_row h1.below ho (Nat.le_refl _) hgr h1.below.size).setCell (p := ⟨Bx, 1, none⟩) (by show w.heap.size ≤ Bx; omega) _
end Go.Proofs.Ytgoianldiomdoaa
/- Best, whatever it finds; a table whose fixes are appended. -/
namespace Go.Proofs.Ytgoianldiomdoaa
open Go.RowKit Go.Shelf

def bchg (b : Int) (cs : List (List Int)) (fs : List Fx) : Int := if (spec b cs fs cs.length zeroS).ways = 0 then 0 else (spec b cs fs cs.length zeroS).change
def berr (b : Int) (cs : List (List Int)) (fs : List Fx) : Int := if (spec b cs fs cs.length zeroS).ways = 0 then 9 else 0
theorem best_gen (b : Int) (A : Option Addr) (c : Nat) (cs : List (List Int)) (A2 : Option Addr) (c2 : Nat) (fs : List Fx) (w : World) (h : TIn A c cs A2 c2 fs w) (hc : chkE b cs fs = 0) :
    Calls Try.prog 18 #[.agg #[.int .i64 b, .slice A cs.length c, .slice A2 fs.length c2]] w fun e w' => ∃ A5 n5 c5, e = .returned (.tuple #[.slice A5 n5 c5, .int .i64 (bchg b cs fs), .int .i64 (berr b cs fs)]) ∧ Below w.heap.size w w' := by
  unfold bchg berr
  by_cases hw : (spec b cs fs cs.length zeroS).ways = 0
  · rw [if_pos hw, if_pos hw]
    exact (best_none b A c cs A2 c2 fs w h hc hw).mono fun e w' ⟨he, hb⟩ => ⟨none, 0, 0, he, hb⟩
  · rw [if_neg hw, if_neg hw]
    exact (best_some b A c cs A2 c2 fs w h hc hw).mono fun e w' ⟨A5, c5, he, _, _, _, _, _, hb⟩ => ⟨A5, _, c5, he, hb⟩
theorem rfix_info : (Try.prog.info? 64).map (fun i => (i.zero, i.size, i.bytes)) = some (some (.agg #[.int .i64 0, .int .i64 0, .int .i64 0]), 3, 24) := by kernel_rfl
theorem own_rfixes {W : World} {base : Nat} {fs : List Fx} {v : Value} (h : W.ownsRow base 64 3 v fs.length (fxs fs)) : ∃ A c, v = .slice A fs.length c ∧ IsFixes W W.heap.size A fs ∧ fs.length ≤ c ∧ c ≤ maxLen := by
  rcases h.2 with ⟨rfl, h0⟩ | ⟨g, cap, cur, rfl, hb, hg, h1, h2, h3, h4⟩
  · have : fs = [] := List.eq_nil_of_length_eq_zero h0
    subst this
    exact ⟨none, 0, rfl, (fun k x hk => by simp at hk), Nat.le_refl 0, Nat.zero_le maxLen⟩
  · refine ⟨_, cap, rfl, (fun k f hk => ?_), h1, h2⟩
    obtain ⟨c0, c1, c2⟩ := fxs_at fs k f hk
    have ha : (⟨g, 0, none⟩ : Addr).add (k * 3) = ⟨g, k * 3, none⟩ := by unfold Addr.add; split <;> simp_all
    refine ⟨_, rfl, (Array.getElem?_eq_some_iff.1 hg).1, h.cells (g := g) rfl (k * 3) _ c0, ?_, ?_⟩
    · have := h.cells (g := g) rfl (k * 3 + 1) _ c1
      rw [show (⟨g, 0, none⟩ : Addr).add (k * 3 + 1) = ⟨g, k * 3 + 1, none⟩ by unfold Addr.add; split <;> simp_all] at this
      rw [ha]; exact this
    · have := h.cells (g := g) rfl (k * 3 + 2) _ c2
      rw [show (⟨g, 0, none⟩ : Addr).add (k * 3 + 2) = ⟨g, k * 3 + 2, none⟩ by unfold Addr.add; split <;> simp_all] at this
      rw [ha]; exact this
theorem step_build3 {P : Program} {o : Oper} {a : Act} {w : World} {K : Act → World → Prop} {Q : Exit → Act → World → Prop} {t : TypeId} {x0 x1 x2 : Operand} {v0 v1 v2 : Value} {cells : Array Value} (ho : o.op = .build t #[(0, x0), (1, x1), (2, x2)])
    (h0 : a.eval x0 = v0) (h1 : a.eval x1 = v1) (h2 : a.eval x2 = v2) (hb : P.built t [(0, v0), (1, v1), (2, v2)] = some cells) (hk : K (a.put o.dst (.agg cells)) w) : o.wp P a w K Q := by
  refine wp_build t _ ho ?_ ?_
  · simp [h0, h1, h2, hb]
  · simpa [h0, h1, h2, hb] using hk
theorem built_fix (x y z : Int) : Try.prog.built 64 [(0, .int .i64 x), (1, .int .i64 y), (2, .int .i64 z)] = some #[.int .i64 x, .int .i64 y, .int .i64 z] := by kernel_rfl
/-- the table in its box, when its rows are there and k fixes are appended -/
structure XF (b : Int) (A : Option Addr) (c : Nat) (cs : List (List Int)) (A2 : Option Addr) (c2 : Nat) (fs : List Fx) (Bx : Nat) (AX : Option Addr) (cX : Nat) (X : List (List Int)) (FS : List Fx) (k : Nat) (v : Value) (w W : World) : Prop where
  tb : Blk W w.heap.size 25 #[.int .i64 b, .slice A cs.length c, .slice A2 fs.length c2]
  bx : Blk W Bx 25 #[.int .i64 b, .slice AX X.length cX, v]
  rows : Rows_ w.heap.size (.slice AX X.length cX) X.length X W
  fx : W.ownsRow w.heap.size 64 3 v k (fxs (FS.take k))
  below : Below w.heap.size w W
  ne : w.heap.size + 1 ≤ Bx
section
variable {b : Int} {A : Option Addr} {c : Nat} {cs : List (List Int)} {A2 : Option Addr} {c2 : Nat} {fs : List Fx} {Bx : Nat} {AX : Option Addr} {cX : Nat} {X : List (List Int)} {FS : List Fx} {k : Nat} {v v' : Value} {w W W' W2 : World}
theorem XF.at_ (h : XF b A c cs A2 c2 fs Bx AX cX X FS k v w W) (hb : Below W.heap.size W W') : XF b A c cs A2 c2 fs Bx AX cX X FS k v w W' :=
  ⟨h.tb.keep hb, h.bx.keep hb, h.rows.below hb, row_kept (vo := .slice none 0 0) h.fx (grown_of_below hb _) (.inl rfl), h.below.trans (hb.mono h.below.size), h.ne⟩
theorem XF.next {f : Fx} (h : XF b A c cs A2 c2 fs Bx AX cX X FS k v w W) (hf : FS[k]? = some f) (hg : W.grownBy W2 v.ownBlock) (hown : W2.ownsRow w.heap.size 64 3 v' (k + 1) (fxs (FS.take k) ++ fxCells f)) :
    XF b A c cs A2 c2 fs Bx AX cX X FS (k + 1) v' w (W2.setCell ⟨Bx, 2, none⟩ v') := by
  have hbx2 := h.bx.row h.fx (by decide) hg
  have htb2 := h.tb.row h.fx (by decide) hg
  have hgs := grown_of_set W2 ⟨Bx, 2, none⟩ v'
  have hk7 : Keep (fun q => q = Bx) W2 (W2.setCell ⟨Bx, 2, none⟩ v') := Keep.of_grown hgs rfl
  have hne := h.ne
  refine ⟨hk7.blk htb2 (by omega), hbx2.set_ 2 v', (h.rows.row h.fx (by decide) (by decide) hg).grown hgs (blk_not hbx2 (by decide)) (blk_not hbx2 (by decide)), ?_, ?_, h.ne⟩
  · obtain ⟨hk', e⟩ := List.getElem?_eq_some_iff.1 hf
    rw [List.take_succ_eq_append_getElem hk', fxs_snoc, e]
    exact hown.kept hgs (own_ne hown (blk_not hbx2 (by decide)))
  · exact (below_row h.below h.fx (Nat.le_refl _) hg h.below.size).setCell (p := ⟨Bx, 2, none⟩) (by show w.heap.size ≤ Bx; omega) _
end
end Go.Proofs.Ytgoianldiomdoaa
/- Rows and columns exchanged: as many roundings, and the same smallest change; further fixes. -/
namespace Go.Proofs.Ytgoianldiomdoaa

theorem nodup_le {α : Type} [BEq α] [LawfulBEq α] : ∀ {l l' : List α}, l.Nodup → (∀ x, x ∈ l → x ∈ l') → l.length ≤ l'.length
  | [], _, _, _ => Nat.zero_le _
  | a :: l, l', hn, hs => by
    obtain ⟨h1, h2⟩ := List.nodup_cons.1 hn
    have ha := hs a (by simp)
    have := nodup_le (l' := l'.erase a) h2 fun x hx => (List.mem_erase_of_ne (fun e => h1 (by subst e; exact hx))).2 (hs x (by simp [hx]))
    rw [List.length_erase_of_mem ha] at this
    have := List.length_pos_of_mem ha
    simp only [List.length_cons]
    omega
/-- a rounding, in words of functions -/
structure RF (n m : Nat) (b : Int) (A C : Nat → Nat → Int) (fs : List Fx) : Prop where
  cell : ∀ i j, i < n → j < m → nearB b (A i j) (C i j) = true
  row : ∀ i, i < n → nearB b (sm m (A i)) (sm m (C i)) = true
  col : ∀ j, j < m → nearB b (sm n fun i => A i j) (sm n fun i => C i j) = true
  tot : nearB b (sm n fun i => sm m (A i)) (sm n fun i => sm m (C i)) = true
  fix : ∀ f ∈ fs, A f.row.toNat f.col.toNat = f.val
theorem row_sm {l : List (List Int)} {m : Nat} (h : ∀ r ∈ l, r.length = m) {i : Nat} (hi : i < l.length) : (l.getD i []).sum = sm m (cellA l i) := by
  have hx := List.getElem?_eq_getElem hi
  have hl := h _ (List.mem_of_getElem? hx)
  have := sum_sm (l[i]) (l[i]).length (Nat.le_refl _)
  rw [List.take_length] at this
  have e : l.getD i [] = l[i] := by rw [List.getD, hx]; rfl
  rw [e, this, hl]
  exact sm_congr fun j _ => by unfold cellA; rw [e]
theorem isR_RF {b : Int} {cs : List (List Int)} {fs : List Fx} {x : List (List Int)} (hc : chkE b cs fs = 0) (ha : alikeB cs.length (colsOf cs) x = true) : IsR b cs fs x ↔ RF cs.length (colsOf cs) b (cellA x) (cellA cs) fs := by
  rw [← isr_iff hc ha]
  obtain ⟨hl, hr⟩ := alike_rows ha
  have ok := chk_ok hc
  have hr1 : ∀ r ∈ x, r.length = colsOf cs := fun r h => (hr r h).1
  have hsx : ∀ i, i < cs.length → (x.getD i []).sum = sm (colsOf cs) (cellA x i) := fun i hi => row_sm hr1 (by omega)
  have hsc : ∀ i, i < cs.length → (cs.getD i []).sum = sm (colsOf cs) (cellA cs i) := fun i hi => row_sm ok.okc.row hi
  have hcx : ∀ j, colTo x x.length j = sm cs.length fun i => cellA x i j := fun j => by unfold colTo; rw [range_sm, hl]; rfl
  have hcc : ∀ j, colTo cs cs.length j = sm cs.length fun i => cellA cs i j := fun j => by unfold colTo; rw [range_sm]; rfl
  have htx : totTo x x.length = sm cs.length fun i => sm (colsOf cs) (cellA x i) := by unfold totTo; rw [range_sm, hl]; exact sm_congr hsx
  have htc : totTo cs cs.length = sm cs.length fun i => sm (colsOf cs) (cellA cs i) := by unfold totTo; rw [range_sm]; exact sm_congr hsc
  have htc2 : totTo cs x.length = sm cs.length fun i => sm (colsOf cs) (cellA cs i) := by rw [hl]; exact htc
  have hlen : ∀ i, i < cs.length → (x.getD i []).length = colsOf cs := fun i hi => by
    have hx := List.getElem?_eq_getElem (l := x) (i := i) (by omega)
    rw [List.getD, hx]
    exact hr1 _ (List.mem_of_getElem? hx)
  unfold isrB
  simp only [Bool.and_eq_true]
  rw [allTo_iff, allTo_iff, allTo_iff, htx, htc2]
  constructor
  · rintro ⟨g1, g2, g3, g4, g5⟩
    refine ⟨fun i j hi hj => ?_, fun i hi => ?_, fun j hj => ?_, g5, fun f hf => ?_⟩
    · have := g2 i (by omega)
      unfold cellN nearRow at this
      rw [List.all_eq_true] at this
      exact this j (List.mem_range.2 (by rw [hlen i hi]; exact hj))
    · have := g3 i (by omega)
      unfold rowN at this
      rwa [hsx i hi, hsc i hi] at this
    · have := g4 j hj
      unfold colN at this
      rw [hl] at this
      have e1 := hcx j
      rw [hl] at e1
      rwa [e1, hcc j] at this
    · have := List.all_eq_true.1 g1 f hf
      unfold holdF at this
      simpa [cellA] using this
  · rintro ⟨g1, g2, g3, g4, g5⟩
    refine ⟨List.all_eq_true.2 fun f hf => ?_, fun i hi => ?_, fun i hi => ?_, fun j hj => ?_, g4⟩
    · have := g5 f hf
      unfold holdF
      simpa [cellA] using this
    · unfold cellN nearRow
      rw [List.all_eq_true]
      intro j hj
      have hj := List.mem_range.1 hj
      rw [hlen i (by omega)] at hj
      exact g1 i j (by omega) hj
    · unfold rowN
      rw [hsx i (by omega), hsc i (by omega)]
      exact g2 i (by omega)
    · unfold colN
      have e1 := hcx j
      rw [hl] at e1 ⊢
      rw [e1, hcc j]
      exact g3 j hj
theorem RF.congr {n m : Nat} {b : Int} {A A' C C' : Nat → Nat → Int} {fs : List Fx} (h : RF n m b A C fs) (ea : ∀ i j, i < n → j < m → A' i j = A i j) (ec : ∀ i j, i < n → j < m → C' i j = C i j) (hf : ∀ f ∈ fs, f.row.toNat < n ∧ f.col.toNat < m) : RF n m b A' C' fs := by
  refine ⟨fun i j hi hj => ?_, fun i hi => ?_, fun j hj => ?_, ?_, fun f hm => ?_⟩
  · rw [ea i j hi hj, ec i j hi hj]; exact h.cell i j hi hj
  · rw [sm_congr (g := A i) fun j hj => ea i j hi hj, sm_congr (f := C' i) (g := C i) fun j hj => ec i j hi hj]; exact h.row i hi
  · rw [sm_congr (g := fun i => A i j) fun i hi => ea i j hi hj, sm_congr (f := fun i => C' i j) (g := fun i => C i j) fun i hi => ec i j hi hj]; exact h.col j hj
  · rw [sm_congr (g := fun i => sm m (A i)) fun i hi => sm_congr fun j hj => ea i j hi hj, sm_congr (f := fun i => sm m (C' i)) (g := fun i => sm m (C i)) fun i hi => sm_congr fun j hj => ec i j hi hj]; exact h.tot
  · obtain ⟨h1, h2⟩ := hf f hm
    rw [ea _ _ h1 h2]; exact h.fix f hm
def swapF (f : Fx) : Fx := ⟨f.col, f.row, f.val⟩
theorem RF.turn {n m : Nat} {b : Int} {A C : Nat → Nat → Int} {fs : List Fx} (h : RF n m b A C fs) : RF m n b (fun j i => A i j) (fun j i => C i j) (fs.map swapF) := by
  refine ⟨fun j i hj hi => h.cell i j hi hj, fun j hj => h.col j hj, fun i hi => h.row i hi, ?_, fun f hf => ?_⟩
  · have := h.tot
    rwa [sm_comm A n m, sm_comm C n m] at this
  · obtain ⟨f0, hf0, rfl⟩ := List.mem_map.1 hf
    exact h.fix f0 hf0
/-- rows and columns exchanged -/
def turnT (n m : Nat) (l : List (List Int)) : List (List Int) := (List.range m).map fun j => (List.range n).map fun i => cellA l i j
theorem turn_cell {n m : Nat} {l : List (List Int)} {i j : Nat} (hi : i < n) (hj : j < m) : cellA (turnT n m l) j i = cellA l i j := by
  have e : (turnT n m l).getD j [] = (List.range n).map fun i => cellA l i j := by
    unfold turnT
    rw [List.getD, List.getElem?_map, List.getElem?_range hj]; rfl
  show ((turnT n m l).getD j []).getD i 0 = _
  rw [e, List.getD, List.getElem?_map, List.getElem?_range hi]; rfl
theorem turn_len (n m : Nat) (l : List (List Int)) : (turnT n m l).length = m := by simp [turnT]
theorem turn_row {n m : Nat} {l : List (List Int)} {r : List Int} (h : r ∈ turnT n m l) : r.length = n := by
  obtain ⟨j, _, rfl⟩ := List.mem_map.1 h
  simp
theorem turn_cols {n m : Nat} (l : List (List Int)) (hm : 0 < m) : colsOf (turnT n m l) = n := by
  have h := turn_len n m l
  cases hx : turnT n m l with
  | nil => rw [hx] at h; simp at h; omega
  | cons r t => exact turn_row (l := l) (m := m) (by rw [hx]; simp)
theorem cell_in {l : List (List Int)} {i j : Nat} {m : Nat} {p : Int → Prop} (h : ∀ r ∈ l, r.length = m ∧ ∀ x ∈ r, p x) (hi : i < l.length) (hj : j < m) : p (cellA l i j) := by
  have hx := List.getElem?_eq_getElem hi
  obtain ⟨h1, h2⟩ := h _ (List.mem_of_getElem? hx)
  have hy := List.getElem?_eq_getElem (l := l[i]) (i := j) (by omega)
  have : cellA l i j = (l[i])[j]'(by omega) := by unfold cellA; rw [show l.getD i [] = l[i] by rw [List.getD, hx]; rfl, List.getD, hy]; rfl
  rw [this]
  exact h2 _ (List.getElem_mem _)
/-- a table is what its cells are -/
theorem table_ext {n m : Nat} {x y : List (List Int)} (hx : x.length = n) (hy : y.length = n) (hx2 : ∀ r ∈ x, r.length = m) (hy2 : ∀ r ∈ y, r.length = m) (h : ∀ i j, i < n → j < m → cellA x i j = cellA y i j) : x = y := by
  refine List.ext_getElem (by omega) fun i h1 h2 => List.ext_getElem ?_ fun j h3 h4 => ?_
  · rw [hx2 _ (List.getElem_mem _), hy2 _ (List.getElem_mem _)]
  · have e1 := List.getElem?_eq_getElem h1
    have e2 := List.getElem?_eq_getElem h2
    have hj : j < m := by rw [← hx2 _ (List.getElem_mem h1)]; exact h3
    have := h i j (by omega) hj
    unfold cellA at this
    rw [show x.getD i [] = x[i] by rw [List.getD, e1]; rfl, show y.getD i [] = y[i] by rw [List.getD, e2]; rfl, List.getD, List.getElem?_eq_getElem h3, List.getD, List.getElem?_eq_getElem h4] at this
    exact this
theorem turn_turn {n m : Nat} {x : List (List Int)} (hx : x.length = n) (hx2 : ∀ r ∈ x, r.length = m) : turnT m n (turnT n m x) = x :=
  table_ext (n := n) (m := m) (turn_len _ _ _) hx (fun r h => turn_row h) hx2 fun i j hi hj => by rw [turn_cell hj hi, turn_cell hi hj]
theorem chk_turn {b : Int} {cs : List (List Int)} {fs : List Fx} (h : chkE b cs fs = 0) (h4 : cs.length ≤ 4) (hf10 : fs.length ≤ 10) : chkE b (turnT cs.length (colsOf cs) cs) (fs.map swapF) = 0 := by
  have ok := chk_ok h
  have hc1 := ok.okc.c1
  have hcols := turn_cols (n := cs.length) (m := colsOf cs) cs (by omega)
  have hb1 := ok.okc.b1
  have hb2 := ok.okc.b2
  refine chk_fine ⟨by rw [turn_len]; have := ok.okc.c2; omega, by simpa using hf10, fun xs hx => by rw [turn_row hx]; exact h4⟩ (by simp [withinB]; omega) (by rw [hcols]; have := ok.okc.n1; omega) (fun xs hx => ?_) (fun f hf => ?_)
  · unfold rowB
    rw [Bool.and_eq_true]
    refine ⟨by rw [turn_row hx, hcols]; simp, List.all_eq_true.2 fun v hv => ?_⟩
    obtain ⟨j, hj, rfl⟩ := List.mem_map.1 hx
    obtain ⟨i, hi, rfl⟩ := List.mem_map.1 hv
    have := cell_in (l := cs) (m := colsOf cs) (p := fun x => 0 ≤ x ∧ x ≤ 10000) (fun r hr => ⟨ok.okc.row r hr, ok.okc.cell r hr⟩) (List.mem_range.1 hi) (List.mem_range.1 hj)
    simp [withinB]; omega
  · obtain ⟨f0, hf0, rfl⟩ := List.mem_map.1 hf
    unfold chkE at h
    split at h
    · cases h
    · split at h
      · cases h
      · rename_i h2
        simp only [Bool.or_eq_true, Bool.not_eq_true', not_or, Bool.not_eq_false] at h2
        have := List.all_eq_true.1 h2.2 f0 hf0
        simp only [fixOkB, withinB, Bool.and_eq_true, decide_eq_true_eq] at this
        rw [hcols, turn_len]
        simp only [fixOkB, withinB, swapF, Bool.and_eq_true]
        exact ⟨⟨decide_eq_true (by omega), decide_eq_true (by omega)⟩, decide_eq_true (by omega)⟩
theorem chk_ten {b : Int} {cs : List (List Int)} {fs : List Fx} (h : chkE b cs fs = 0) : fs.length ≤ 10 := by
  unfold chkE at h
  split at h
  · cases h
  · rename_i h1
    simp only [Bool.or_eq_true, Bool.not_eq_true', not_or, Bool.not_eq_false, decide_eq_true_eq] at h1
    omega
/-- a rounding, turned -/
theorem turn_isR {b : Int} {cs : List (List Int)} {fs : List Fx} {x : List (List Int)} (h : chkE b cs fs = 0) (h4 : cs.length ≤ 4) (hx : IsR b cs fs x) : IsR b (turnT cs.length (colsOf cs) cs) (fs.map swapF) (turnT cs.length (colsOf cs) x) := by
  have ok := chk_ok h
  have ha := hx.alike ok
  obtain ⟨hl, hr⟩ := alike_rows ha
  have hcols := turn_cols (n := cs.length) (m := colsOf cs) cs (by have := ok.okc.c1; omega)
  have hf := chk_fix_of h
  have ha2 : alikeB (turnT cs.length (colsOf cs) cs).length (colsOf (turnT cs.length (colsOf cs) cs)) (turnT cs.length (colsOf cs) x) = true := by
    unfold alikeB
    rw [turn_len, hcols, Bool.and_eq_true]
    refine ⟨by simp [turn_len], List.all_eq_true.2 fun r hr' => ?_⟩
    unfold rowB
    rw [Bool.and_eq_true]
    refine ⟨by rw [turn_row hr']; simp, List.all_eq_true.2 fun v hv => ?_⟩
    obtain ⟨j, hj, rfl⟩ := List.mem_map.1 hr'
    obtain ⟨i, hi, rfl⟩ := List.mem_map.1 hv
    have hi2 : i < x.length := by rw [hl]; exact List.mem_range.1 hi
    have := cell_in (l := x) (m := colsOf cs) (p := fun x => 0 ≤ x ∧ x ≤ 10100) hr hi2 (List.mem_range.1 hj)
    simp [withinB]; omega
  rw [isR_RF (chk_turn h h4 (chk_ten h)) ha2, turn_len, hcols]
  refine ((isR_RF h ha).1 hx).turn.congr (fun j i hj hi => turn_cell hi hj) (fun j i hj hi => turn_cell hi hj) fun f hm => ?_
  obtain ⟨f0, hf0, rfl⟩ := List.mem_map.1 hm
  have := hf f0 hf0
  simp only [swapF]
  omega
theorem change_sm {n m : Nat} {x cs : List (List Int)} (hx : x.length = n) (hx2 : ∀ r ∈ x, r.length = m) : changeOf x cs = sm n fun i => sm m fun j => awayOf (cellA x i j) (cellA cs i j) := by
  unfold changeOf chgTo
  rw [range_sm, hx]
  refine sm_congr fun i hi => ?_
  unfold rowCost costTo
  have e := List.getElem?_eq_getElem (l := x) (i := i) (by omega)
  have hl : (x.getD i []).length = m := by rw [List.getD, e]; exact hx2 _ (List.mem_of_getElem? e)
  rw [range_sm, hl]; rfl
theorem turn_change {n m : Nat} {x cs : List (List Int)} (hx : x.length = n) (hx2 : ∀ r ∈ x, r.length = m) : changeOf (turnT n m x) (turnT n m cs) = changeOf x cs := by
  rw [change_sm hx hx2, change_sm (turn_len n m x) (fun r h => turn_row h), sm_comm]
  exact sm_congr fun i hi => sm_congr fun j hj => by rw [turn_cell hi hj, turn_cell hi hj]
section
variable {b : Int} {cs : List (List Int)} {fs : List Fx}
theorem turn_le (h : chkE b cs fs = 0) (h4 : cs.length ≤ 4) : (rnds b cs fs cs.length zeroS).length ≤ (rnds b (turnT cs.length (colsOf cs) cs) (fs.map swapF) (turnT cs.length (colsOf cs) cs).length zeroS).length := by
  have ok := chk_ok h
  have hsh : ∀ x, x ∈ rnds b cs fs cs.length zeroS → x.length = cs.length ∧ ∀ r ∈ x, r.length = colsOf cs := fun x hx => by
    have ha := alike_rows ((rnds_isR.1 hx).alike ok)
    exact ⟨ha.1, fun r hr => (ha.2 r hr).1⟩
  have hn : ((rnds b cs fs cs.length zeroS).map (turnT cs.length (colsOf cs))).Nodup := by
    refine List.pairwise_map.2 (List.Pairwise.imp_of_mem (fun {x y} hx hy hne e => hne ?_) (rnds_nodup ok.okc.b1 cs fs cs.length zeroS))
    rw [← turn_turn (hsh x hx).1 (hsh x hx).2, ← turn_turn (hsh y hy).1 (hsh y hy).2, e]
  have := nodup_le hn (l' := rnds b (turnT cs.length (colsOf cs) cs) (fs.map swapF) (turnT cs.length (colsOf cs) cs).length zeroS) fun y hy => by
    obtain ⟨x, hx, rfl⟩ := List.mem_map.1 hy
    exact rnds_isR.2 (turn_isR h h4 (rnds_isR.1 hx))
  rwa [List.length_map] at this
theorem swap_swap : ∀ (fs : List Fx), (fs.map swapF).map swapF = fs
  | [] => rfl
  | f :: fs => by
    rw [List.map_cons, List.map_cons, swap_swap fs]; rfl
/-- as many roundings, and the same smallest change -/
theorem turn_same (h : chkE b cs fs = 0) (h4 : cs.length ≤ 4) :
    (spec b (turnT cs.length (colsOf cs) cs) (fs.map swapF) (turnT cs.length (colsOf cs) cs).length zeroS).ways = (spec b cs fs cs.length zeroS).ways ∧
    ((spec b cs fs cs.length zeroS).ways ≠ 0 → (spec b (turnT cs.length (colsOf cs) cs) (fs.map swapF) (turnT cs.length (colsOf cs) cs).length zeroS).change = (spec b cs fs cs.length zeroS).change) := by
  have ok := chk_ok h
  have h' := chk_turn h h4 (chk_ten h)
  have ok' := chk_ok h'
  have hcols := turn_cols (n := cs.length) (m := colsOf cs) cs (by have := ok.okc.c1; omega)
  have hlen := turn_len cs.length (colsOf cs) cs
  have hback := turn_turn (n := cs.length) (m := colsOf cs) (x := cs) rfl ok.okc.row
  have h4' : (turnT cs.length (colsOf cs) cs).length ≤ 4 := by rw [hlen]; exact ok.okc.c2
  have l1 := turn_le h h4
  have l2 := turn_le h' h4'
  rw [hcols, hlen, hback, swap_swap] at l2
  have hw : (spec b (turnT cs.length (colsOf cs) cs) (fs.map swapF) (turnT cs.length (colsOf cs) cs).length zeroS).ways = (spec b cs fs cs.length zeroS).ways := by
    rw [ways_len, ways_len]
    rw [hlen] at l1 ⊢
    omega
  refine ⟨hw, fun hne => ?_⟩
  have hne' : (spec b (turnT cs.length (colsOf cs) cs) (fs.map swapF) (turnT cs.length (colsOf cs) cs).length zeroS).ways ≠ 0 := by rw [hw]; exact hne
  have r1 := best_isR hne
  have r2 := best_isR hne'
  have s1 := alike_rows (r1.alike ok)
  have s2 := alike_rows (r2.alike ok')
  obtain ⟨_, e1⟩ := best_plain hne
  obtain ⟨_, e2⟩ := best_plain hne'
  have t1 := (least_plain ok.okc.b1 hne' (turn_isR h h4 r1)).1
  have q2 := turn_isR h' h4' r2
  rw [hcols, hlen, hback, swap_swap] at q2
  have t2 := (least_plain ok.okc.b1 hne q2).1
  rw [turn_change s1.1 (fun r hr => (s1.2 r hr).1), ← e1] at t1
  have e3 := turn_change (n := (turnT cs.length (colsOf cs) cs).length) (m := colsOf (turnT cs.length (colsOf cs) cs)) (cs := turnT cs.length (colsOf cs) cs) s2.1 (fun r hr => (s2.2 r hr).1)
  rw [← e2, hcols, hlen, hback] at e3
  rw [hlen] at t1 ⊢
  omega
end
end Go.Proofs.Ytgoianldiomdoaa
/- A further fix, in plain words. -/
namespace Go.Proofs.Ytgoianldiomdoaa

theorem isR_more {b : Int} {cs : List (List Int)} {fs : List Fx} {f : Fx} {x : List (List Int)} (hc : chkE b cs (fs ++ [f]) = 0) (hc0 : chkE b cs fs = 0) (ha : alikeB cs.length (colsOf cs) x = true) :
    IsR b cs (fs ++ [f]) x ↔ IsR b cs fs x ∧ cellA x f.row.toNat f.col.toNat = f.val := by
  rw [isR_RF hc ha, isR_RF hc0 ha]
  constructor
  · intro h
    exact ⟨⟨h.cell, h.row, h.col, h.tot, fun g hg => h.fix g (by simp [hg])⟩, h.fix f (by simp)⟩
  · rintro ⟨h, hf⟩
    refine ⟨h.cell, h.row, h.col, h.tot, fun g hg => ?_⟩
    rcases List.mem_append.1 hg with hg | hg
    · exact h.fix g hg
    · simp at hg; subst hg; exact hf
section
variable {b : Int} {cs : List (List Int)} {fs : List Fx} {f : Fx}
theorem more_le (hc : chkE b cs (fs ++ [f]) = 0) (hc0 : chkE b cs fs = 0) :
    (spec b cs (fs ++ [f]) cs.length zeroS).ways ≤ (spec b cs fs cs.length zeroS).ways ∧
    ((spec b cs (fs ++ [f]) cs.length zeroS).ways ≠ 0 → (spec b cs fs cs.length zeroS).ways ≠ 0 ∧ (spec b cs fs cs.length zeroS).change ≤ (spec b cs (fs ++ [f]) cs.length zeroS).change) := by
  have ok := chk_ok hc
  have ok0 := chk_ok hc0
  have hsub : ∀ x, x ∈ rnds b cs (fs ++ [f]) cs.length zeroS → x ∈ rnds b cs fs cs.length zeroS := fun x hx => by
    have hR := rnds_isR.1 hx
    exact rnds_isR.2 ((isR_more hc hc0 (hR.alike ok)).1 hR).1
  have hle := nodup_le (rnds_nodup ok.okc.b1 cs (fs ++ [f]) cs.length zeroS) hsub
  refine ⟨by rw [ways_len, ways_len]; omega, fun hw => ?_⟩
  have hw0 : (spec b cs fs cs.length zeroS).ways ≠ 0 := by rw [ways_len] at hw ⊢; omega
  refine ⟨hw0, ?_⟩
  rw [(best_plain hw).2]
  exact (least_plain ok.okc.b1 hw0 (rnds_isR.1 (hsub _ (best_plain hw).1.mem))).1
/-- the value of one cell over all roundings -/
theorem cell_near (hc0 : chkE b cs fs = 0) {x : List (List Int)} (hx : IsR b cs fs x) {r c : Nat} (hr : r < cs.length) (hcl : c < colsOf cs) : cellA x r c = lowOf b (cellA cs r c) ∨ cellA x r c = highOf b (cellA cs r c) := by
  have := ((isR_RF hc0 (hx.alike (chk_ok hc0))).1 hx).cell r c hr hcl
  unfold nearB at this
  simp only [Bool.or_eq_true, beq_iff_eq] at this
  exact or_of this Eq.symm Eq.symm
theorem chk_more (hc0 : chkE b cs fs = 0) {r c : Nat} {v : Int} (hr : r < cs.length) (hcl : c < colsOf cs) (hv : 0 ≤ v ∧ v ≤ 10100) (h10 : fs.length + 1 ≤ 10) : chkE b cs (fs ++ [⟨(r : Int), (c : Int), v⟩]) = 0 := by
  have ok := chk_ok hc0
  have hb1 := ok.okc.b1
  have hb2 := ok.okc.b2
  refine chk_fine ⟨ok.okc.n2, by simp; omega, fun xs hx => by rw [ok.okc.row xs hx]; exact ok.okc.c2⟩ (by simp [withinB]; omega) (by have := ok.okc.c1; omega) (fun xs hx => ?_) (fun g hg => ?_)
  · unfold rowB
    rw [Bool.and_eq_true]
    refine ⟨by rw [ok.okc.row xs hx]; simp, List.all_eq_true.2 fun v hv => ?_⟩
    have := ok.okc.cell xs hx v hv
    simp [withinB]; omega
  · rcases List.mem_append.1 hg with hg | hg
    · unfold chkE at hc0
      split at hc0
      · cases hc0
      · split at hc0
        · cases hc0
        · rename_i h2
          simp only [Bool.or_eq_true, Bool.not_eq_true', not_or, Bool.not_eq_false] at h2
          exact List.all_eq_true.1 h2.2 g hg
    · simp at hg
      subst hg
      simp only [fixOkB, withinB, Bool.and_eq_true]
      exact ⟨⟨decide_eq_true (by omega), decide_eq_true (by omega)⟩, decide_eq_true (by omega)⟩
theorem cell_bounds (hc0 : chkE b cs fs = 0) {r c : Nat} (hr : r < cs.length) (hcl : c < colsOf cs) : 0 ≤ cellA cs r c ∧ cellA cs r c ≤ 10000 :=
  cell_in (l := cs) (m := colsOf cs) (p := fun x => 0 ≤ x ∧ x ≤ 10000) (fun r hr => ⟨(chk_ok hc0).okc.row r hr, (chk_ok hc0).okc.cell r hr⟩) hr hcl
/-- a fix of a cell to each of its neighbours divides the roundings -/
theorem split_ways (hc0 : chkE b cs fs = 0) {r c : Nat} (hr : r < cs.length) (hcl : c < colsOf cs) (h10 : fs.length + 1 ≤ 10) :
    (cellA cs r c % b = 0 → (spec b cs (fs ++ [⟨r, c, lowOf b (cellA cs r c)⟩]) cs.length zeroS).ways = (spec b cs fs cs.length zeroS).ways ∧ (spec b cs (fs ++ [⟨r, c, highOf b (cellA cs r c)⟩]) cs.length zeroS).ways = (spec b cs fs cs.length zeroS).ways) ∧
    (cellA cs r c % b ≠ 0 → (spec b cs (fs ++ [⟨r, c, lowOf b (cellA cs r c)⟩]) cs.length zeroS).ways + (spec b cs (fs ++ [⟨r, c, highOf b (cellA cs r c)⟩]) cs.length zeroS).ways = (spec b cs fs cs.length zeroS).ways) := by
  have ok := chk_ok hc0
  have hb := ok.okc.b1
  have hb2 := ok.okc.b2
  have hcb := cell_bounds hc0 hr hcl
  have hl := low_le (x := cellA cs r c) hb
  have hl2 := low_near (x := cellA cs r c) hb
  have hh2 := high_near (x := cellA cs r c) hb
  have hl0 := lowOf_bound hb hcb.1
  have hh0 := highOf_bound hb hcb.1
  have cl := chk_more (v := lowOf b (cellA cs r c)) hc0 hr hcl (by omega) h10
  have ch := chk_more (v := highOf b (cellA cs r c)) hc0 hr hcl (by omega) h10
  have mem : ∀ (v : Int), chkE b cs (fs ++ [⟨(r : Int), (c : Int), v⟩]) = 0 → ∀ x, x ∈ rnds b cs (fs ++ [⟨(r : Int), (c : Int), v⟩]) cs.length zeroS ↔ x ∈ rnds b cs fs cs.length zeroS ∧ cellA x r c = v := by
    intro v hv x
    rw [rnds_isR, rnds_isR]
    constructor
    · intro h
      have := (isR_more hv hc0 (h.alike (chk_ok hv))).1 h
      exact ⟨this.1, by simpa using this.2⟩
    · rintro ⟨h1, h2⟩
      exact (isR_more hv hc0 (h1.alike ok)).2 ⟨h1, by simpa using h2⟩
  have ml := mem _ cl
  have mh := mem _ ch
  have nl := rnds_nodup hb cs (fs ++ [⟨(r : Int), (c : Int), lowOf b (cellA cs r c)⟩]) cs.length zeroS
  have nh := rnds_nodup hb cs (fs ++ [⟨(r : Int), (c : Int), highOf b (cellA cs r c)⟩]) cs.length zeroS
  have n0 := rnds_nodup hb cs fs cs.length zeroS
  simp only [ways_len]
  generalize rnds b cs (fs ++ [⟨(r : Int), (c : Int), lowOf b (cellA cs r c)⟩]) cs.length zeroS = L at *
  generalize rnds b cs (fs ++ [⟨(r : Int), (c : Int), highOf b (cellA cs r c)⟩]) cs.length zeroS = U at *
  have hv : ∀ x, x ∈ rnds b cs fs cs.length zeroS → cellA x r c = lowOf b (cellA cs r c) ∨ cellA x r c = highOf b (cellA cs r c) := fun x hx => cell_near hc0 (rnds_isR.1 hx) hr hcl
  generalize rnds b cs fs cs.length zeroS = R at *
  constructor
  · intro hz
    have e1 := low_mult hz
    have e2 := high_mult hb hz
    have all1 : ∀ x, x ∈ R → x ∈ L := fun x hx => (ml x).2 ⟨hx, by rcases hv x hx with h | h <;> omega⟩
    have all2 : ∀ x, x ∈ R → x ∈ U := fun x hx => (mh x).2 ⟨hx, by rcases hv x hx with h | h <;> omega⟩
    have a1 := nodup_le n0 all1
    have a2 := nodup_le n0 all2
    have a3 := nodup_le nl fun x hx => ((ml x).1 hx).1
    have a4 := nodup_le nh fun x hx => ((mh x).1 hx).1
    omega
  · intro hz
    have hne : lowOf b (cellA cs r c) ≠ highOf b (cellA cs r c) := by
      have e1 : lowOf b (cellA cs r c) = cellA cs r c - cellA cs r c % b := rfl
      have := Int.emod_nonneg (cellA cs r c) (show b ≠ 0 by omega)
      omega
    have hd : (L ++ U).Nodup := List.nodup_append.2 ⟨nl, nh, fun x hx y hy e => by
      subst e
      have := ((ml x).1 hx).2
      have := ((mh x).1 hy).2
      omega⟩
    have a1 := nodup_le hd (l' := R) fun x hx => (List.mem_append.1 hx).elim (fun h => ((ml x).1 h).1) (fun h => ((mh x).1 h).1)
    have a2 := nodup_le n0 (l' := L ++ U) fun x hx => List.mem_append.2 (or_of (hv x hx) (fun h => (ml x).2 ⟨hx, h⟩) (fun h => (mh x).2 ⟨hx, h⟩))
    rw [List.length_append] at a1 a2
    omega
theorem high_as {n b : Int} (hb : 2 ≤ b) : n + (b - n % b) % b = highOf b n := by
  have h1 := Int.emod_nonneg n (show b ≠ 0 by omega)
  have h2 := Int.emod_lt_of_pos n (show 0 < b by omega)
  by_cases hz : n % b = 0
  · rw [high_mult hb hz, hz, Int.sub_zero, Int.emod_self]; omega
  · rw [Int.emod_eq_of_lt (by omega) (by omega)]
    have e : highOf b n = n + b - 1 - (n + b - 1) % b := rfl
    have : (n + b - 1) % b = n % b - 1 := by
      have := Int.mul_ediv_add_emod n b
      rw [show n + b - 1 = (n % b - 1) + b * (n / b + 1) by rw [Int.mul_add, Int.mul_one]; omega, Int.add_mul_emod_self_left]
      exact Int.emod_eq_of_lt (by omega) (by omega)
    omega
end
end Go.Proofs.Ytgoianldiomdoaa
/- A copy of a table's fixes, with one more. -/
namespace Go.Proofs.Ytgoianldiomdoaa
open Go.RowKit Go.Shelf

theorem fixes_cells {W : World} {n : Nat} {a : Addr} {fs : List Fx} (h : IsFixes W n (some a) fs) : ∀ (j : Nat) (u : Value), (fxs fs)[j]? = some u → W.cell? (a.add j) = some u := by
  intro j u hj
  obtain ⟨k, r, hk, hr⟩ : ∃ k r, j = k * 3 + r ∧ r < 3 := ⟨j / 3, j % 3, by omega, by omega⟩
  subst hk
  have hlt : k < fs.length := by
    have := (List.getElem?_eq_some_iff.1 hj).1
    rw [fxs_len] at this
    omega
  have hf := List.getElem?_eq_getElem hlt
  obtain ⟨a', e, _, c0, c1, c2⟩ := h k _ hf
  injection e with e
  subst e
  obtain ⟨d0, d1, d2⟩ := fxs_at fs k _ hf
  have hr3 : r = 0 ∨ r = 1 ∨ r = 2 := by omega
  rcases hr3 with rfl | rfl | rfl
  · rw [Nat.add_zero, d0] at hj
    injection hj with hj
    subst hj
    exact c0
  · rw [d1] at hj
    injection hj with hj
    subst hj
    rw [add_next a (k * 3) 1 (by decide)]; exact c1
  · rw [d2] at hj
    injection hj with hj
    subst hj
    rw [add_next a (k * 3) 2 (by decide)]; exact c2
theorem fixes_one (fs : List Fx) : ∀ u ∈ fxs fs, u.oneCell' = true := fun u hu => by
  obtain ⟨f, _, hf⟩ := List.mem_flatMap.1 hu
  simp only [fxCells, List.mem_cons, List.not_mem_nil, or_false] at hf
  rcases hf with rfl | rfl | rfl <;> rfl
/-- the fixes behind an empty list of the call's own: only new memory -/
theorem copy_fixes {W : World} {base g0 : Nat} {A2 : Option Addr} {c2 : Nat} {fs : List Fx} (hx : IsFixes W W.heap.size A2 fs) (hg : Blk W g0 64 #[]) (h0 : base ≤ g0) (hs : fs.length * 24 ≤ 140737488351232) :
    ∃ v' w', (Builtin.append_ #[23, 23] 23 #[.slice (some ⟨g0, 0, none⟩) 0 0, .slice A2 fs.length c2]).run Try.prog W = .ok v' w' ∧ w'.ownsRow base 64 3 v' fs.length (fxs fs) ∧ Below W.heap.size W w' := by
  obtain ⟨i0, hi0, hz0, hz1, hz2⟩ := info_parts rfix_info
  have hown : W.ownsRow base 64 3 (.slice (some ⟨g0, 0, none⟩) 0 0) 0 [] := ⟨rfl, .inr ⟨g0, 0, #[], rfl, h0, hg, Nat.le_refl _, Nat.zero_le _, rfl, rfl⟩⟩
  cases A2 with
  | none =>
    have hfs : fs = [] := by
      cases fs with
      | nil => rfl
      | cons f l => obtain ⟨a, e, _⟩ := hx 0 f rfl; cases e
    subst hfs
    exact ⟨_, _, run_append_nothing (P := Try.prog) W 23 23 23 64 i0 Try.underlying23 hi0 (some ⟨g0, 0, none⟩) 0 0 (Nat.le_refl _) _ (Src.ofNil W Try.underlying23 c2), hown, Below.refl _ _⟩
  | some a =>
    have hcells := fixes_cells hx
    have hlen : (fxs fs).length = fs.length * i0.size := by rw [hz1]; exact fxs_len fs
    by_cases hn : fs.length = 0
    · have hfs : fs = [] := List.eq_nil_of_length_eq_zero hn
      subst hfs
      exact ⟨_, _, run_append_nothing (P := Try.prog) W 23 23 23 64 i0 Try.underlying23 hi0 (some ⟨g0, 0, none⟩) 0 0 (Nat.le_refl _) _ (Src.ofSlice W Try.underlying23 a 0 c2 [] (by simp) (fun j u h => by simp at h) (fun u h => by simp at h)), hown, Below.refl _ _⟩
    · obtain ⟨v', w', hrun, hown', _, _, _⟩ := run_append_own_at (P := Try.prog) W base 23 23 64 i0 (.agg #[.int .i64 0, .int .i64 0, .int .i64 0]) 3 24 Try.underlying23 hi0 hz0 hz1 hz2 rfl (by decide) _ 0 [] hown a fs.length c2 (fxs fs) (fxs_len fs) hcells (fixes_one fs) (by simp only [maxLen]; omega) (by omega) (by have := hg.lt; omega)
      have hr2 := run_append_grow (P := Try.prog) W 23 23 64 i0 (.agg #[.int .i64 0, .int .i64 0, .int .i64 0]) Try.underlying23 hi0 hz0 ⟨g0, 0, none⟩ 0 0 [] (by simp) (fun j v h => by simp at h) a fs.length c2 (fxs fs) hlen hcells (by omega) (by omega) (by
        rw [hz2, nextslicecap_zero (by omega)]
        omega)
      rw [hrun] at hr2
      injection hr2 with e1 e2
      rw [Nat.zero_add, List.nil_append] at hown'
      refine ⟨v', w', hrun, hown', ?_⟩
      rw [e2]
      exact ((Below.refl _ _).drew).alloc (Nat.le_refl _) _
/-- one more is appended, and the row stored into the table's box -/
theorem fix_done {W1 W2 w7 : World} {Bx n : Nat} {u0 u1 u2 v3 v' : Value} {vs : List Value} {fs : List Fx} {f : Fx} (hbx : Blk W1 Bx 25 #[u0, u1, u2]) (hb : Below W1.heap.size W1 W2)
    (ho : W2.ownsRow W1.heap.size 64 3 v3 n vs) (hg : W2.grownBy w7 v3.ownBlock) (hr : w7.ownsRow W1.heap.size 64 3 v' (fs.length + 1) (fxs fs ++ fxCells f)) :
    Blk w7 Bx 25 #[u0, u1, u2] ∧ Blk (w7.setCell ⟨Bx, 2, none⟩ v') Bx 25 #[u0, u1, v'] ∧ (∃ A3 c3, v' = .slice A3 (fs.length + 1) c3 ∧ (w7.setCell ⟨Bx, 2, none⟩ v').ownsRow W1.heap.size 64 3 (.slice A3 (fs.length + 1) c3) (fs.length + 1) (fxs (fs ++ [f]))) ∧
      (∀ g t cs, Blk W1 g t cs → g ≠ Bx → Blk (w7.setCell ⟨Bx, 2, none⟩ v') g t cs) ∧ (∀ w, Below w.heap.size w W1 → w.heap.size ≤ Bx → Below w.heap.size w (w7.setCell ⟨Bx, 2, none⟩ v')) ∧
      (∀ base v m us, W1.ownsRow base 64 3 v m us → (w7.setCell ⟨Bx, 2, none⟩ v').ownsRow base 64 3 v m us) := by
  have hb7 := below_row' hb ho (Nat.le_refl _) hg hb.size
  have hx7 := hbx.keep hb7
  have hgs := grown_of_set w7 ⟨Bx, 2, none⟩ v'
  have hk : Keep (fun q => q = Bx) w7 (w7.setCell ⟨Bx, 2, none⟩ v') := Keep.of_grown hgs rfl
  have ho8 := hr.kept hgs (own_ne hr (blk_not hx7 (by decide)))
  rw [← fxs_snoc] at ho8
  obtain ⟨g6, c6, e6⟩ := Go.ownsRow_succ ho8
  refine ⟨hx7, hx7.set_ 2 v', ⟨some ⟨g6, 0, none⟩, c6, e6, by rw [← e6]; exact ho8⟩, fun g t cs hg1 hne => hk.blk (hg1.keep hb7) hne, fun w hw hwb => (hw.trans (hb7.mono hw.size)).setCell (p := ⟨Bx, 2, none⟩) hwb _, fun base v m us h => ?_⟩
  have h7 := row_kept (vo := .slice none 0 0) h (grown_of_below hb7 _) (.inl rfl)
  exact h7.kept hgs (own_ne h7 (blk_not hx7 (by decide)))
theorem fx_cells (f : Fx) : ∀ u ∈ fxCells f, u.oneCell' = true := fun u hu => by
  simp only [fxCells, List.mem_cons, List.not_mem_nil, or_false] at hu
  rcases hu with rfl | rfl | rfl <;> rfl
theorem fx_at {W : World} {g : Nat} {f : Fx} (h : Blk W g 64 #[.int .i64 f.row, .int .i64 f.col, .int .i64 f.val]) : ∀ (j : Nat) (u : Value), (fxCells f)[j]? = some u → W.cell? ((⟨g, 0, none⟩ : Addr).add j) = some u := by
  intro q u hq
  rw [add_blk]
  obtain ⟨n0, n1, n2⟩ := h.c3
  match q, hq with
  | 0, hq => injection hq with hq; subst hq; exact n0
  | 1, hq => injection hq with hq; subst hq; exact n1
  | 2, hq => injection hq with hq; subst hq; exact n2
  | q + 3, hq => simp [fxCells] at hq
end Go.Proofs.Ytgoianldiomdoaa
