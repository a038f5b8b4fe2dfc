/- The walks and the plain laws of this part of the program, part 13: what each computes. Conditions stand at each theorem. -/
import Derived.Deep.Cut
import Derived.Test.YtlnamjhgbdacbaaGreatK1
import Derived.Test.YtlnamjhgbdacbaaGreatK2
import Derived.Test.YtlnamjhgbdacbaaGreatK3
import Derived.Test.YtlnamjhgbdacbaaGreatK6
import Derived.Test.YtlnamjhgbdacbaaGreatK8
import Derived.Test.YtlnamjhgbdacbaaGreatK12
/- The way from a place to a goal. Conditions stand at each theorem. -/
namespace Go.Proofs.YtlnamjhgbdacbaaGreat
open Go.RowKit Go.Shelf

def intsN (l : List Nat) : List Int := l.map fun n : Nat => (n : Int)
theorem intsN_len (l : List Nat) : (intsN l).length = l.length := by simp [intsN]
theorem intsN_snoc (l : List Nat) (c : Nat) : intsN (l ++ [c]) = intsN l ++ [(c : Int)] := by simp [intsN]
/-- a list of one number, just built -/
theorem own_one (W : World) (base : Nat) (x : Int) (hb : base ≤ W.heap.size) : (W.alloc (.cells #[.int .i64 x] 3)).ownsRow base 3 1 (.slice (some ⟨W.heap.size, 0, none⟩) 1 1) 1 [.int .i64 x] :=
  ⟨rfl, .inr ⟨W.heap.size, 1, #[.int .i64 x], rfl, hb, Blk.new _ _ _, Nat.le_refl _, by unfold maxLen; omega, rfl, rfl⟩⟩
/-- a result that is a path -/
def GivesPth (m : WMD) (a b : Nat) (w : World) (e : Ending) (w' : World) : Prop := ∃ l, Pth m a b l ∧ l.length ≤ 401 ∧ GivesInts (intsN l) w e w'
set_option maxRecDepth 100000 in
set_option maxHeartbeats 4000000 in
theorem wway_any {g mp : Nat} {m : WMD} {A A2 : Option Addr} {c c2 : Nat} {T F : Nat → Nat → Int} (w : World) (h : AtW w g mp m A c A2 c2 T F) (hN8 : m.N ≤ 8) (from_ to : Nat) (hf : from_ < m.N) (ht : to < m.N) (hd : ColI m to 400 (col T to) (col F to)) (hlt : T from_ to < farI) :
    Calls Tryz.prog 44 #[.pointer (some ⟨g, 0, none⟩), .int .i64 (from_ : Int), .int .i64 (to : Int)] w (GivesPth m from_ to w) := by
  have HA := hid h
  have HD := hid hd
  have hto := hd.fin from_ hf hlt
  have ho0 := own_one w w.heap.size (from_ : Int) (Nat.le_refl _)
  have hb0 := below_box (w := w) #[.int .i64 (from_ : Int)] 3
  have H0 := hid (And.intro ho0 hb0)
  clear h hd ho0 hb0
  go_enter Tryz.func44, Tryz.ntmps44
  go_wp2
  go_loopw [1, 7] (fun v o W => ∃ (n : Nat) (l : List Nat), v = .int .i64 (n : Int) ∧ n < m.N ∧ Pth m from_ n l ∧ T n to < farI ∧ (l.length : Int) + T n to ≤ 401 ∧ W.ownsRow w.heap.size 3 1 o l.length ((intsN l).map (Value.int .i64)) ∧ Below w.heap.size w W) (fun v _ _ => (T (intOf v).toNat to).toNat)
  case atStart => exact ⟨from_, [from_], rfl, hf, .one _, hlt, by have : col T to from_ = T from_ to := rfl; simp; omega, H0.out⟩
  case round =>
    clear H0
    obtain ⟨n, l, rfl, hn, hp, hln, hle, ho, hbr⟩ := hrel
    have HR := hid (And.intro ho hbr)
    have hn8 : n < 8 := by omega
    have ht8 : to < 8 := by omega
    have hn8I : (n : Int) < 8 := by omega
    have ht8I : (to : Int) < 8 := by omega
    clear ho hbr
    by_cases hnt : n = to
    · subst hnt
      have hq : ((n : Int) != (n : Int)) = false := by simp
      have hT0 := (HD.out.lo n hn).1
      obtain ⟨A7, c7, e7, r1, r2, r3, r4, r5⟩ := own_ints (intsN_len l).symm HR.out.1
      subst e7
      have HFIN := hid (show GivesPth m from_ n w (.returned (.slice A7 l.length c7)) wr from ⟨l, hp, by have : col T n n = T n n := rfl; omega, A7, c7, by rw [intsN_len], r1, r2, r3, r4, r5, HR.out.2⟩)
      rw [intsN_len]
      clear r1 r2 r3 r4 r5 HR hp
      go_wp2
      go_ret
      exact HFIN.out
    · have hq : ((n : Int) != (to : Int)) = true := by simp; omega
      obtain ⟨q, q1, q2, q3, q4⟩ := HD.out.via n hn hnt hln
      have q0 := (HD.out.lo q q1).1
      have hAt := HA.out.keep HR.out.2
      have a0 := hAt.first hn8 ht8
      rw [show F n to = (q : Int) from q2] at a0
      have HS := hid (show Pth m from_ q (l ++ [q]) ∧ T q to < farI ∧ T q to + 1 ≤ T n to ∧ 0 ≤ T q to ∧ q < m.N from ⟨hp.snoc q3, by have e1 : col T to q = T q to := rfl; have e2 : col T to n = T n to := rfl; omega, q4, q0, q1⟩)
      have HO := hid (HR.out.1.alloc (.cells #[.int .i64 (q : Int)] 3))
      have hl5 : l.length ≤ 401 := by have : col T to n = T n to := rfl; have := HS.out; omega
      have hsz := HR.out.2.size
      obtain ⟨i0, hi0, hz0, hz1, hz2⟩ := info_parts int_info
      clear hAt q0 q1 q2 q3 q4 hp
      go_wp2_with (at_builtin; refine wpList_append_own_at _ rfl _ _ 22 rfl w.heap.size 3 i0 (.int .i64 0) 1 8 Tryz.underlying22 hi0 hz0 hz1 hz2 rfl (by decide) u7 _ _ rfl HO.out ⟨wr.heap.size, 0, none⟩ 1 1 [.int .i64 (q : Int)] rfl rfl (by intro q u hq; cases q with | zero => simp at hq; subst hq; exact (World.cell?_alloc_new _ _ _ _) | succ q => simp at hq) (by intro u hu; simp at hu; subst hu; rfl) (by simp only [maxLen]; omega) (by omega) (by simp; omega) ?_; intro vo' w6 hown' hgrow _ hfr; have HNX := hid (show w6.ownsRow w.heap.size 3 1 vo' (l ++ [q]).length ((intsN (l ++ [q])).map (Value.int .i64)) ∧ Below w.heap.size w w6 from ⟨by rw [List.length_append, intsN_snoc, List.map_append]; exact hown', below_row' (HR.out.2.trans ((below_box _ _).mono HR.out.2.size)) HO.out (Nat.le_refl _) hgrow (by simp; omega)⟩); clear hown' hgrow hfr)
      go_roundw
      case rel => exact ⟨q, l ++ [q], rfl, HS.out.2.2.2.2, HS.out.1, HS.out.2.1, by have := HS.out; simp; omega, HNX.out⟩
      case measure => have := HS.out; simp [intOf]; omega
end Go.Proofs.YtlnamjhgbdacbaaGreat
/- The search for a division: what it finds in memory. Conditions stand at each theorem. -/
namespace Go.Proofs.YtlnamjhgbdacbaaGreat
open Go.RowKit Go.Shelf

theorem IsInts.chg {Z : Nat → Prop} {W W' : World} {n : Nat} {A : Option Addr} {xs : List Int} (h : IsInts W n A xs) (hc : MChg Z W W') (hz : ∀ a, A = some a → ¬ Z a.block) (hn : n ≤ W.heap.size) : IsInts W' W'.heap.size A xs := fun k x hk => by
  obtain ⟨a, e, hl, h0⟩ := h k x hk
  exact ⟨a, e, by have := hc.size; omega, hc.keep.cell h0 (by rw [block_of_add]; exact hz a e)⟩
theorem IsJns.chg {Z : Nat → Prop} {W W' : World} {n : Nat} {A : Option Addr} {js : List Jn} (h : IsJns W n A js) (hc : MChg Z W W') (hz : ∀ a, A = some a → ¬ Z a.block) (hn : n ≤ W.heap.size) : IsJns W' W'.heap.size A js := fun k x hk => by
  obtain ⟨a, e, hl, h0, h1⟩ := h k x hk
  have hb : ¬ Z (a.add (k * 2)).block := by rw [block_of_add]; exact hz a e
  exact ⟨a, e, by have := hc.size; omega, hc.keep.cell h0 hb, hc.keep.cell (a := ⟨(a.add (k * 2)).block, (a.add (k * 2)).off + 1, none⟩) h1 hb⟩
theorem TMem.chg {T : Nat → Nat → Int} {mp : Nat} {W W' : World} {Z : Nat → Prop} (h : TMem T mp W) (hc : MChg Z W W') (hz : ¬ Z mp) : TMem T mp W' := by
  obtain ⟨es, ck, h1, h2⟩ := h
  exact ⟨es, ck, (hc.block mp (Array.getElem?_eq_some_iff.1 h1).1 hz).trans h1, h2⟩
theorem TMem.ne {T : Nat → Nat → Int} {mp : Nat} {W : World} (h : TMem T mp W) {q ty : Nat} {cs : Array Value} (hb : Blk W q ty cs) : ¬ q = mp := fun e => by
  subst e
  obtain ⟨es, ck, h1, _⟩ := h
  rw [show W.heap[q]? = _ from hb] at h1
  cases h1
/-- sets in memory -/
structure SetsAt (W : World) (A : Option Addr) (L : List Nat) (c : Nat) : Prop where
  ints : IsInts W W.heap.size A (intsN L)
  cap : L.length ≤ c
  cm : c ≤ maxLen
  blk : ∀ a, A = some a → ∃ cs, Blk W a.block 111 cs
  no : A = none → L = [] ∧ c = 0
/-- what is known of one set -/
def SpV (m : WMD) (T : Nat → Nat → Int) (lim : Int) (i : Nat) (v : Value) (W : World) : Prop := ∃ A L c, v = .slice A L.length c ∧ SetsAt W A L c ∧ (A = none ∨ (i ≠ 0 ∧ Div m T lim i L))
/-- what the search finds in memory -/
structure SpM (g mp Z bb ab lb sb n : Nat) (m : WMD) (A : Option Addr) (c : Nat) (A2 : Option Addr) (c2 : Nat) (T F : Nat → Nat → Int) (lim : Int) (W : World) : Prop where
  at_ : AtW W g mp m A c A2 c2 T F
  tm : TMem T mp W
  wk : IsJns W W.heap.size A m.work
  wz : ∀ a, A = some a → a.block ≠ mp ∧ a.block ≠ Z
  b1 : Blk W bb 180 #[.slice (some ⟨Z, 0, none⟩) (n + 1) (n + 1)]
  b2 : Blk W ab 107 #[.pointer (some ⟨g, 0, none⟩)]
  b3 : Blk W lb 3 #[.int .i64 lim]
  b4 : Blk W sb 182 #[.func (.func 102) #[] #[.pointer (some ⟨bb, 0, none⟩), .pointer (some ⟨ab, 0, none⟩), .pointer (some ⟨lb, 0, none⟩), .pointer (some ⟨sb, 0, none⟩)]]
  z : ∃ cs, Blk W Z 108 cs ∧ ∀ i, i ≤ n → ∃ v, cs[i]? = some v ∧ SpV m T lim i v W
section
variable {g mp Z bb ab lb sb n i : Nat} {m : WMD} {A A2 : Option Addr} {c c2 : Nat} {T F : Nat → Nat → Int} {lim : Int} {W W' : World} {v : Value} {L : List Nat}
theorem SetsAt.chg {Y : Nat → Prop} (h : SetsAt W A L c) (hc : MChg Y W W') (hz : ∀ q cs, Blk W q 111 cs → ¬ Y q) : SetsAt W' A L c :=
  ⟨h.ints.chg hc (fun a ea => by obtain ⟨cs, hb⟩ := h.blk a ea; exact hz _ _ hb) (Nat.le_refl _), h.cap, h.cm, fun a ea => by obtain ⟨cs, hb⟩ := h.blk a ea; exact ⟨cs, hc.blk hb (hz _ _ hb)⟩, h.no⟩
theorem SetsAt.keep (h : SetsAt W A L c) (hb : Below W.heap.size W W') : SetsAt W' A L c := h.chg (MChg.of_below (Z := fun _ => False) hb) (fun _ _ _ h => h)
theorem SpV.chg {Y : Nat → Prop} (h : SpV m T lim i v W) (hc : MChg Y W W') (hz : ∀ q cs, Blk W q 111 cs → ¬ Y q) : SpV m T lim i v W' := by
  obtain ⟨A, L, c, e, hs, hd⟩ := h
  exact ⟨A, L, c, e, hs.chg hc hz, hd⟩
theorem SpM.gm (h : SpM g mp Z bb ab lb sb n m A c A2 c2 T F lim W) : ¬ g = mp := by
  obtain ⟨cs, hc, _⟩ := h.at_.blk
  exact h.tm.ne hc
theorem SpM.chg (h : SpM g mp Z bb ab lb sb n m A c A2 c2 T F lim W) (hc : MChg (fun q => q = mp) W W') (ht : TMem T mp W') : SpM g mp Z bb ab lb sb n m A c A2 c2 T F lim W' := by
  refine ⟨h.at_.chg hc h.gm, ht, h.wk.chg hc (fun a ea => (h.wz a ea).1) (Nat.le_refl _), h.wz, hc.blk h.b1 (h.tm.ne h.b1), hc.blk h.b2 (h.tm.ne h.b2), hc.blk h.b3 (h.tm.ne h.b3), hc.blk h.b4 (h.tm.ne h.b4), ?_⟩
  obtain ⟨cs, hz, hv⟩ := h.z
  refine ⟨cs, hc.blk hz (h.tm.ne hz), fun i hi => ?_⟩
  obtain ⟨v, hv1, hv2⟩ := hv i hi
  exact ⟨v, hv1, hv2.chg hc fun q cs hb => h.tm.ne hb⟩
theorem SpM.keep (h : SpM g mp Z bb ab lb sb n m A c A2 c2 T F lim W) (hb : Below W.heap.size W W') : SpM g mp Z bb ab lb sb n m A c A2 c2 T F lim W' := h.chg (MChg.of_below hb) (h.tm.keep hb)
/-- the answer for one set is stored -/
theorem SpM.put (h : SpM g mp Z bb ab lb sb n m A c A2 c2 T F lim W) (hv : SpV m T lim i v W) : SpM g mp Z bb ab lb sb n m A c A2 c2 T F lim (W.setCell ⟨Z, i, none⟩ v) := by
  have hc : MChg (fun q => q = Z) W (W.setCell ⟨Z, i, none⟩ v) := (MChg.refl (Z := fun q => q = Z) (A := W)).set rfl v
  obtain ⟨cs, hz, hvs⟩ := h.z
  obtain ⟨ca, hca, _⟩ := h.at_.blk
  refine ⟨h.at_.chg hc (Blk.ne_ hca hz (by decide)), h.tm.chg hc (fun e => h.tm.ne hz e.symm), h.wk.chg hc (fun a ea => (h.wz a ea).2) (Nat.le_refl _), h.wz, hc.blk h.b1 (Blk.ne_ h.b1 hz (by decide)), hc.blk h.b2 (Blk.ne_ h.b2 hz (by decide)), hc.blk h.b3 (Blk.ne_ h.b3 hz (by decide)), hc.blk h.b4 (Blk.ne_ h.b4 hz (by decide)), ?_⟩
  refine ⟨cs.setIfInBounds i v, hz.set_ i v, fun j hj => ?_⟩
  obtain ⟨u, hu1, hu2⟩ := hvs j hj
  have hY : ∀ q ds, Blk W q 111 ds → ¬ q = Z := fun q ds hb => Blk.ne_ hb hz (by decide)
  by_cases e : j = i
  · subst e
    exact ⟨v, by rw [Array.getElem?_setIfInBounds_self_of_lt (Array.getElem?_eq_some_iff.1 hu1).1], hv.chg hc hY⟩
  · exact ⟨u, by rw [Array.getElem?_setIfInBounds_ne (fun e' => e e'.symm)]; exact hu1, hu2.chg hc hY⟩
theorem SpM.cell (h : SpM g mp Z bb ab lb sb n m A c A2 c2 T F lim W) (hi : i ≤ n) : ∃ A0 L0 c0, W.cell? ⟨Z, i, none⟩ = some (.slice A0 L0.length c0) ∧ SetsAt W A0 L0 c0 ∧ (A0 = none ∨ (i ≠ 0 ∧ Div m T lim i L0)) := by
  obtain ⟨cs, hz, hv⟩ := h.z
  obtain ⟨v, hv1, A0, L0, c0, rfl, hs, hd⟩ := hv i hi
  exact ⟨A0, L0, c0, (hz.cell i).trans hv1, hs, hd⟩
end
/-- the search's answer for one set -/
def GivesSp (g mp Z bb ab lb sb n : Nat) (m : WMD) (A : Option Addr) (c : Nat) (A2 : Option Addr) (c2 : Nat) (T F : Nat → Nat → Int) (lim : Int) (s : Nat) (W : World) (e : Ending) (W' : World) : Prop :=
  ∃ A0 L0 c0, e = .returned (.slice A0 L0.length c0) ∧ SetsAt W' A0 L0 c0 ∧ (A0 = none ∨ (s ≠ 0 ∧ Div m T lim s L0)) ∧ SpM g mp Z bb ab lb sb n m A c A2 c2 T F lim W' ∧ MChg (fun q => q = mp ∨ q = Z) W W'
theorem set_info : (Tryz.prog.info? 111).map (fun i => (i.zero, i.size, i.bytes)) = some (some (.int .i64 0), 1, 8) := by kernel_rfl
theorem own_sets {w : World} {base n : Nat} {v : Value} {L : List Nat} (hn : n = L.length) (h : w.ownsRow base 111 1 v n ((intsN L).map (Value.int .i64))) :
    ∃ A c, v = .slice A L.length c ∧ SetsAt w A L c ∧ (∀ a, A = some a → base ≤ a.block) ∧ (L ≠ [] → A ≠ none) := by
  subst hn
  rcases h.2 with ⟨rfl, h0⟩ | ⟨g, cap, cur, rfl, hb, hg, h1, h2, h3, h4⟩
  · have : L = [] := List.eq_nil_of_length_eq_zero h0
    subst this
    exact ⟨none, 0, rfl, ⟨fun k x hk => by (simp [intsN] at hk), Nat.le_refl _, Nat.zero_le _, fun a e => by (cases e), fun _ => ⟨rfl, rfl⟩⟩, fun a e => by (cases e), fun e => absurd rfl e⟩
  · exact ⟨_, cap, rfl, ⟨fun k x hk => ⟨_, rfl, (Array.getElem?_eq_some_iff.1 hg).1, h.cells (g := g) rfl k _ (by simp [hk])⟩, h1, h2, fun a e => by (cases e; exact ⟨cur, hg⟩), fun e => by (cases e)⟩, fun a e => by (cases e; exact hb), fun _ e => by (cases e)⟩
set_option maxRecDepth 10000 in
set_option maxHeartbeats 400000 in
theorem wclone_any (A : Option Addr) (c : Nat) (L : List Nat) (w : World) (h : SetsAt w A L c) (hl : L.length ≤ 1000000) :
    Calls Tryz.prog 103 #[.slice A L.length c] w fun e w' => ∃ v, e = .returned v ∧ w'.ownsRow w.heap.size 111 1 v L.length ((intsN L).map (Value.int .i64)) ∧ Below w.heap.size w w' := by
  obtain ⟨i0, hi0, hz0, hz1, hz2⟩ := info_parts set_info
  have heq := fun (B : Option Addr) (n k : Nat) (W : World) => Lib.run_eql_slice_nil (P := Tryz.prog) W 108 111 B n k 0 0 Tryz.underlying108
  cases A with
  | none =>
    obtain ⟨rfl, rfl⟩ := h.no rfl
    clear h
    go_enter Tryz.func103, Tryz.ntmps103
    go_wp2
    go_ret
    exact ⟨_, rfl, ⟨rfl, .inl ⟨rfl, rfl⟩⟩, Below.refl _ _⟩
  | some a =>
    have hB := below_box (w := w) #[] 111
    have hnews := hid (ints_news (h.ints.at_ hB))
    have hown : (w.alloc (.cells #[] 111)).ownsRow w.heap.size 111 1 (.slice (some ⟨w.heap.size, 0, none⟩) 0 0) 0 [] := World.ownsRow_made w #[] 0 (Nat.le_refl _) (by simp [maxLen]) rfl
    have HO := hid hown
    clear h hown
    go_enter Tryz.func103, Tryz.ntmps103
    go_wp2_with (at_builtin; refine wpList_append_own_at _ rfl _ _ 108 rfl w.heap.size 111 i0 (.int .i64 0) 1 8 Tryz.underlying108 hi0 hz0 hz1 hz2 rfl (by decide) _ 0 [] rfl HO.out a L.length c ((intsN L).map (Value.int .i64)) rfl (by simp [intsN_len]) hnews.out (ints_one (intsN L)) (by simp only [maxLen]; omega) (by omega) (by simp) ?_; intro v' w1 hown' hgrow _ _)
    go_ret
    exact ⟨v', rfl, by simpa using hown', hB.grown hgrow (by simp) (fun k hk => by cases (show some w.heap.size = some k from hk); exact Nat.le_refl _)⟩
end Go.Proofs.YtlnamjhgbdacbaaGreat
/- The tour of one place. Conditions stand at each theorem. -/
namespace Go.Proofs.YtlnamjhgbdacbaaGreat
open Go.RowKit Go.Shelf

set_option maxHeartbeats 1000000 in
theorem append_none (W : World) (r q : Addr) (m : Nat) : (Builtin.append_ #[22, 22] 22 #[.slice (some r) 1 1, .slice (some q) 0 m]).run Tryz.prog W = .ok (.slice (some r) 1 1) W := by
  obtain ⟨i0, hi0, hz0, hz1, hz2⟩ := info_parts int_info
  exact run_append_nothing (P := Tryz.prog) W 22 22 22 3 i0 Tryz.underlying22 hi0 (some r) 1 1 (Nat.le_refl _) (.slice (some q) 0 m) (Src.ofSlice W Tryz.underlying22 q 0 m [] (by simp) (fun j u h => by simp at h) (fun u h => by simp at h))

set_option maxRecDepth 100000 in
set_option maxHeartbeats 4000000 in
theorem wtour_one {g mp : Nat} {A : Option Addr} {c : Nat} {f : Value} (w : World) (h : AtOne w g mp A c (.int .i64 0) f) (hm : TOne w mp) :
    Calls Tryz.prog 36 #[.pointer (some ⟨g, 0, none⟩), .int .i64 1] w fun e w' => (∃ b a c, e = .returned (.agg #[.slice (some ⟨b, 0, none⟩) 1 1, .slice (some a) 1 c])) ∧ Below w.heap.size w w' := by
  have hB := below_box (w := w) #[.slice none 0 0, .slice none 0 0] 73
  have hT := Blk.new w 73 #[.slice none 0 0, .slice none 0 0]
  have HA := hid h
  have HM := hid hm
  have HS := hid (And.intro hB hT)
  clear h hm hB hT
  go_enter Tryz.func36, Tryz.ntmps36
  go_upto_region 1 with (fail)
  refine gen (p := Code.wp _ _ _ _) (fun W => Below w.heap.size w W ∧ Blk W w.heap.size 73 #[.slice none 0 0, .slice none 0 0]) HS.out ?_
  clear HS
  rintro W1 h1
  have H1 := hid h1
  clear h1
  go_wp2
  obtain ⟨r, hr⟩ : ∃ r, W1.heap.size = r := ⟨_, rfl⟩
  refine gen (p := Code.wp _ _ _ _) (fun W => (Below w.heap.size w W ∧ Blk W w.heap.size 73 #[.slice none 0 0, .slice none 0 0]) ∧ Blk W (r + 1) 153 #[.int .i64 0, .int .i64 1]) ⟨⟨(H1.out.1.alloc H1.out.1.size _).alloc (by have := H1.out.1.size; simp; omega) _, (H1.out.2.alloc _).alloc _⟩, by have h := Blk.new (W1.alloc (.cells #[.int .i64 0] 3)) 153 #[.int .i64 0, .int .i64 1]; rw [World.size_alloc, hr] at h; exact h⟩ ?_
  have HR := hid (show w.heap.size < r by rw [← hr]; exact H1.out.2.lt)
  simp only [hr]
  clear hr H1
  rintro W2 h2
  have H2 := hid h2
  obtain ⟨s0, s1⟩ := h2.2.c2
  clear h2
  have hap := append_none
  have hln := leg_next
  have hbits : bits BinOp.andNot IntKind.i64 1 1 = 0 := by decide
  refine wp_loop_rounds 2 ?_
  rw [rounds_succ]
  go_wp2_with fail
  refine (wrest_hit W2 (HA.out.keep H2.out.1.1) (HM.out.keep H2.out.1.1)).mono ?_
  rintro e W3 ⟨rfl, hb3⟩
  have H3 := hid (show (Below w.heap.size w W3 ∧ Blk W3 w.heap.size 73 #[.slice none 0 0, .slice none 0 0]) ∧ Blk W3 (r + 1) 153 #[.int .i64 0, .int .i64 1] from ⟨⟨H2.out.1.1.trans (hb3.mono H2.out.1.1.size), H2.out.1.2.keep hb3⟩, H2.out.2.keep hb3⟩)
  clear s0 s1 H2 hb3
  obtain ⟨s0, s1⟩ := H3.out.2.c2
  go_wp2_with fail
  refine (wway_zero _ W3).mono ?_
  rintro e W4 ⟨⟨b4, rfl⟩, hb4⟩
  have H4 := hid (show (Below w.heap.size w W4 ∧ Blk W4 w.heap.size 73 #[.slice none 0 0, .slice none 0 0]) ∧ Blk W4 (r + 1) 153 #[.int .i64 0, .int .i64 1] from ⟨⟨H3.out.1.1.trans (hb4.mono H3.out.1.1.size), H3.out.1.2.keep hb4⟩, H3.out.2.keep hb4⟩)
  clear s0 s1 H3 hb4
  obtain ⟨s0, s1⟩ := H4.out.2.c2
  have sf0 := H4.out.2.frozen 0
  have sf1 := H4.out.2.frozen 1
  have sl := H4.out.2.lt
  go_upto_region 6 with (fail)
  go_region
  go_wp2
  refine gen (p := Code.rounds _ _ _ _ _) (fun W => (Below w.heap.size w W ∧ Blk W w.heap.size 73 #[.slice none 0 0, .slice none 0 0]) ∧ Blk W (r + 1) 153 #[.int .i64 0, .int .i64 0]) ⟨⟨((H4.out.1.1.setCell (p := ⟨r + 1, 0, none⟩) (by show w.heap.size ≤ r + 1; have := HR.out; omega) _).setCell (p := ⟨r + 1, 1, none⟩) (by show w.heap.size ≤ r + 1; have := HR.out; omega) _).drew, ((H4.out.1.2.far (p := ⟨r + 1, 0, none⟩) (by show w.heap.size ≠ r + 1; have := HR.out; omega) _).far (p := ⟨r + 1, 1, none⟩) (by show w.heap.size ≠ r + 1; have := HR.out; omega) _).drew⟩, ((H4.out.2.set_ 0 _).set_ 1 _).drew⟩ ?_
  clear s0 s1 sf0 sf1 sl H4 hbits
  rintro W5 h5
  have H5 := hid h5
  obtain ⟨s0, s1⟩ := h5.2.c2
  clear h5
  rw [rounds_succ]
  go_wp2_with fail
  refine (wrest_zero W5 (HA.out.keep H5.out.1.1)).mono ?_
  rintro e W6 ⟨rfl, hb6⟩
  have H6 := hid (show (Below w.heap.size w W6 ∧ Blk W6 w.heap.size 73 #[.slice none 0 0, .slice none 0 0]) ∧ Blk W6 (r + 1) 153 #[.int .i64 0, .int .i64 0] from ⟨⟨H5.out.1.1.trans (hb6.mono H5.out.1.1.size), H5.out.1.2.keep hb6⟩, H5.out.2.keep hb6⟩)
  clear s0 s1 H5 hb6
  obtain ⟨s0, s1⟩ := H6.out.2.c2
  go_wp2_with fail
  refine (wway_zero _ W6).mono ?_
  rintro e W7 ⟨⟨b7, rfl⟩, hb7⟩
  have H7 := hid (show (Below w.heap.size w W7 ∧ Blk W7 w.heap.size 73 #[.slice none 0 0, .slice none 0 0]) ∧ Blk W7 (r + 1) 153 #[.int .i64 0, .int .i64 0] from ⟨⟨H6.out.1.1.trans (hb7.mono H6.out.1.1.size), H6.out.1.2.keep hb7⟩, H6.out.2.keep hb7⟩)
  clear s0 s1 H6 hb7
  obtain ⟨s0, s1⟩ := H7.out.2.c2
  go_wp2_with fail
  refine (wlist_one' W7).mono ?_
  rintro e W8 ⟨a8, c8, rfl, _, _, _, _, hb8⟩
  have H8 := hid (show Below w.heap.size w W8 ∧ Blk W8 w.heap.size 73 #[.slice none 0 0, .slice none 0 0] from ⟨H7.out.1.1.trans (hb8.mono H7.out.1.1.size), H7.out.1.2.keep hb8⟩)
  clear s0 s1 H7 hb8
  obtain ⟨q0, q1⟩ := H8.out.2.c2
  have qf0 := H8.out.2.frozen 0
  have qf1 := H8.out.2.frozen 1
  have ql := H8.out.2.lt
  go_wp2
  have HX := hid (show Blk ((W8.setCell ⟨w.heap.size, 0, none⟩ (.slice (some ⟨r, 0, none⟩) 1 1)).setCell ⟨w.heap.size, 1, none⟩ (.slice (some a8) 1 c8)) w.heap.size 73 #[.slice (some ⟨r, 0, none⟩) 1 1, .slice (some a8) 1 c8] ∧ Below w.heap.size w ((W8.setCell ⟨w.heap.size, 0, none⟩ (.slice (some ⟨r, 0, none⟩) 1 1)).setCell ⟨w.heap.size, 1, none⟩ (.slice (some a8) 1 c8)) from ⟨(H8.out.2.set_ 0 _).set_ 1 _, (H8.out.1.setCell (p := ⟨w.heap.size, 0, none⟩) (Nat.le_refl _) _).setCell (p := ⟨w.heap.size, 1, none⟩) (Nat.le_refl _) _⟩)
  clear H8 q0 q1 qf0 qf1 ql
  generalize ((W8.setCell ⟨w.heap.size, 0, none⟩ (.slice (some ⟨r, 0, none⟩) 1 1)).setCell ⟨w.heap.size, 1, none⟩ (.slice (some a8) 1 c8)) = W9 at *
  obtain ⟨q0, q1⟩ := HX.out.1.c2
  exact bodyPost_ret (v := .agg #[.slice (some ⟨r, 0, none⟩) 1 1, .slice (some a8) 1 c8]) (by simp [results, Tryz.results36, go_sem, q0, q1]) rfl ⟨⟨_, _, _, rfl⟩, HX.out.2⟩
end Go.Proofs.YtlnamjhgbdacbaaGreat
/- Rows of streets and of joins that a call makes. Conditions stand at each theorem. -/
namespace Go.Proofs.YtlnamjhgbdacbaaGreat
open Go.RowKit Go.Shelf

def sttL (s : Stt) : List Value := [.int .i64 s.o, .int .i64 s.n, .int .i64 s.wt, .int .i64 s.lo, .int .i64 s.hi]
def sttsL (ss : List Stt) : List Value := ss.flatMap sttL
def jnL (j : Jn) : List Value := [.int .i64 j.a, .int .i64 j.b]
def jnsL (js : List Jn) : List Value := js.flatMap jnL
theorem sttsL_snoc (ss : List Stt) (s : Stt) : sttsL (ss ++ [s]) = sttsL ss ++ sttL s := by simp [sttsL]
theorem jnsL_snoc (js : List Jn) (j : Jn) : jnsL (js ++ [j]) = jnsL js ++ jnL j := by simp [jnsL]
theorem sttsL_len : ∀ ss : List Stt, (sttsL ss).length = ss.length * 5
  | [] => rfl
  | s :: l => by
    have : sttsL (s :: l) = sttL s ++ sttsL l := rfl
    rw [this, List.length_append, sttsL_len l]
    simp [sttL]; omega
theorem jnsL_len : ∀ js : List Jn, (jnsL js).length = js.length * 2
  | [] => rfl
  | s :: l => by
    have : jnsL (s :: l) = jnL s ++ jnsL l := rfl
    rw [this, List.length_append, jnsL_len l]
    simp [jnL]; omega
theorem sttsL_at : ∀ {ss : List Stt} {k : Nat} {s : Stt}, ss[k]? = some s → (sttsL ss)[k * 5]? = some (.int .i64 s.o) ∧ (sttsL ss)[k * 5 + 1]? = some (.int .i64 s.n) ∧ (sttsL ss)[k * 5 + 2]? = some (.int .i64 s.wt) ∧ (sttsL ss)[k * 5 + 3]? = some (.int .i64 s.lo) ∧ (sttsL ss)[k * 5 + 4]? = some (.int .i64 s.hi)
  | [], k, s, h => by simp at h
  | q :: l, 0, s, h => by
    simp at h; subst h
    exact ⟨rfl, rfl, rfl, rfl, rfl⟩
  | q :: l, k + 1, s, h => by
    have : sttsL (q :: l) = .int .i64 q.o :: .int .i64 q.n :: .int .i64 q.wt :: .int .i64 q.lo :: .int .i64 q.hi :: sttsL l := rfl
    have ih := sttsL_at (ss := l) (k := k) (s := s) (by simpa using h)
    rw [this, show (k + 1) * 5 = k * 5 + 1 + 1 + 1 + 1 + 1 by omega]
    exact ih
theorem jnsL_at : ∀ {js : List Jn} {k : Nat} {j : Jn}, js[k]? = some j → (jnsL js)[k * 2]? = some (.int .i64 j.a) ∧ (jnsL js)[k * 2 + 1]? = some (.int .i64 j.b)
  | [], k, s, h => by simp at h
  | q :: l, 0, s, h => by
    simp at h; subst h
    exact ⟨rfl, rfl⟩
  | q :: l, k + 1, s, h => by
    have : jnsL (q :: l) = .int .i64 q.a :: .int .i64 q.b :: jnsL l := rfl
    have ih := jnsL_at (js := l) (k := k) (j := s) (by simpa using h)
    rw [this, show (k + 1) * 2 = k * 2 + 1 + 1 by omega]
    exact ih
theorem sttL_one (s : Stt) : ∀ u ∈ sttL s, u.oneCell' = true := fun u hu => by
  simp only [sttL, List.mem_cons, List.not_mem_nil, or_false] at hu
  rcases hu with rfl | rfl | rfl | rfl | rfl <;> rfl
theorem sttsL_one (ss : List Stt) : ∀ u ∈ sttsL ss, u.oneCell' = true := fun u hu => by
  obtain ⟨s, _, h⟩ := List.mem_flatMap.1 hu
  exact sttL_one s u h
theorem jnL_one (j : Jn) : ∀ u ∈ jnL j, u.oneCell' = true := fun u hu => by
  simp only [jnL, List.mem_cons, List.not_mem_nil, or_false] at hu
  rcases hu with rfl | rfl <;> rfl
theorem jnsL_one (js : List Jn) : ∀ u ∈ jnsL js, u.oneCell' = true := fun u hu => by
  obtain ⟨s, _, h⟩ := List.mem_flatMap.1 hu
  exact jnL_one s u h
theorem own_stts {W : World} {base n e : Nat} {v : Value} {ss : List Stt} (h : W.ownsRow base e 5 v n (sttsL ss)) (hn : n = ss.length) : ∃ A c, v = .slice A ss.length c ∧ IsStts W W.heap.size A ss ∧ ss.length ≤ c ∧ c ≤ maxLen ∧ (∀ a, A = some a → base ≤ a.block) ∧ (A = none → c = 0) := by
  subst hn
  rcases h.2 with ⟨e, h0⟩ | ⟨z, cap, cur, e, hb, _, hl, hm, _⟩
  · have : ss = [] := List.eq_nil_of_length_eq_zero h0
    subst this
    exact ⟨none, 0, e, fun k p hk => by simp at hk, Nat.le_refl _, Nat.zero_le _, (fun a e => by cases e), fun _ => rfl⟩
  · refine ⟨some ⟨z, 0, none⟩, cap, e, fun k p hk => ?_, hl, hm, (fun a e => by cases e; exact hb), fun e => by cases e⟩
    obtain ⟨q1, q2, q3, q4, q5⟩ := sttsL_at hk
    have c1 := h.cells (g := z) (by rw [e]; rfl) _ _ q1
    have c2 := h.cells (g := z) (by rw [e]; rfl) _ _ q2
    have c3 := h.cells (g := z) (by rw [e]; rfl) _ _ q3
    have c4 := h.cells (g := z) (by rw [e]; rfl) _ _ q4
    have c5 := h.cells (g := z) (by rw [e]; rfl) _ _ q5
    rw [add_blk] at c1 c2 c3 c4 c5
    have hz := World.block_lt_of_cell? W _ c1
    refine ⟨⟨z, 0, none⟩, rfl, hz, ?_⟩
    rw [add_blk]
    exact ⟨c1, c2, c3, c4, c5⟩
theorem own_jns {W : World} {base n e : Nat} {v : Value} {js : List Jn} (h : W.ownsRow base e 2 v n (jnsL js)) (hn : n = js.length) : ∃ A c, v = .slice A js.length c ∧ IsJns W W.heap.size A js ∧ js.length ≤ c ∧ c ≤ maxLen ∧ (∀ a, A = some a → base ≤ a.block) ∧ (A = none → c = 0) := by
  subst hn
  rcases h.2 with ⟨e, h0⟩ | ⟨z, cap, cur, e, hb, _, hl, hm, _⟩
  · have : js = [] := List.eq_nil_of_length_eq_zero h0
    subst this
    exact ⟨none, 0, e, fun k p hk => by simp at hk, Nat.le_refl _, Nat.zero_le _, (fun a e => by cases e), fun _ => rfl⟩
  · refine ⟨some ⟨z, 0, none⟩, cap, e, fun k p hk => ?_, hl, hm, (fun a e => by cases e; exact hb), fun e => by cases e⟩
    obtain ⟨q1, q2⟩ := jnsL_at hk
    have c1 := h.cells (g := z) (by rw [e]; rfl) _ _ q1
    have c2 := h.cells (g := z) (by rw [e]; rfl) _ _ q2
    rw [add_blk] at c1 c2
    have hz := World.block_lt_of_cell? W _ c1
    refine ⟨⟨z, 0, none⟩, rfl, hz, ?_⟩
    rw [add_blk]
    exact ⟨c1, c2⟩
/-- two rows of different elements lie apart -/
theorem rows_ne {W : World} {base base' e e' size size' n n' : Nat} {v v' : Value} {xs xs' : List Value} (h : W.ownsRow base e size v n xs) (h' : W.ownsRow base' e' size' v' n' xs') (hne : e ≠ e') : v.ownBlock = none ∨ v.ownBlock ≠ v'.ownBlock := by
  rcases h'.2 with ⟨ev, _⟩ | ⟨z, cap, cur, ev, _, hb, _⟩
  · subst ev
    cases hv : v.ownBlock with
    | none => exact .inl rfl
    | some g => exact .inr (by intro e; cases e)
  · subst ev
    exact mown_ne h fun cs hcs => by
      rw [hb] at hcs
      cases hcs
      exact hne rfl
/-- numbers in a block of numbers -/
def IntsB (A : Option Addr) (xs : List Int) (W : World) : Prop := IsInts W W.heap.size A xs ∧ ∀ a, A = some a → ∃ cs, Blk W a.block 3 cs
theorem IntsB.to {A : Option Addr} {xs : List Int} {W W' : World} (h : IntsB A xs W) (hs : W.heap.size ≤ W'.heap.size) (hb : ∀ (g : Nat) (cs : Array Value), Blk W g 3 cs → Blk W' g 3 cs) : IntsB A xs W' := by
  refine ⟨fun k x hk => ?_, fun a e => ?_⟩
  · obtain ⟨a, e, hl, hc⟩ := h.1 k x hk
    obtain ⟨cs, h1⟩ := h.2 a e
    refine ⟨a, e, by omega, ?_⟩
    have h2 := hb _ _ h1
    unfold World.cell? at hc ⊢
    rw [block_of_add] at hc ⊢
    rw [show W'.heap[a.block]? = _ from h2]
    rw [show W.heap[a.block]? = _ from h1] at hc
    exact hc
  · obtain ⟨cs, h1⟩ := h.2 a e
    exact ⟨cs, hb _ _ h1⟩
theorem bstt_info : (Tryz.prog.info? 70).map (fun i => (i.zero, i.size, i.bytes)) = some (some (.agg #[.int .i64 0, .int .i64 0, .int .i64 0, .int .i64 0, .int .i64 0]), 5, 40) := by kernel_rfl
theorem bjn_info : (Tryz.prog.info? 77).map (fun i => (i.zero, i.size, i.bytes)) = some (some (.agg #[.int .i64 0, .int .i64 0]), 2, 16) := by kernel_rfl
theorem stt_blk {W : World} {g t : Nat} {s : Stt} (h : Blk W g t (sttL s).toArray) : ∀ (j : Nat) (x : Value), (sttL s)[j]? = some x → W.cell? ((⟨g, 0, none⟩ : Addr).add j) = some x := by
  intro q x hq
  rw [add_blk, h.cell]
  simpa using hq
theorem jn_blk {W : World} {g t : Nat} {j : Jn} (h : Blk W g t (jnL j).toArray) : ∀ (k : Nat) (x : Value), (jnL j)[k]? = some x → W.cell? ((⟨g, 0, none⟩ : Addr).add k) = some x := by
  intro q x hq
  rw [add_blk, h.cell]
  simpa using hq
theorem take_snoc_at {α : Type} {l : List α} {k : Nat} {x : α} (h : l[k]? = some x) : l.take (k + 1) = l.take k ++ [x] := by
  obtain ⟨hk, rfl⟩ := List.getElem?_eq_some_iff.1 h
  exact List.take_succ_eq_append_getElem hk
/-- the program's map under construction -/
structure MapI (m : MapD) (A : Option Addr) (c : Nat) (A2 : Option Addr) (c2 : Nat) (A3 : Option Addr) (c3 : Nat) (P : Option Addr) (p Bo : Nat) (v2 v3 : Value) (k2 k3 : Nat) (w W : World) : Prop where
  bt : Blk W w.heap.size 26 #[.slice A m.old.length c, .int .i64 m.nw, .slice A2 m.ss.length c2, .slice A3 m.js.length c3]
  b2 : Blk W (w.heap.size + 1) 36 #[.slice none 0 0, .int .i64 0, .slice none 0 0, .slice none 0 0]
  bo : Blk W Bo 36 #[.slice P m.old.length p, .int .i64 m.nw, v2, v3]
  io : IntsB P m.old W
  s2 : W.ownsRow w.heap.size 70 5 v2 k2 (sttsL (m.ss.take k2))
  s3 : W.ownsRow w.heap.size 77 2 v3 k3 (jnsL (m.js.take k3))
  bl : Below w.heap.size w W
  ne : w.heap.size + 1 < Bo
section
variable {m : MapD} {A : Option Addr} {c : Nat} {A2 : Option Addr} {c2 : Nat} {A3 : Option Addr} {c3 : Nat} {P : Option Addr} {p Bo : Nat} {v2 v3 v' : Value} {k2 k3 : Nat} {w W W' : World}
theorem MapI.at_ (h : MapI m A c A2 c2 A3 c3 P p Bo v2 v3 k2 k3 w W) (hb : Below W.heap.size W W') : MapI m A c A2 c2 A3 c3 P p Bo v2 v3 k2 k3 w W' :=
  ⟨h.bt.keep hb, h.b2.keep hb, h.bo.keep hb, h.io.to hb.size fun _ _ q => q.keep hb, row_kept (vo := .slice none 0 0) h.s2 (grown_of_below hb _) (.inl rfl), row_kept (vo := .slice none 0 0) h.s3 (grown_of_below hb _) (.inl rfl), h.bl.trans (hb.mono h.bl.size), h.ne⟩
theorem MapI.add2 {s : Stt} (h : MapI m A c A2 c2 A3 c3 P p Bo v2 v3 k2 k3 w W) (hs : m.ss[k2]? = some s) (hg : W.grownBy W' v2.ownBlock) (ho : W'.ownsRow w.heap.size 70 5 v' (k2 + 1) (sttsL (m.ss.take k2) ++ sttL s)) :
    MapI m A c A2 c2 A3 c3 P p Bo v' v3 (k2 + 1) k3 w (W'.setCell ⟨Bo, 2, none⟩ v') := by
  have hbo := blk_grown h.s2 hg h.bo (by decide)
  have hne := h.ne
  have hsz : (W'.setCell ⟨Bo, 2, none⟩ v').heap.size = W'.heap.size := by simp [World.setCell]
  refine ⟨(blk_grown h.s2 hg h.bt (by decide)).far (p := ⟨Bo, 2, none⟩) (show w.heap.size ≠ Bo by omega) _, (blk_grown h.s2 hg h.b2 (by decide)).far (p := ⟨Bo, 2, none⟩) (show w.heap.size + 1 ≠ Bo by omega) _, hbo.set_ 2 v', ?_, ?_, ?_, ?_, h.ne⟩
  · refine h.io.to (by rw [hsz]; exact hg.size) fun g cs q => ?_
    have q' := blk_grown h.s2 hg q (by decide)
    exact q'.far (p := ⟨Bo, 2, none⟩) (Blk.ne_ q' hbo (by decide)) _
  · rw [take_snoc_at hs, sttsL_snoc]
    exact row_set ho hbo (by decide) _
  · exact row_set (row_kept h.s3 hg (rows_ne h.s2 h.s3 (by decide))) hbo (by decide) _
  · exact (below_row' h.bl h.s2 (Nat.le_refl _) hg h.bl.size).setCell (p := ⟨Bo, 2, none⟩) (show w.heap.size ≤ Bo by omega) _
theorem MapI.add3 {j : Jn} (h : MapI m A c A2 c2 A3 c3 P p Bo v2 v3 k2 k3 w W) (hs : m.js[k3]? = some j) (hg : W.grownBy W' v3.ownBlock) (ho : W'.ownsRow w.heap.size 77 2 v' (k3 + 1) (jnsL (m.js.take k3) ++ jnL j)) :
    MapI m A c A2 c2 A3 c3 P p Bo v2 v' k2 (k3 + 1) w (W'.setCell ⟨Bo, 3, none⟩ v') := by
  have hbo := blk_grown h.s3 hg h.bo (by decide)
  have hne := h.ne
  have hsz : (W'.setCell ⟨Bo, 3, none⟩ v').heap.size = W'.heap.size := by simp [World.setCell]
  refine ⟨(blk_grown h.s3 hg h.bt (by decide)).far (p := ⟨Bo, 3, none⟩) (show w.heap.size ≠ Bo by omega) _, (blk_grown h.s3 hg h.b2 (by decide)).far (p := ⟨Bo, 3, none⟩) (show w.heap.size + 1 ≠ Bo by omega) _, hbo.set_ 3 v', ?_, ?_, ?_, ?_, h.ne⟩
  · refine h.io.to (by rw [hsz]; exact hg.size) fun g cs q => ?_
    have q' := blk_grown h.s3 hg q (by decide)
    exact q'.far (p := ⟨Bo, 3, none⟩) (Blk.ne_ q' hbo (by decide)) _
  · exact row_set (row_kept h.s2 hg (rows_ne h.s3 h.s2 (by decide))) hbo (by decide) _
  · rw [take_snoc_at hs, jnsL_snoc]
    exact row_set ho hbo (by decide) _
  · exact (below_row' h.bl h.s3 (Nat.le_refl _) hg h.bl.size).setCell (p := ⟨Bo, 3, none⟩) (show w.heap.size ≤ Bo by omega) _
end
end Go.Proofs.YtlnamjhgbdacbaaGreat
/- The tour of a set of places, on any atlas. Conditions stand at each theorem. -/
namespace Go.Proofs.YtlnamjhgbdacbaaGreat
open Go.RowKit Go.Shelf

/-- how many places are left, as memory has it -/
def wleftOf (z : Nat) (W : World) : Nat := match W.cell? ⟨z, 1, none⟩ with
  | some (.int _ t) => (bl t.toNat).length
  | _ => 0
theorem leftOf_blk {z ty : Nat} {W : World} {x : Value} {t : Nat} (h : Blk W z ty #[x, .int .i64 (t : Int)]) : wleftOf z W = (bl t).length := by
  unfold wleftOf
  rw [h.c2.2]
  simp
theorem MChg.grown_ {q : Nat} {W W' : World} (h : MChg (fun k => k = q) W W') : W.grownBy W' (some q) := ⟨h.os, h.tape, h.output, h.size, fun k hk hn => h.block k hk (fun e => hn (by rw [e]))⟩
/-- where a tour stands: at n, with t left; l the way so far -/
structure TrI (w : World) (g mp : Nat) (m : WMD) (A : Option Addr) (c : Nat) (A2 : Option Addr) (c2 : Nat) (T F : Nat → Nat → Int) (z n t : Nat) (l : List Nat) (v : Value) (W : World) : Prop where
  at_ : AtW W g mp m A c A2 c2 T F
  tm : TMem T mp W
  wb : Blk W w.heap.size 73 #[.slice none 0 0, .slice none 0 0]
  zb : Blk W z 153 #[.int .i64 (n : Int), .int .i64 (t : Int)]
  ro : W.ownsRow w.heap.size 3 1 v l.length ((intsN l).map (Value.int .i64))
  ch : MChg (fun q => q = mp) w W
  n1 : mp < w.heap.size ∧ g < w.heap.size ∧ g ≠ mp ∧ w.heap.size < z
section
variable {w : World} {g mp : Nat} {m : WMD} {A A2 : Option Addr} {c c2 : Nat} {T F : Nat → Nat → Int} {z n t : Nat} {l : List Nat} {v : Value} {W W' : World}
theorem TrI.chg (h : TrI w g mp m A c A2 c2 T F z n t l v W) (hc : MChg (fun q => q = mp) W W') (ht : TMem T mp W') : TrI w g mp m A c A2 c2 T F z n t l v W' := by
  obtain ⟨n1, n2, n3, n4⟩ := h.n1
  refine ⟨h.at_.chg hc n3, ht, hc.blk h.wb (fun e => by omega), hc.blk h.zb (fun e => by omega), h.ro.kept hc.grown_ ?_, h.ch.trans hc, h.n1⟩
  obtain ⟨es, ck, h1, _⟩ := h.tm
  exact mown_ne h.ro (fun cs hc => by rw [h1] at hc; cases hc)
theorem TrI.keep (h : TrI w g mp m A c A2 c2 T F z n t l v W) (hb : Below W.heap.size W W') : TrI w g mp m A c A2 c2 T F z n t l v W' := h.chg (MChg.of_below hb) (h.tm.keep hb)
theorem TrI.app {l' : List Nat} {v' : Value} (h : TrI w g mp m A c A2 c2 T F z n t l v W) (hg : W.grownBy W' v.ownBlock) (ho : W'.ownsRow w.heap.size 3 1 v' l'.length ((intsN l').map (Value.int .i64))) : TrI w g mp m A c A2 c2 T F z n t l' v' W' := by
  have key : ∀ (q ty : Nat) (cs : Array Value), Blk W q ty cs → ty ≠ 3 → Blk W' q ty cs := fun q ty cs hb hne => (hg.block q hb.lt (fun e => by
    rcases mown_ne h.ro (mblk_not hb hne) with h1 | h1
    · rw [h1] at e; cases e
    · exact h1 e.symm)).trans hb
  obtain ⟨cs, hc, hr⟩ := h.at_.blk
  obtain ⟨es, ck, h1, h2⟩ := h.tm
  have hmp : v.ownBlock ≠ some mp := fun e => by
    rcases mown_ne h.ro (z := mp) (fun cs hc => by rw [h1] at hc; cases hc) with h3 | h3
    · rw [h3] at e; cases e
    · exact h3 e
  refine ⟨⟨cs, key _ _ _ hc (by decide), hr⟩, ⟨es, ck, (hg.block mp (Array.getElem?_eq_some_iff.1 h1).1 (fun e => hmp e.symm)).trans h1, h2⟩, key _ _ _ h.wb (by decide), key _ _ _ h.zb (by decide), ho, ?_, h.n1⟩
  exact ⟨hg.os.trans h.ch.os, hg.tape.trans h.ch.tape, hg.output.trans h.ch.output, Nat.le_trans h.ch.size hg.size, fun q hq hne => (hg.block q (Nat.lt_of_lt_of_le hq h.ch.size) (fun e => by have := (h.ro.lt q e.symm).1; omega)).trans (h.ch.block q hq hne)⟩
theorem TrI.step (h : TrI w g mp m A c A2 c2 T F z n t l v W) (o u : Nat) : TrI w g mp m A c A2 c2 T F z o u l v (((W.setCell ⟨z, 0, none⟩ (.int .i64 (o : Int))).setCell ⟨z, 1, none⟩ (.int .i64 (u : Int))).drew) := by
  obtain ⟨n1, n2, n3, n4⟩ := h.n1
  have hb := h.zb.lt
  have hc : MChg (fun q => q = z) W (((W.setCell ⟨z, 0, none⟩ (.int .i64 (o : Int))).setCell ⟨z, 1, none⟩ (.int .i64 (u : Int))).drew) :=
    (((MChg.refl (Z := fun q => q = z) (A := W)).set rfl _).set rfl _).trans (MChg.of_below ⟨rfl, rfl, rfl, Nat.le_refl _, fun _ _ => rfl⟩)
  refine ⟨h.at_.chg hc (fun e => by omega), (((h.tm.far (p := ⟨z, 0, none⟩) (by show z ≠ mp; omega) _).far (p := ⟨z, 1, none⟩) (by show z ≠ mp; omega) _)).keep ⟨rfl, rfl, rfl, Nat.le_refl _, fun _ _ => rfl⟩, hc.blk h.wb (fun e => by omega), ((h.zb.set_ 0 _).set_ 1 _).drew, h.ro.kept hc.grown_ (mown_ne h.ro (mblk_not h.zb (by decide))), h.ch.rows hc (fun q e => by omega), h.n1⟩
end
set_option maxRecDepth 100000 in
set_option maxHeartbeats 4000000 in
theorem wtour_any {g mp : Nat} {m : WMD} {A A2 : Option Addr} {c c2 : Nat} {T F : Nat → Nat → Int} (ok : OkW m) (hg : g ≠ mp) (hcol : ∀ y, y < m.N → ColI m y 400 (col T y) (col F y)) (s : Nat) (hs : s < 256) (hsN : ∀ p ∈ bl s, p < m.N) (hlt : (rst T 0 (bl s)).1 < farI) (w : World) (h : AtW w g mp m A c A2 c2 T F) (hm : TMem T mp w) :
    Calls Tryz.prog 36 #[.pointer (some ⟨g, 0, none⟩), .int .i64 (s : Int)] w fun e w' => ∃ (l : List Nat) (B : Option Addr) (b : Nat) (B2 : Option Addr) (b2 : Nat), Pth m 0 0 l ∧ (∀ k ∈ bl s, k ∈ l) ∧ e = .returned (.agg #[.slice B l.length b, .slice B2 (bl s).length b2]) ∧ IntsB B (intsN l) w' ∧ l.length ≤ b ∧ b ≤ maxLen ∧ IntsB B2 (intsN (bl s)) w' ∧ (bl s).length ≤ b2 ∧ b2 ≤ maxLen ∧ l.length ≤ 100000 ∧ MChg (fun q => q = mp) w w' ∧ TMem T mp w' := by
  have hN0 : 0 < m.N := ok.w1
  have hN8 : m.N ≤ 8 := ok.w8
  have hT : ∀ x y, x < m.N → y < m.N → 0 ≤ T x y ∧ T x y ≤ farI := fun x y hx hy => (hcol y hy).lo x hx
  have hB := below_box (w := w) #[.slice none 0 0, .slice none 0 0] 73
  have hWb := Blk.new w 73 #[.slice none 0 0, .slice none 0 0]
  have HA := hid h
  have HM := hid hm
  have HS := hid (And.intro hB hWb)
  have HC := hid hcol
  have HT := hid hT
  have HGL := hid (And.intro hm.lt (And.intro h.lt hg))
  clear h hm hB hWb hcol hT
  go_enter Tryz.func36, Tryz.ntmps36
  go_upto_region 1 with (fail)
  refine gen (p := Code.wp _ _ _ _) (fun W => Below w.heap.size w W ∧ Blk W w.heap.size 73 #[.slice none 0 0, .slice none 0 0]) HS.out ?_
  clear HS
  rintro W1 h1
  have H1 := hid h1
  clear h1
  go_wp2
  obtain ⟨r, hr⟩ : ∃ r, W1.heap.size = r := ⟨_, rfl⟩
  have hwr : w.heap.size < r := by rw [← hr]; exact H1.out.2.lt
  refine gen (p := Code.wp _ _ _ _) (fun W => TrI w g mp m A c A2 c2 T F (r + 1) 0 s [0] (.slice (some ⟨r, 0, none⟩) 1 1) W) ⟨?_, ?_, ?_, ?_, ?_, ?_, HGL.out.1, HGL.out.2.1, HGL.out.2.2, by omega⟩ ?_
  · exact (HA.out.keep H1.out.1).keep (((Below.refl _ _).alloc (Nat.le_refl _) _).alloc (by simp) _)
  · exact (HM.out.keep H1.out.1).keep (((Below.refl _ _).alloc (Nat.le_refl _) _).alloc (by simp) _)
  · exact (H1.out.2.alloc _).alloc _
  · have h := Blk.new (W1.alloc (.cells #[.int .i64 0] 3)) 153 #[.int .i64 0, .int .i64 (s : Int)]
    rw [World.size_alloc, hr] at h
    exact h
  · have h := (own_one W1 w.heap.size 0 H1.out.1.size).alloc (.cells #[.int .i64 0, .int .i64 (s : Int)] 153)
    rw [hr] at h
    exact h
  · exact MChg.of_below (H1.out.1.trans (((Below.refl W1.heap.size W1).alloc (Nat.le_refl _) _ |>.alloc (by simp) _).mono H1.out.1.size))
  simp only [hr]
  clear hr H1 HA HM
  rintro W2 h2
  have H2 := hid h2
  clear h2
  go_loopw [5] (fun v W => ∃ (n t : Nat) (l : List Nat), TrI w g mp m A c A2 c2 T F (r + 1) n t l v W ∧ n < m.N ∧ t < 256 ∧ (∀ k ∈ bl t, k ∈ bl s) ∧ (rst T n (bl t)).1 < farI ∧ Pth m 0 n l ∧ (∀ k ∈ bl s, k ∈ bl t ∨ k ∈ l) ∧ l.length + 402 * (bl t).length ≤ 5000) (fun _ W => wleftOf (r + 1) W)
  case atStart => exact ⟨0, s, [0], H2.out, hN0, hs, fun k hk => hk, hlt, .one 0, fun k hk => .inl hk, by have := bl_len s; simp; omega⟩
  case round =>
    clear H2
    obtain ⟨n, t, l, hTr, hn, ht, hsub, hrlt, hpt, hvis, hlen⟩ := hrel
    have HR := hid hTr
    have HLW := hid (leftOf_blk hTr.zb)
    have HV := hid hvis
    have HP := hid hpt
    have HSU := hid hsub
    obtain ⟨z0, z1⟩ := hTr.zb.c2
    have K1 := wrestg_any HGL.out.2.2 hN0 hN8 HT.out _ t n rfl ht (fun k hk => hsN k (hsub k hk)) hn wr hTr.at_ hTr.tm
    obtain ⟨⟨r1, r2⟩, hr12⟩ : ∃ p, rst T n (bl t) = p := ⟨_, rfl⟩
    rw [hr12] at K1 hrlt
    unfold legV at K1
    have K1 := hid K1
    have HE := hid hr12
    clear hTr hvis hpt hsub hr12
    go_wp2_with fail
    refine K1.out.mono ?_
    rintro e W3 ⟨rfl, hc3, ht3⟩
    have H3 := hid (HR.out.chg hc3 ht3)
    have hln := legg_next (r1, r2) W3
    clear K1 HR hc3 ht3 z0 z1
    obtain ⟨z0, z1⟩ := H3.out.zb.c2
    by_cases h0 : t = 0
    · obtain ⟨o, ho, hoN, hTo, hO0⟩ : ∃ o : Nat, r2 = (o : Int) ∧ o < m.N ∧ T n o < farI ∧ o = 0 := by
        subst h0
        have := HE.out
        rw [bl_zero, rst_nil] at this
        cases this
        exact ⟨0, rfl, hN0, hrlt, rfl⟩
      have HO0 := hid hO0
      clear hO0
      have hz : ((t : Int) == 0) = true := by rw [h0]; decide
      have HT0 := hid h0
      clear h0
      subst ho
      have KW := hid (wway_any W3 H3.out.at_ hN8 n o hn hoN (HC.out o hoN) hTo)
      go_wp2_with fail
      refine KW.out.mono ?_
      rintro e W4 ⟨l1, hp1, hl1, A4, c4, rfl, h1, h2, h3, h4, h5, hb⟩
      have H4 := hid (H3.out.keep hb)
      obtain ⟨tl, rfl⟩ := hp1.head
      obtain ⟨a4, ea4⟩ : ∃ q, A4 = some q := by
        obtain ⟨q, e, _⟩ := h3 0 (n : Int) rfl
        exact ⟨q, e⟩
      subst ea4
      obtain ⟨M, hM⟩ : ∃ M, tl.length = M := ⟨_, rfl⟩
      have hlen1 : (intsN (n :: tl)).length = M + 1 := by rw [intsN_len]; simp [hM]
      rw [hlen1] at h1 ⊢
      have HL1 := hid (And.intro hp1 (And.intro h3 hM))
      have hM5 : M ≤ 401 := by simp at hl1; omega
      unfold maxLen at h2
      clear z0 z1 hp1 h3 h4 h5 hb KW H3 hl1 hlen1
      obtain ⟨z0, z1⟩ := H4.out.zb.c2
      have HO := hid H4.out.ro
      obtain ⟨a5, ha5⟩ : ∃ a5, (if c4 = 1 then some a4 else some (⟨a4.block, a4.off + 1, none⟩ : Addr)) = some a5 := by split <;> exact ⟨_, rfl⟩
      have hnews := hid (show ∀ j u, ((intsN tl).map (Value.int .i64))[j]? = some u → W4.cell? (a5.add j) = some u from fun j u hj => by
        have h4 : ¬ c4 = 1 := fun e => by
          have e0 : tl = [] := List.eq_nil_of_length_eq_zero (by rw [HL1.out.2.2]; omega)
          rw [e0] at hj
          simp [intsN] at hj
        rw [if_neg h4] at ha5
        cases ha5
        rw [List.getElem?_map] at hj
        cases hx : (intsN tl)[j]? with
        | none => rw [hx] at hj; cases hj
        | some x =>
          rw [hx] at hj
          simp at hj
          obtain ⟨q, e, _, hc⟩ := HL1.out.2.1 (j + 1) x (by show ((n : Int) :: intsN tl)[j + 1]? = some x; rw [List.getElem?_cons_succ]; exact hx)
          cases e
          rw [← hj, ← hc]
          congr 1
          unfold Addr.add
          by_cases e : j = 0
          · subst e; rfl
          · simp [e]; omega)
      have hl5 : l.length ≤ 5000 := by omega
      have hsz := H4.out.ch.size
      obtain ⟨i0, hi0, hz0, hz1, hz2⟩ := info_parts int_info
      have hcp : M ≤ c4 - 1 := by omega
      go_wp2_with (at_builtin; go_loud (refine wpList_append_own_at _ rfl _ _ 22 rfl w.heap.size 3 i0 (.int .i64 0) 1 8 Tryz.underlying22 hi0 hz0 hz1 hz2 rfl (by decide) u5 _ _ rfl HO.out a5 M (c4 - 1) ((intsN tl).map (Value.int .i64)) rfl (by first | (rw [List.length_map, intsN_len, HL1.out.2.2, Nat.mul_one]) | (simp [intsN_len, HL1.out.2.2])) hnews.out (ints_one (intsN tl)) (by simp only [maxLen]; omega) (by omega) (by first | omega | (simp; omega)) ?_; intro vo' w6 hown' hgrow _ hfr; have H6 := hid (H4.out.app (l' := l ++ tl) hgrow (by rw [List.length_append, show intsN (l ++ tl) = intsN l ++ intsN tl by simp [intsN], List.map_append, HL1.out.2.2]; exact hown')); clear hown' hgrow hfr z0 z1; obtain ⟨z0, z1⟩ := H6.out.zb.c2; have zf0 := H6.out.zb.frozen 0; have zf1 := H6.out.zb.frozen 1; have zl := H6.out.zb.lt))
      have HPO := hid (show Pth m 0 0 (l ++ tl) from by have h := HP.out.append HL1.out.1; rw [HO0.out] at h; exact h)
      have HVV := hid (show ∀ k ∈ bl s, k ∈ l ++ tl from fun k hk => by
        rcases HV.out k hk with h | h
        · rw [HT0.out, bl_zero] at h; cases h
        · exact List.mem_append.2 (.inl h))
      have hlen9 : (l ++ tl).length ≤ 6000 := by rw [List.length_append, HL1.out.2.2]; omega
      generalize l ++ tl = L9 at *
      obtain ⟨A8, c8, e8, p1, p2, p3, p4, p5⟩ := own_ints (intsN_len L9).symm H6.out.ro
      rw [intsN_len] at e8
      subst e8
      have HA8 := hid (And.intro p1 (And.intro p2 (And.intro p3 p4)))
      have KL := wlist_set s hs w6
      unfold GivesInts at KL
      rw [List.length_map] at KL
      have KL := hid KL
      clear p1 p2 p3 p4 p5 z0 z1 zf0 zf1 zl
      go_wp2_with fail
      refine KL.out.mono ?_
      rintro e w7 ⟨A7, c7, rfl, k1, k2, k3, k4, k5, hb⟩
      have H7 := hid (H6.out.keep hb)
      have HA7 := hid (And.intro k1 (And.intro k2 (And.intro k3 k4)))
      have HB7 := hid hb
      obtain ⟨q0, q1⟩ := H7.out.wb.c2
      have qf0 := H7.out.wb.frozen 0
      have qf1 := H7.out.wb.frozen 1
      have ql := H7.out.wb.lt
      clear k1 k2 k3 k4 k5 hb KL
      go_wp2
      have HX := hid (show MChg (fun q => q = w.heap.size) w7 ((w7.setCell ⟨w.heap.size, 0, none⟩ (.slice A8 L9.length c8)).setCell ⟨w.heap.size, 1, none⟩ (.slice A7 (bl s).length c7)) ∧ Blk ((w7.setCell ⟨w.heap.size, 0, none⟩ (.slice A8 L9.length c8)).setCell ⟨w.heap.size, 1, none⟩ (.slice A7 (bl s).length c7)) w.heap.size 73 #[.slice A8 L9.length c8, .slice A7 (bl s).length c7] from ⟨((MChg.refl (Z := fun q => q = w.heap.size) (A := w7)).set rfl _).set rfl _, (H7.out.wb.set_ 0 _).set_ 1 _⟩)
      clear q0 q1 qf0 qf1 ql
      generalize ((w7.setCell ⟨w.heap.size, 0, none⟩ (.slice A8 L9.length c8)).setCell ⟨w.heap.size, 1, none⟩ (.slice A7 (bl s).length c7)) = W9 at *
      obtain ⟨q0, q1⟩ := HX.out.2.c2
      have HRES := hid (show Pth m 0 0 L9 ∧ (∀ k ∈ bl s, k ∈ L9) ∧ IntsB A8 (intsN L9) W9 ∧ L9.length ≤ c8 ∧ c8 ≤ maxLen ∧ IntsB A7 (intsN (bl s)) W9 ∧ (bl s).length ≤ c7 ∧ c7 ≤ maxLen ∧ L9.length ≤ 100000 ∧ MChg (fun q => q = mp) w W9 ∧ TMem T mp W9 from by
        obtain ⟨p1, p2, p3, p4⟩ := HA8.out
        obtain ⟨k1, k2, k3, k4⟩ := HA7.out
        have hlt6 := H6.out.wb.lt
        have hmw := H6.out.n1.1
        refine ⟨HPO.out, HVV.out, ⟨(p3.at_ HB7.out).chg HX.out.1 (fun a ea => ?_) (Nat.le_refl _), fun a ea => ?_⟩, by rw [intsN_len] at p1; exact p1, p2, ⟨k3.chg HX.out.1 (fun a ea => ?_) (Nat.le_refl _), fun a ea => ?_⟩, k1, k2, by omega, H7.out.ch.rows HX.out.1 (fun q e => by omega), ?_⟩
        · obtain ⟨_, cs, hcs⟩ := p4 a ea
          exact Blk.ne_ hcs H6.out.wb (by decide)
        · obtain ⟨_, cs, hcs⟩ := p4 a ea
          exact ⟨cs, HX.out.1.blk (hcs.keep HB7.out) (Blk.ne_ hcs H6.out.wb (by decide))⟩
        · have := (k4 a ea).1
          show ¬ a.block = w.heap.size
          omega
        · obtain ⟨g8, cs, hcs⟩ := k4 a ea
          exact ⟨cs, HX.out.1.blk hcs (show ¬ a.block = w.heap.size by omega)⟩
        · obtain ⟨es, ck, h1, h2⟩ := H7.out.tm
          exact ⟨es, ck, (HX.out.1.block mp (Array.getElem?_eq_some_iff.1 h1).1 (by show ¬ mp = w.heap.size; omega)).trans h1, h2⟩)
      exact bodyPost_ret (v := .agg #[.slice A8 L9.length c8, .slice A7 (bl s).length c7]) (by simp [results, Tryz.results36, go_sem, q0, q1]) rfl ⟨L9, A8, c8, A7, c7, HRES.out.1, HRES.out.2.1, rfl, HRES.out.2.2⟩
    · obtain ⟨o, h1, h2, h3, h4⟩ := rst_next hN0 HT.out (bl_ne t ht h0) (bl_nodup t) (fun k hk => hsN k (HSU.out k hk)) hn (by rw [HE.out]; exact hrlt)
      rw [HE.out] at h2
      have ho : r2 = (o : Int) := h2
      have hoN : o < m.N := hsN o (HSU.out o h1)
      have hTo : T n o < farI := h3
      have ho8 : o < 8 := by omega
      have HNX := hid (And.intro h1 h4)
      have hz : ((t : Int) == 0) = false := by simpa using h0
      obtain ⟨rm1, rm2, rm3⟩ := rmv_fact t ht o ho8
      have hpw := pow_fact o ho8
      have HRM := hid (And.intro rm2 (bl_rmv ht ho8))
      have HLT := hid (without_len (bl_nodup t) h1)
      have ho8I : (o : Int) < 8 := by omega
      clear h0 h1 h2 h3 h4 rm2 rm3
      subst ho
      have KW := hid (wway_any W3 H3.out.at_ hN8 n o hn hoN (HC.out o hoN) hTo)
      go_wp2_with fail
      refine KW.out.mono ?_
      rintro e W4 ⟨l1, hp1, hl1, A4, c4, rfl, h1, h2, h3, h4, h5, hb⟩
      have H4 := hid (H3.out.keep hb)
      obtain ⟨tl, rfl⟩ := hp1.head
      obtain ⟨a4, ea4⟩ : ∃ q, A4 = some q := by
        obtain ⟨q, e, _⟩ := h3 0 (n : Int) rfl
        exact ⟨q, e⟩
      subst ea4
      obtain ⟨M, hM⟩ : ∃ M, tl.length = M := ⟨_, rfl⟩
      have hlen1 : (intsN (n :: tl)).length = M + 1 := by rw [intsN_len]; simp [hM]
      rw [hlen1] at h1 ⊢
      have HL1 := hid (And.intro hp1 (And.intro h3 hM))
      have hM5 : M ≤ 401 := by simp at hl1; omega
      unfold maxLen at h2
      clear z0 z1 hp1 h3 h4 h5 hb KW H3 hl1 hlen1
      obtain ⟨z0, z1⟩ := H4.out.zb.c2
      have HO := hid H4.out.ro
      obtain ⟨a5, ha5⟩ : ∃ a5, (if c4 = 1 then some a4 else some (⟨a4.block, a4.off + 1, none⟩ : Addr)) = some a5 := by split <;> exact ⟨_, rfl⟩
      have hnews := hid (show ∀ j u, ((intsN tl).map (Value.int .i64))[j]? = some u → W4.cell? (a5.add j) = some u from fun j u hj => by
        have h4 : ¬ c4 = 1 := fun e => by
          have e0 : tl = [] := List.eq_nil_of_length_eq_zero (by rw [HL1.out.2.2]; omega)
          rw [e0] at hj
          simp [intsN] at hj
        rw [if_neg h4] at ha5
        cases ha5
        rw [List.getElem?_map] at hj
        cases hx : (intsN tl)[j]? with
        | none => rw [hx] at hj; cases hj
        | some x =>
          rw [hx] at hj
          simp at hj
          obtain ⟨q, e, _, hc⟩ := HL1.out.2.1 (j + 1) x (by show ((n : Int) :: intsN tl)[j + 1]? = some x; rw [List.getElem?_cons_succ]; exact hx)
          cases e
          rw [← hj, ← hc]
          congr 1
          unfold Addr.add
          by_cases e : j = 0
          · subst e; rfl
          · simp [e]; omega)
      have hl5 : l.length ≤ 5000 := by omega
      have hsz := H4.out.ch.size
      obtain ⟨i0, hi0, hz0, hz1, hz2⟩ := info_parts int_info
      have hcp : M ≤ c4 - 1 := by omega
      go_wp2_with (at_builtin; go_loud (refine wpList_append_own_at _ rfl _ _ 22 rfl w.heap.size 3 i0 (.int .i64 0) 1 8 Tryz.underlying22 hi0 hz0 hz1 hz2 rfl (by decide) u5 _ _ rfl HO.out a5 M (c4 - 1) ((intsN tl).map (Value.int .i64)) rfl (by first | (rw [List.length_map, intsN_len, HL1.out.2.2, Nat.mul_one]) | (simp [intsN_len, HL1.out.2.2])) hnews.out (ints_one (intsN tl)) (by simp only [maxLen]; omega) (by omega) (by first | omega | (simp; omega)) ?_; intro vo' w6 hown' hgrow _ hfr; have H6 := hid (H4.out.app (l' := l ++ tl) hgrow (by rw [List.length_append, show intsN (l ++ tl) = intsN l ++ intsN tl by simp [intsN], List.map_append, HL1.out.2.2]; exact hown')); clear hown' hgrow hfr z0 z1; obtain ⟨z0, z1⟩ := H6.out.zb.c2; have zf0 := H6.out.zb.frozen 0; have zf1 := H6.out.zb.frozen 1; have zl := H6.out.zb.lt))
      have HPO := hid (show Pth m 0 o (l ++ tl) from HP.out.append HL1.out.1)
      have HVV := hid (show ∀ k ∈ bl s, k ∈ bl (rmv t o) ∨ k ∈ l ++ tl from fun k hk => by
        rw [HRM.out.2]
        by_cases e : k = o
        · refine .inr ?_
          have := HPO.out.last
          rw [e]; exact this
        · rcases HV.out k hk with h | h
          · exact .inl (List.mem_filter.2 ⟨h, by simp [e]⟩)
          · exact .inr (List.mem_append.2 (.inl h)))
      have hlen9 : (l ++ tl).length + 402 * (bl (rmv t o)).length ≤ 5000 := by rw [List.length_append, HL1.out.2.2, HRM.out.2]; have := HLT.out; omega
      have HN9 := hid (H6.out.step o (rmv t o))
      have HFI := hid (show (∀ k ∈ bl (rmv t o), k ∈ bl s) ∧ (rst T o (bl (rmv t o))).1 < farI from ⟨fun k hk => by rw [HRM.out.2] at hk; exact HSU.out k (List.mem_filter.1 hk).1, by rw [HRM.out.2]; exact HNX.out.2⟩)
      have HME := hid (show (bl (rmv t o)).length < (bl t).length by rw [HRM.out.2]; have := HLT.out; omega)
      go_region
      go_wp2
      go_roundw
      case rel => exact ⟨o, rmv t o, l ++ tl, HN9.out, hoN, HRM.out.1, HFI.out.1, HFI.out.2, HPO.out, HVV.out, hlen9⟩
      case measure => rw [leftOf_blk HN9.out.zb, HLW.out]; exact HME.out
end Go.Proofs.YtlnamjhgbdacbaaGreat
/- The search for a division: what its loop carries along, and the statement that stores an answer. Conditions stand at each theorem. -/
namespace Go.Proofs.YtlnamjhgbdacbaaGreat
open Go.RowKit Go.Shelf

structure SpI (g mp Z bb ab lb sb n : Nat) (m : WMD) (A : Option Addr) (c : Nat) (A2 : Option Addr) (c2 : Nat) (T F : Nat → Nat → Int) (lim : Int) (w W : World) : Prop where
  mem : SpM g mp Z bb ab lb sb n m A c A2 c2 T F lim W
  ch : MChg (fun q => q = mp ∨ q = Z) w W
section
variable {g mp Z bb ab lb sb n i : Nat} {m : WMD} {A A2 : Option Addr} {c c2 : Nat} {T F : Nat → Nat → Int} {lim : Int} {w W W' : World} {v : Value}
theorem SpI.chg (h : SpI g mp Z bb ab lb sb n m A c A2 c2 T F lim w W) (hc : MChg (fun q => q = mp) W W') (ht : TMem T mp W') : SpI g mp Z bb ab lb sb n m A c A2 c2 T F lim w W' := ⟨h.mem.chg hc ht, h.ch.trans (hc.sub fun _ e => .inl e)⟩
theorem SpI.keep (h : SpI g mp Z bb ab lb sb n m A c A2 c2 T F lim w W) (hb : Below W.heap.size W W') : SpI g mp Z bb ab lb sb n m A c A2 c2 T F lim w W' := h.chg (MChg.of_below hb) (h.mem.tm.keep hb)
theorem SpI.go (h : SpI g mp Z bb ab lb sb n m A c A2 c2 T F lim w W) (hm : SpM g mp Z bb ab lb sb n m A c A2 c2 T F lim W') (hc : MChg (fun q => q = mp ∨ q = Z) W W') : SpI g mp Z bb ab lb sb n m A c A2 c2 T F lim w W' := ⟨hm, h.ch.trans hc⟩
theorem SpI.put (h : SpI g mp Z bb ab lb sb n m A c A2 c2 T F lim w W) (hb : Below W.heap.size W W') (hv : SpV m T lim i v W') : SpI g mp Z bb ab lb sb n m A c A2 c2 T F lim w (W'.setCell ⟨Z, i, none⟩ v) :=
  ⟨(h.mem.keep hb).put hv, (h.ch.trans (MChg.of_below hb)).set (.inr rfl) v⟩
end
theorem own_lower {W : World} {base base' e size n : Nat} {v : Value} {xs : List Value} (h : W.ownsRow base' e size v n xs) (hb : base ≤ base') : W.ownsRow base e size v n xs :=
  ⟨h.1, h.2.elim .inl fun ⟨g, cap, cur, a, b, r⟩ => .inr ⟨g, cap, cur, a, Nat.le_trans hb b, r⟩⟩
/-- the statement that stores an answer: the copy of the others (operation 3, slot 76), the list of the one part (5, 78), both joined (6, 79) -/
structure PhA (B : Nat) (L : List Nat) (p : Nat) (W6 : World) (li : Array Bool) (a : Act) (W : World) : Prop where
  bel : Below B W6 W
  sz : B ≤ W.heap.size
  r3 : li.getD 6 false = false → li.getD 3 false = true → W.ownsRow B 111 1 (a.tmps.getD 76 undef) L.length ((intsN L).map (Value.int .i64))
  r5 : li.getD 6 false = false → li.getD 5 false = true → ∃ gl, a.tmps.getD 78 undef = .slice (some ⟨gl, 0, none⟩) 1 1 ∧ Blk W gl 111 #[.int .i64 (p : Int)]
  r6 : li.getD 6 false = true → W.ownsRow B 111 1 (a.tmps.getD 79 undef) (L.length + 1) ((intsN (L ++ [p])).map (Value.int .i64))
section
variable {B : Nat} {L : List Nat} {p : Nat} {W6 W W' : World} {li : Array Bool} {a : Act} {v : Value}
theorem PhA.other (h : PhA B L p W6 li a W) {i d : Nat} (h3 : i ≠ 3) (h5 : i ≠ 5) (h6 : i ≠ 6) (d6 : d ≠ 76) (d8 : d ≠ 78) (d9 : d ≠ 79) : PhA B L p W6 (li.setIfInBounds i true) (a.put (some d) v) W := by
  refine ⟨h.bel, h.sz, ?_, ?_, ?_⟩
  · rw [getD_set_oth h6, getD_set_oth h3, put_getD_other d6]; exact h.r3
  · rw [getD_set_oth h6, getD_set_oth h5, put_getD_other d8]; exact h.r5
  · rw [getD_set_oth h6, put_getD_other d9]; exact h.r6
theorem PhA.clo (h : PhA B L p W6 li a W) (hn : li.getD 6 false = false) (ha : 76 < a.tmps.size) (ho : W'.ownsRow W.heap.size 111 1 v L.length ((intsN L).map (Value.int .i64))) (hb : Below W.heap.size W W') : PhA B L p W6 (li.setIfInBounds 3 true) (a.put (some 76) v) W' := by
  refine ⟨h.bel.trans (hb.mono h.sz), Nat.le_trans h.sz hb.size, ?_, ?_, ?_⟩
  · rw [put_getD_same ha]; exact fun _ _ => own_lower ho h.sz
  · rw [getD_set_oth (by decide), getD_set_oth (by decide), put_getD_other (by decide)]
    intro h1 h2
    obtain ⟨gl, e, hg⟩ := h.r5 h1 h2
    exact ⟨gl, e, hg.keep hb⟩
  · rw [getD_set_oth (by decide), hn]
    intro e; cases e
theorem PhA.bld (h : PhA B L p W6 li a W) (hn : li.getD 6 false = false) (ha : 78 < a.tmps.size) : PhA B L p W6 (li.setIfInBounds 5 true) (a.put (some 78) (.slice (some ⟨W.heap.size, 0, none⟩) 1 1)) (W.alloc (.cells #[.int .i64 (p : Int)] 111)) := by
  have hb := below_box (w := W) #[.int .i64 (p : Int)] 111
  refine ⟨h.bel.trans (hb.mono h.sz), Nat.le_trans h.sz hb.size, ?_, ?_, ?_⟩
  · rw [getD_set_oth (by decide), getD_set_oth (by decide), put_getD_other (by decide)]
    exact fun h1 h2 => row_kept (vo := .slice none 0 0) (h.r3 h1 h2) (grown_of_below hb _) (.inl rfl)
  · rw [put_getD_same ha]
    exact fun _ _ => ⟨_, rfl, Blk.new _ _ _⟩
  · rw [getD_set_oth (by decide), hn]
    intro e; cases e
theorem PhA.app (h : PhA B L p W6 li a W) (hn : li.getD 6 false = false) (h3 : li.getD 3 false = true) (hl : 6 < li.size) (ha : 79 < a.tmps.size) (ho : W'.ownsRow B 111 1 v (L.length + 1) ((intsN L).map (Value.int .i64) ++ [.int .i64 (p : Int)])) (hg : W.grownBy W' (a.tmps.getD 76 undef).ownBlock) : PhA B L p W6 (li.setIfInBounds 6 true) (a.put (some 79) v) W' := by
  refine ⟨below_row' h.bel (h.r3 hn h3) (Nat.le_refl _) hg h.sz, Nat.le_trans h.sz hg.size, ?_, ?_, ?_⟩
  · rw [getD_set_eq hl]; intro e; cases e
  · rw [getD_set_eq hl]; intro e; cases e
  · rw [put_getD_same ha, intsN_snoc, List.map_append]
    exact fun _ => ho
end
theorem PhA.start {B : Nat} {L : List Nat} {p : Nat} {W6 : World} {a : Act} (hB : W6.heap.size = B) : PhA B L p W6 (Array.replicate 9 false) a { W6 with drawn := W6.drawn + 1 } :=
  have key : ∀ {i : Nat}, (Array.replicate 9 false).getD i false = true → False := fun e => by rw [getD_replicate_false] at e; cases e
  ⟨⟨rfl, rfl, rfl, Nat.le_refl _, fun _ _ => rfl⟩, Nat.le_of_eq hB.symm, fun _ e => (key e).elim, fun _ e => (key e).elim, fun e => (key e).elim⟩
end Go.Proofs.YtlnamjhgbdacbaaGreat
