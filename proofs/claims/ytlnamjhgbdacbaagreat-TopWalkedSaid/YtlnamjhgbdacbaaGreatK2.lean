/- The walks and the plain laws of this part of the program, part 2: what each computes. Conditions stand at each theorem. -/
import Derived.LoopN
import Derived.StillTail
import Derived.OrdersIn
import Derived.TacticsIn
import Derived.RangeFuncNested
import Derived.RangeFuncCalls
import Derived.Maps.AppendAt
import Derived.Deep.AppendLies
import Derived.Test.YtlnamjhgbdacbaaGreatK1
/- row, fix, alike: whether a row, a fix, a list of numbers fit a table. -/
namespace Go.Proofs.YtlnamjhgbdacbaaGreat
open Go.RowKit Go.Shelf

theorem below_box {w : World} (cs : Array Value) (t : TypeId) : Below w.heap.size w (w.alloc (.cells cs t)) := (Below.refl _ _).alloc (Nat.le_refl _) _
theorem then_below {w w1 w2 : World} (h : Below w.heap.size w w1) (h2 : Below w1.heap.size w1 w2) : Below w.heap.size w w2 := h.trans (h2.mono h.size)

def rowB (n : Nat) (hi : Int) (xs : List Int) : Bool := ((xs.length : Int) == (n : Int)) && xs.all fun x => withinB x 0 hi

set_option maxRecDepth 10000 in
set_option maxHeartbeats 400000 in
theorem row_any (b f : Value) (A : Option Addr) (c : Nat) (cs : List (List Int)) (A' : Option Addr) (c' : Nat) (xs : List Int) (w : World) (h : IsRows w w.heap.size A cs) (hx : IsInts w w.heap.size A' xs) (hl : xs.length ≤ c') (hm : c' ≤ maxLen) :
    Calls Tryz.prog 87 #[.agg #[b, .slice A cs.length c, f], .slice A' xs.length c'] w fun e w' => e = .returned (.bool (rowB (colsOf cs) 10000 xs)) ∧ Below w.heap.size w w' := by
  have hB := below_box (w := w) #[b, .slice A cs.length c, f] 41
  have HI := hid (fun W (hW : Below w.heap.size w W) => all_int (fun x => withinB x 0 10000) A' c' xs W (hx.at_ hW) hl hm 82 #[] #[] (enters_of Tryz.func82 (by kernel_rfl) rfl)
    (fun W1 x _ _ => by simpa using Calls.same_below (isCell_any x W1)))
  have HC := hid (columns_any b f A c cs _ (h.at_ hB))
  clear h hx
  cases hd : ((xs.length : Int) == (colsOf cs : Int))
  · have HR : Hid (rowB (colsOf cs) 10000 xs = false) := hid (by simp only [rowB, hd]; rfl)
    go_enter Tryz.func87, Tryz.ntmps87
    go_wp2_with fail
    refine HC.out.mono ?_
    rintro e w2 ⟨rfl, hb2⟩
    go_wp2
    go_ret
    exact ⟨by rw [HR.out]; rfl, then_below hB hb2⟩
  · have HR : Hid (rowB (colsOf cs) 10000 xs = xs.all fun x => withinB x 0 10000) := hid (by simp only [rowB, hd]; rfl)
    go_enter Tryz.func87, Tryz.ntmps87
    go_wp2_with fail
    refine HC.out.mono ?_
    rintro e w2 ⟨rfl, hb2⟩
    have h2 := then_below hB hb2
    go_wp2_with fail
    refine (HI.out w2 h2).mono ?_
    rintro e w3 ⟨rfl, hb3⟩
    go_wp2
    go_ret
    exact ⟨by rw [HR.out]; rfl, then_below h2 hb3⟩

def fixOkB (n m : Nat) (f : Fx) : Bool := withinB f.row 0 (n - 1) && withinB f.col 0 (m - 1) && withinB f.val 0 10100

set_option maxRecDepth 10000 in
set_option maxHeartbeats 400000 in
theorem fix_any (b f : Value) (A : Option Addr) (c : Nat) (cs : List (List Int)) (x : Fx) (w : World) (h : IsRows w w.heap.size A cs) (hl : cs.length ≤ maxLen) (hk : colsOf cs ≤ maxLen) :
    Calls Tryz.prog 88 #[.agg #[b, .slice A cs.length c, f], .agg #[.int .i64 x.row, .int .i64 x.col, .int .i64 x.val]] w fun e w' => e = .returned (.bool (fixOkB cs.length (colsOf cs) x)) ∧ Below w.heap.size w w' := by
  unfold maxLen at hl hk
  have hB := below_box (w := w) #[b, .slice A cs.length c, f] 41
  have hB2 := then_below hB (below_box #[.int .i64 x.row, .int .i64 x.col, .int .i64 x.val] 176)
  have HC := hid (fun W (hW : Below w.heap.size w W) => columns_any b f A c cs W (h.at_ hW))
  clear h
  go_enter Tryz.func88, Tryz.ntmps88
  go_wp2_with fail
  refine gen (p := Code.wp _ _ _ _) (fun W => Below w.heap.size w W ∧ Blk W w.heap.size 41 #[b, .slice A cs.length c, f] ∧ Blk W (w.heap.size + 1) 176 #[.int .i64 x.row, .int .i64 x.col, .int .i64 x.val]) ⟨hB2, (Blk.new _ _ _).alloc _, by have := Blk.new (w.alloc (.cells #[b, .slice A cs.length c, f] 41)) 176 #[.int .i64 x.row, .int .i64 x.col, .int .i64 x.val]; rwa [World.size_alloc] at this⟩ ?_
  rintro W ⟨hbW, hBT, hBF⟩
  obtain ⟨e1, e2, e3⟩ := xt_c3 hBT
  obtain ⟨e4, e5, e6⟩ := xt_c3 hBF
  have HC2 := hid (fun q => HC.out (xt W q) (then_below hbW (below_xt W q)))
  clear HC hB hB2 hBT hBF
  have hnum := hid (fun W => isNumber_any x.val W)
  have hR := hid (fun W => within_any x.row 0 (cs.length - 1) W)
  have hL := hid (fun W => within_any x.col 0 (colsOf cs - 1) W)
  cases h1 : withinB x.row 0 (cs.length - 1)
  · have HF : Hid (fixOkB cs.length (colsOf cs) x = false) := hid (by simp only [fixOkB, h1]; rfl)
    rw [h1] at hR
    clear h1
    refine wp_region_quiet_xt (by kernel_rfl) (by kernel_rfl) ?_
    repeat (go_big_quiet_step ((first | (go_at_call 62; with_reducible exact Calls.xt (Calls.same_below (hR.out _))))))
    refine wpQuiet_nil ?_
    intro w3 hw3
    replace hw3 := of_xt hw3
    go_wp2
    go_ret
    exact ⟨by rw [HF.out]; rfl, then_below hbW hw3⟩
  · rw [h1] at hR
    cases h2 : withinB x.col 0 (colsOf cs - 1)
    · have HF : Hid (fixOkB cs.length (colsOf cs) x = false) := hid (by simp only [fixOkB, h1, h2]; rfl)
      rw [h2] at hL
      clear h1 h2
      refine wp_region_quiet_xt (by kernel_rfl) (by kernel_rfl) ?_
      repeat (go_big_quiet_step ((first | (go_at_call 62; with_reducible exact Calls.xt (Calls.same_below (hR.out _))) | (go_at_call 62; with_reducible exact Calls.xt (Calls.same_below (hL.out _))) | (go_at_call 91; exact Calls.xt (HC2.out _)))))
      refine wpQuiet_nil ?_
      intro w3 hw3
      replace hw3 := of_xt hw3
      go_wp2
      go_ret
      exact ⟨by rw [HF.out]; rfl, then_below hbW hw3⟩
    · have HF : Hid (fixOkB cs.length (colsOf cs) x = withinB x.val 0 10100) := hid (by simp only [fixOkB, h1, h2]; rfl)
      rw [h2] at hL
      clear h1 h2
      refine wp_region_quiet_xt (by kernel_rfl) (by kernel_rfl) ?_
      repeat (go_big_quiet_step ((first | (go_at_call 62; with_reducible exact Calls.xt (Calls.same_below (hR.out _))) | (go_at_call 62; with_reducible exact Calls.xt (Calls.same_below (hL.out _))) | (go_at_call 91; exact Calls.xt (HC2.out _)) | (go_at_call 32; exact Calls.xt (Calls.same_below (hnum.out _))))))
      refine wpQuiet_nil ?_
      intro w3 hw3
      replace hw3 := of_xt hw3
      go_wp2
      go_ret
      exact ⟨by rw [HF.out]; rfl, then_below hbW hw3⟩
end Go.Proofs.YtlnamjhgbdacbaaGreat
/- Words for maps in memory: lists of streets and of joins. No condition. -/
namespace Go.Proofs.YtlnamjhgbdacbaaGreat
open Go.RowKit

/-- the slice at A reads as these streets, below block n -/
def IsStts (w : World) (n : Nat) (A : Option Addr) (ss : List Stt) : Prop :=
  ∀ k s, ss[k]? = some s → ∃ a, A = some a ∧ a.block < n ∧ w.cell? (a.add (k * 5)) = some (.int .i64 s.o) ∧ w.cell? ⟨(a.add (k * 5)).block, (a.add (k * 5)).off + 1, none⟩ = some (.int .i64 s.n) ∧ w.cell? ⟨(a.add (k * 5)).block, (a.add (k * 5)).off + 2, none⟩ = some (.int .i64 s.wt) ∧ w.cell? ⟨(a.add (k * 5)).block, (a.add (k * 5)).off + 3, none⟩ = some (.int .i64 s.lo) ∧ w.cell? ⟨(a.add (k * 5)).block, (a.add (k * 5)).off + 4, none⟩ = some (.int .i64 s.hi)
def IsJns (w : World) (n : Nat) (A : Option Addr) (js : List Jn) : Prop :=
  ∀ k j, js[k]? = some j → ∃ a, A = some a ∧ a.block < n ∧ w.cell? (a.add (k * 2)) = some (.int .i64 j.a) ∧ w.cell? ⟨(a.add (k * 2)).block, (a.add (k * 2)).off + 1, none⟩ = some (.int .i64 j.b)
section
variable {w w' : World} {n m : Nat} {A : Option Addr}
theorem IsStts.below {ss : List Stt} (h : IsStts w n A ss) (hb : Below n w w') : IsStts w' n A ss := fun k s hk => by
  obtain ⟨a, e, hl, h0, h1, h2, h3, h4⟩ := h k s hk
  have g : ∀ o, w'.cell? ⟨(a.add (k * 5)).block, o, none⟩ = w.cell? ⟨(a.add (k * 5)).block, o, none⟩ := fun o => hb.cell (by show (a.add _).block < n; rw [block_of_add]; exact hl)
  exact ⟨a, e, hl, (hb.cell (by rw [block_of_add]; exact hl)).trans h0, (g _).trans h1, (g _).trans h2, (g _).trans h3, (g _).trans h4⟩
theorem IsStts.more {ss : List Stt} (h : IsStts w n A ss) (hm : n ≤ m) : IsStts w m A ss := fun k s hk => by
  obtain ⟨a, e, hl, h0⟩ := h k s hk
  exact ⟨a, e, by omega, h0⟩
theorem IsJns.below {js : List Jn} (h : IsJns w n A js) (hb : Below n w w') : IsJns w' n A js := fun k s hk => by
  obtain ⟨a, e, hl, h0, h1⟩ := h k s hk
  exact ⟨a, e, hl, (hb.cell (by rw [block_of_add]; exact hl)).trans h0, (hb.cell (by show (a.add _).block < n; rw [block_of_add]; exact hl)).trans h1⟩
theorem IsJns.more {js : List Jn} (h : IsJns w n A js) (hm : n ≤ m) : IsJns w m A js := fun k s hk => by
  obtain ⟨a, e, hl, h0⟩ := h k s hk
  exact ⟨a, e, by omega, h0⟩
end
theorem IsStts.at_ {w w' : World} {A : Option Addr} {ss : List Stt} (h : IsStts w w.heap.size A ss) (hb : Below w.heap.size w w') : IsStts w' w'.heap.size A ss := (h.below hb).more hb.size
theorem IsJns.at_ {w w' : World} {A : Option Addr} {js : List Jn} (h : IsJns w w.heap.size A js) (hb : Below w.heap.size w w') : IsJns w' w'.heap.size A js := (h.below hb).more hb.size
/-- a map's lists lie in memory -/
structure MIn (m : MapD) (A : Option Addr) (c : Nat) (A2 : Option Addr) (c2 : Nat) (A3 : Option Addr) (c3 : Nat) (w : World) : Prop where
  io : IsInts w w.heap.size A m.old
  is : IsStts w w.heap.size A2 m.ss
  ij : IsJns w w.heap.size A3 m.js
  l1 : m.old.length ≤ c
  m1 : c ≤ maxLen
  l2 : m.ss.length ≤ c2
  m2 : c2 ≤ maxLen
  l3 : m.js.length ≤ c3
  m3 : c3 ≤ maxLen
theorem MIn.at_ {m : MapD} {A : Option Addr} {c : Nat} {A2 : Option Addr} {c2 : Nat} {A3 : Option Addr} {c3 : Nat} {w w' : World} (h : MIn m A c A2 c2 A3 c3 w) (hb : Below w.heap.size w w') : MIn m A c A2 c2 A3 c3 w' :=
  ⟨h.io.at_ hb, h.is.at_ hb, h.ij.at_ hb, h.l1, h.m1, h.l2, h.m2, h.l3, h.m3⟩
theorem xt_c2 {w : World} {g : Nat} {t : TypeId} {x y : Value} (h : Blk w g t #[x, y]) : (∀ q, (xt w q).cell? ⟨g, 0, none⟩ = some x) ∧ (∀ q, (xt w q).cell? ⟨g, 1, none⟩ = some y) :=
  ⟨fun q => (h.keep (below_xt w q)).c2.1, fun q => (h.keep (below_xt w q)).c2.2⟩
end Go.Proofs.YtlnamjhgbdacbaaGreat
/- border's all: whether each element of a list passes a test. -/
namespace Go.Proofs.YtlnamjhgbdacbaaGreat
open Go.RowKit Go.Shelf

set_option maxRecDepth 10000 in
set_option maxHeartbeats 400000 in
theorem ball_int1 (g : Nat) (bnd cap : Array Value) (B : Nat) (t : Bool) (x : Int) (W : World) (eg : ∀ args w, (callFunc g args).run Tryz.prog w = .ok (.enter g args) w) (hB : Blk W B 105 #[.func (.func g) bnd cap])
    (hp : Calls Tryz.prog g (bnd.push (.int .i64 x) ++ cap) W fun e W' => e = .returned (.bool t) ∧ Below W.heap.size W W') :
    Calls Tryz.prog 75 #[.int .i64 x, .pointer (some ⟨B, 0, none⟩)] W fun e W' => e = .returned (.bool (!t)) ∧ Below W.heap.size W W' := by
  have c0 := hB.c1
  have HP := hid hp
  clear hp hB
  go_enter Tryz.func75, Tryz.ntmps75
  go_wp2_with fail
  refine HP.out.mono ?_
  rintro e w2 ⟨rfl, hb2⟩
  go_wp2
  go_ret
  exact ⟨rfl, hb2⟩

set_option maxHeartbeats 400000 in
theorem ball_int (p : Int → Bool) (A : Option Addr) (c : Nat) (xs : List Int) (w : World) (h : IsInts w w.heap.size A xs) (hl : xs.length ≤ c) (hm : c ≤ maxLen)
    (g : Nat) (bnd cap : Array Value) (eg : ∀ args w, (callFunc g args).run Tryz.prog w = .ok (.enter g args) w) (hp : PredI g bnd cap p xs w) :
    Calls Tryz.prog 50 #[.slice A xs.length c, .func (.func g) bnd cap] w fun e w' => e = .returned (.bool (xs.all p)) ∧ Below w.heap.size w w' := by
  have hB : Below w.heap.size w (w.alloc (.cells #[.func (.func g) bnd cap] 105)) := (Below.refl _ _).alloc (Nat.le_refl _) _
  have HI := hid (has_int (fun x => !p x) A c xs _ (h.at_ hB) hl hm 75 #[] #[.pointer (some ⟨w.heap.size, 0, none⟩)] (enters_of Tryz.func75 (by kernel_rfl) rfl)
    (fun W x hW hx => ball_int1 g bnd cap w.heap.size (p x) x W eg ((Blk.new _ _ _).keep hW) (hp W x (hB.trans (hW.mono hB.size)) hx)))
  have HN : Hid ((!xs.any fun x => !p x) = xs.all p) := hid (by simp [List.all_eq_not_any_not])
  clear hp h eg
  go_enter Tryz.func50, Tryz.ntmps50
  go_wp2_with fail
  refine HI.out.mono ?_
  rintro e w2 ⟨rfl, hb2⟩
  go_wp2
  go_ret
  exact ⟨by rw [← HN.out]; rfl, hB.trans (hb2.mono hB.size)⟩

/-- a test of elements: what it says, in each world that has only grown -/
def PredS (g : Nat) (bnd cap : Array Value) (p : Stt → Bool) (xs : List Stt) (w : World) : Prop :=
  ∀ W x, Below w.heap.size w W → x ∈ xs → Calls Tryz.prog g (bnd.push (.agg #[.int .i64 x.o, .int .i64 x.n, .int .i64 x.wt, .int .i64 x.lo, .int .i64 x.hi]) ++ cap) W fun e W' => e = .returned (.bool (p x)) ∧ Below W.heap.size W W'

set_option maxRecDepth 10000 in
set_option maxHeartbeats 400000 in
theorem ball_stt1 (g : Nat) (bnd cap : Array Value) (B : Nat) (t : Bool) (x : Stt) (W : World) (eg : ∀ args w, (callFunc g args).run Tryz.prog w = .ok (.enter g args) w) (hB : Blk W B 132 #[.func (.func g) bnd cap])
    (hp : ∀ W1, Below W.heap.size W W1 → Calls Tryz.prog g (bnd.push (.agg #[.int .i64 x.o, .int .i64 x.n, .int .i64 x.wt, .int .i64 x.lo, .int .i64 x.hi]) ++ cap) W1 fun e W' => e = .returned (.bool t) ∧ Below W1.heap.size W1 W') :
    Calls Tryz.prog 77 #[.agg #[.int .i64 x.o, .int .i64 x.n, .int .i64 x.wt, .int .i64 x.lo, .int .i64 x.hi], .pointer (some ⟨B, 0, none⟩)] W fun e W' => e = .returned (.bool (!t)) ∧ Below W.heap.size W W' := by
  have c0 := hB.c1
  have hlt := hB.lt
  have hbW : Below W.heap.size W (W.alloc (.cells #[.int .i64 x.o, .int .i64 x.n, .int .i64 x.wt, .int .i64 x.lo, .int .i64 x.hi] 70)) := (Below.refl _ _).alloc (Nat.le_refl _) _
  have HP := hid (hp _ hbW)
  clear hp hB
  go_enter Tryz.func77, Tryz.ntmps77
  go_wp2_with fail
  refine HP.out.mono ?_
  rintro e w2 ⟨rfl, hb2⟩
  go_wp2
  go_ret
  exact ⟨rfl, hbW.trans (hb2.mono hbW.size)⟩

set_option maxRecDepth 10000 in
set_option maxHeartbeats 400000 in
theorem bidx_stt (f : Value) (q : Stt → Bool) (A : Option Addr) (c : Nat) (xs : List Stt) (w : World) (h : IsStts w w.heap.size A xs) (hl : xs.length ≤ c) (hm : c ≤ maxLen)
    (g : Nat) (bnd cap : Array Value) (hf : f = .func (.func g) bnd cap) (eg : ∀ args w, (callFunc g args).run Tryz.prog w = .ok (.enter g args) w) (hp : PredS g bnd cap q xs w) :
    Calls Tryz.prog 111 #[.slice A xs.length c, f] w fun e w' => e = .returned (.int .i64 (idxOf q xs)) ∧ Below w.heap.size w w' := by
  subst hf
  unfold maxLen at hm
  have HP := hid hp
  clear hp
  go_enter Tryz.func111, Tryz.ntmps111
  go_wp2
  go_loopw [8] (fun i wr => ∃ k : Nat, k ≤ xs.length ∧ i = .int .i64 k ∧ Below w.heap.size w wr ∧ (xs.take k).any q = false) (fun i _ => xs.length - (intOf i).toNat)
  case atStart => exact ⟨0, Nat.zero_le _, rfl, Below.refl _ _, rfl⟩
  case round =>
    obtain ⟨k, hk, rfl, hbr, hno⟩ := hrel
    have HN := hid hno; clear hno
    by_cases hlt : k < xs.length
    · obtain ⟨a, rfl, hb, f0, f1, f2, f3, f4⟩ := h.below hbr k xs[k] (List.getElem?_eq_getElem hlt)
      have HC := hid (HP.out wr xs[k] hbr (List.getElem_mem hlt))
      have HH := hid (@idxOf_hit Stt q xs k hlt)
      have HT := hid (any_take q xs k hlt)
      generalize xs[k] = x at *
      cases hq : q x
      all_goals
        have HQ := hid hq
        clear hq
        go_wp2_with fail
        refine HC.out.mono ?_
        rintro e w2 ⟨rfl, hb2⟩
        rw [HQ.out]
        go_wp2
      · go_roundw
        case rel => exact ⟨k + 1, by omega, by go_num, hbr.trans (hb2.mono hbr.size), by rw [HT.out, HN.out, HQ.out]; rfl⟩
        case measure => simp [intOf]; omega
      · go_ret
        exact ⟨by rw [HH.out HN.out HQ.out]; rfl, hbr.trans (hb2.mono hbr.size)⟩
    · obtain rfl : k = xs.length := by omega
      rw [List.take_length] at HN
      have HM := hid (idxOf_miss HN.out)
      go_wp2
      go_ret
      exact ⟨by rw [HM.out]; rfl, hbr⟩

set_option maxHeartbeats 400000 in
theorem bhas_stt (q : Stt → Bool) (A : Option Addr) (c : Nat) (xs : List Stt) (w : World) (h : IsStts w w.heap.size A xs) (hl : xs.length ≤ c) (hm : c ≤ maxLen)
    (g : Nat) (bnd cap : Array Value) (eg : ∀ args w, (callFunc g args).run Tryz.prog w = .ok (.enter g args) w) (hp : PredS g bnd cap q xs w) :
    Calls Tryz.prog 76 #[.slice A xs.length c, .func (.func g) bnd cap] w fun e w' => e = .returned (.bool (xs.any q)) ∧ Below w.heap.size w w' := by
  have HI := hid (bidx_stt _ q A c xs w h hl hm g bnd cap rfl eg hp)
  have HN := hid (idxOf_nonneg q xs)
  clear hp h eg
  go_enter Tryz.func76, Tryz.ntmps76
  go_wp2_with fail
  refine HI.out.mono ?_
  rintro e w2 ⟨rfl, hb2⟩
  go_wp2
  go_ret
  exact ⟨by rw [← HN.out]; rfl, hb2⟩

set_option maxHeartbeats 400000 in
theorem ball_stt (p : Stt → Bool) (A : Option Addr) (c : Nat) (xs : List Stt) (w : World) (h : IsStts w w.heap.size A xs) (hl : xs.length ≤ c) (hm : c ≤ maxLen)
    (g : Nat) (bnd cap : Array Value) (eg : ∀ args w, (callFunc g args).run Tryz.prog w = .ok (.enter g args) w) (hp : PredS g bnd cap p xs w) :
    Calls Tryz.prog 53 #[.slice A xs.length c, .func (.func g) bnd cap] w fun e w' => e = .returned (.bool (xs.all p)) ∧ Below w.heap.size w w' := by
  have hB : Below w.heap.size w (w.alloc (.cells #[.func (.func g) bnd cap] 132)) := (Below.refl _ _).alloc (Nat.le_refl _) _
  have HI := hid (bhas_stt (fun x => !p x) A c xs _ (h.at_ hB) hl hm 77 #[] #[.pointer (some ⟨w.heap.size, 0, none⟩)] (enters_of Tryz.func77 (by kernel_rfl) rfl)
    (fun W x hW hx => ball_stt1 g bnd cap w.heap.size (p x) x W eg ((Blk.new _ _ _).keep hW) (fun W1 h1 => hp W1 x (hB.trans ((hW.trans (h1.mono hW.size)).mono hB.size)) hx)))
  have HN : Hid ((!xs.any fun x => !p x) = xs.all p) := hid (by simp [List.all_eq_not_any_not])
  clear hp h eg
  go_enter Tryz.func53, Tryz.ntmps53
  go_wp2_with fail
  refine HI.out.mono ?_
  rintro e w2 ⟨rfl, hb2⟩
  go_wp2
  go_ret
  exact ⟨by rw [← HN.out]; rfl, hB.trans (hb2.mono hB.size)⟩

/-- a test of elements: what it says, in each world that has only grown -/
def PredJ (g : Nat) (bnd cap : Array Value) (p : Jn → Bool) (xs : List Jn) (w : World) : Prop :=
  ∀ W x, Below w.heap.size w W → x ∈ xs → Calls Tryz.prog g (bnd.push (.agg #[.int .i64 x.a, .int .i64 x.b]) ++ cap) W fun e W' => e = .returned (.bool (p x)) ∧ Below W.heap.size W W'

set_option maxRecDepth 10000 in
set_option maxHeartbeats 400000 in
theorem ball_jn1 (g : Nat) (bnd cap : Array Value) (B : Nat) (t : Bool) (x : Jn) (W : World) (eg : ∀ args w, (callFunc g args).run Tryz.prog w = .ok (.enter g args) w) (hB : Blk W B 133 #[.func (.func g) bnd cap])
    (hp : ∀ W1, Below W.heap.size W W1 → Calls Tryz.prog g (bnd.push (.agg #[.int .i64 x.a, .int .i64 x.b]) ++ cap) W1 fun e W' => e = .returned (.bool t) ∧ Below W1.heap.size W1 W') :
    Calls Tryz.prog 79 #[.agg #[.int .i64 x.a, .int .i64 x.b], .pointer (some ⟨B, 0, none⟩)] W fun e W' => e = .returned (.bool (!t)) ∧ Below W.heap.size W W' := by
  have c0 := hB.c1
  have hlt := hB.lt
  have hbW : Below W.heap.size W (W.alloc (.cells #[.int .i64 x.a, .int .i64 x.b] 77)) := (Below.refl _ _).alloc (Nat.le_refl _) _
  have HP := hid (hp _ hbW)
  clear hp hB
  go_enter Tryz.func79, Tryz.ntmps79
  go_wp2_with fail
  refine HP.out.mono ?_
  rintro e w2 ⟨rfl, hb2⟩
  go_wp2
  go_ret
  exact ⟨rfl, hbW.trans (hb2.mono hbW.size)⟩

set_option maxRecDepth 10000 in
set_option maxHeartbeats 400000 in
theorem bidx_jn (f : Value) (q : Jn → Bool) (A : Option Addr) (c : Nat) (xs : List Jn) (w : World) (h : IsJns w w.heap.size A xs) (hl : xs.length ≤ c) (hm : c ≤ maxLen)
    (g : Nat) (bnd cap : Array Value) (hf : f = .func (.func g) bnd cap) (eg : ∀ args w, (callFunc g args).run Tryz.prog w = .ok (.enter g args) w) (hp : PredJ g bnd cap q xs w) :
    Calls Tryz.prog 112 #[.slice A xs.length c, f] w fun e w' => e = .returned (.int .i64 (idxOf q xs)) ∧ Below w.heap.size w w' := by
  subst hf
  unfold maxLen at hm
  have HP := hid hp
  clear hp
  go_enter Tryz.func112, Tryz.ntmps112
  go_wp2
  go_loopw [8] (fun i wr => ∃ k : Nat, k ≤ xs.length ∧ i = .int .i64 k ∧ Below w.heap.size w wr ∧ (xs.take k).any q = false) (fun i _ => xs.length - (intOf i).toNat)
  case atStart => exact ⟨0, Nat.zero_le _, rfl, Below.refl _ _, rfl⟩
  case round =>
    obtain ⟨k, hk, rfl, hbr, hno⟩ := hrel
    have HN := hid hno; clear hno
    by_cases hlt : k < xs.length
    · obtain ⟨a, rfl, hb, f0, f1⟩ := h.below hbr k xs[k] (List.getElem?_eq_getElem hlt)
      have HC := hid (HP.out wr xs[k] hbr (List.getElem_mem hlt))
      have HH := hid (@idxOf_hit Jn q xs k hlt)
      have HT := hid (any_take q xs k hlt)
      generalize xs[k] = x at *
      cases hq : q x
      all_goals
        have HQ := hid hq
        clear hq
        go_wp2_with fail
        refine HC.out.mono ?_
        rintro e w2 ⟨rfl, hb2⟩
        rw [HQ.out]
        go_wp2
      · go_roundw
        case rel => exact ⟨k + 1, by omega, by go_num, hbr.trans (hb2.mono hbr.size), by rw [HT.out, HN.out, HQ.out]; rfl⟩
        case measure => simp [intOf]; omega
      · go_ret
        exact ⟨by rw [HH.out HN.out HQ.out]; rfl, hbr.trans (hb2.mono hbr.size)⟩
    · obtain rfl : k = xs.length := by omega
      rw [List.take_length] at HN
      have HM := hid (idxOf_miss HN.out)
      go_wp2
      go_ret
      exact ⟨by rw [HM.out]; rfl, hbr⟩

set_option maxHeartbeats 400000 in
theorem bhas_jn (q : Jn → Bool) (A : Option Addr) (c : Nat) (xs : List Jn) (w : World) (h : IsJns w w.heap.size A xs) (hl : xs.length ≤ c) (hm : c ≤ maxLen)
    (g : Nat) (bnd cap : Array Value) (eg : ∀ args w, (callFunc g args).run Tryz.prog w = .ok (.enter g args) w) (hp : PredJ g bnd cap q xs w) :
    Calls Tryz.prog 78 #[.slice A xs.length c, .func (.func g) bnd cap] w fun e w' => e = .returned (.bool (xs.any q)) ∧ Below w.heap.size w w' := by
  have HI := hid (bidx_jn _ q A c xs w h hl hm g bnd cap rfl eg hp)
  have HN := hid (idxOf_nonneg q xs)
  clear hp h eg
  go_enter Tryz.func78, Tryz.ntmps78
  go_wp2_with fail
  refine HI.out.mono ?_
  rintro e w2 ⟨rfl, hb2⟩
  go_wp2
  go_ret
  exact ⟨by rw [← HN.out]; rfl, hb2⟩

set_option maxHeartbeats 400000 in
theorem ball_jn (p : Jn → Bool) (A : Option Addr) (c : Nat) (xs : List Jn) (w : World) (h : IsJns w w.heap.size A xs) (hl : xs.length ≤ c) (hm : c ≤ maxLen)
    (g : Nat) (bnd cap : Array Value) (eg : ∀ args w, (callFunc g args).run Tryz.prog w = .ok (.enter g args) w) (hp : PredJ g bnd cap p xs w) :
    Calls Tryz.prog 55 #[.slice A xs.length c, .func (.func g) bnd cap] w fun e w' => e = .returned (.bool (xs.all p)) ∧ Below w.heap.size w w' := by
  have hB : Below w.heap.size w (w.alloc (.cells #[.func (.func g) bnd cap] 133)) := (Below.refl _ _).alloc (Nat.le_refl _) _
  have HI := hid (bhas_jn (fun x => !p x) A c xs _ (h.at_ hB) hl hm 79 #[] #[.pointer (some ⟨w.heap.size, 0, none⟩)] (enters_of Tryz.func79 (by kernel_rfl) rfl)
    (fun W x hW hx => ball_jn1 g bnd cap w.heap.size (p x) x W eg ((Blk.new _ _ _).keep hW) (fun W1 h1 => hp W1 x (hB.trans ((hW.trans (h1.mono hW.size)).mono hB.size)) hx)))
  have HN : Hid ((!xs.any fun x => !p x) = xs.all p) := hid (by simp [List.all_eq_not_any_not])
  clear hp h eg
  go_enter Tryz.func55, Tryz.ntmps55
  go_wp2_with fail
  refine HI.out.mono ?_
  rintro e w2 ⟨rfl, hb2⟩
  go_wp2
  go_ret
  exact ⟨by rw [← HN.out]; rfl, hB.trans (hb2.mono hB.size)⟩
end Go.Proofs.YtlnamjhgbdacbaaGreat
/- walk's all: whether each element of a list passes a test. -/
namespace Go.Proofs.YtlnamjhgbdacbaaGreat
open Go.RowKit Go.Shelf

set_option maxRecDepth 10000 in
set_option maxHeartbeats 400000 in
theorem wall_int1 (g : Nat) (bnd cap : Array Value) (B : Nat) (t : Bool) (x : Int) (W : World) (eg : ∀ args w, (callFunc g args).run Tryz.prog w = .ok (.enter g args) w) (hB : Blk W B 105 #[.func (.func g) bnd cap])
    (hp : Calls Tryz.prog g (bnd.push (.int .i64 x) ++ cap) W fun e W' => e = .returned (.bool t) ∧ Below W.heap.size W W') :
    Calls Tryz.prog 73 #[.int .i64 x, .pointer (some ⟨B, 0, none⟩)] W fun e W' => e = .returned (.bool (!t)) ∧ Below W.heap.size W W' := by
  have c0 := hB.c1
  have HP := hid hp
  clear hp hB
  go_enter Tryz.func73, Tryz.ntmps73
  go_wp2_with fail
  refine HP.out.mono ?_
  rintro e w2 ⟨rfl, hb2⟩
  go_wp2
  go_ret
  exact ⟨rfl, hb2⟩


set_option maxHeartbeats 400000 in
theorem wall_int (p : Int → Bool) (A : Option Addr) (c : Nat) (xs : List Int) (w : World) (h : IsInts w w.heap.size A xs) (hl : xs.length ≤ c) (hm : c ≤ maxLen)
    (g : Nat) (bnd cap : Array Value) (eg : ∀ args w, (callFunc g args).run Tryz.prog w = .ok (.enter g args) w) (hp : PredI g bnd cap p xs w) :
    Calls Tryz.prog 46 #[.slice A xs.length c, .func (.func g) bnd cap] w fun e w' => e = .returned (.bool (xs.all p)) ∧ Below w.heap.size w w' := by
  have hB : Below w.heap.size w (w.alloc (.cells #[.func (.func g) bnd cap] 105)) := (Below.refl _ _).alloc (Nat.le_refl _) _
  have HI := hid (has_int (fun x => !p x) A c xs _ (h.at_ hB) hl hm 73 #[] #[.pointer (some ⟨w.heap.size, 0, none⟩)] (enters_of Tryz.func73 (by kernel_rfl) rfl)
    (fun W x hW hx => wall_int1 g bnd cap w.heap.size (p x) x W eg ((Blk.new _ _ _).keep hW) (hp W x (hB.trans (hW.mono hB.size)) hx)))
  have HN : Hid ((!xs.any fun x => !p x) = xs.all p) := hid (by simp [List.all_eq_not_any_not])
  clear hp h eg
  go_enter Tryz.func46, Tryz.ntmps46
  go_wp2_with fail
  refine HI.out.mono ?_
  rintro e w2 ⟨rfl, hb2⟩
  go_wp2
  go_ret
  exact ⟨by rw [← HN.out]; rfl, hB.trans (hb2.mono hB.size)⟩


set_option maxRecDepth 10000 in
set_option maxHeartbeats 400000 in
theorem wall_rng1 (g : Nat) (bnd cap : Array Value) (B : Nat) (t : Bool) (x : Jn) (W : World) (eg : ∀ args w, (callFunc g args).run Tryz.prog w = .ok (.enter g args) w) (hB : Blk W B 161 #[.func (.func g) bnd cap])
    (hp : ∀ W1, Below W.heap.size W W1 → Calls Tryz.prog g (bnd.push (.agg #[.int .i64 x.a, .int .i64 x.b]) ++ cap) W1 fun e W' => e = .returned (.bool t) ∧ Below W1.heap.size W1 W') :
    Calls Tryz.prog 106 #[.agg #[.int .i64 x.a, .int .i64 x.b], .pointer (some ⟨B, 0, none⟩)] W fun e W' => e = .returned (.bool (!t)) ∧ Below W.heap.size W W' := by
  have c0 := hB.c1
  have hlt := hB.lt
  have hbW : Below W.heap.size W (W.alloc (.cells #[.int .i64 x.a, .int .i64 x.b] 87)) := (Below.refl _ _).alloc (Nat.le_refl _) _
  have HP := hid (hp _ hbW)
  clear hp hB
  go_enter Tryz.func106, Tryz.ntmps106
  go_wp2_with fail
  refine HP.out.mono ?_
  rintro e w2 ⟨rfl, hb2⟩
  go_wp2
  go_ret
  exact ⟨rfl, hbW.trans (hb2.mono hbW.size)⟩


set_option maxRecDepth 10000 in
set_option maxHeartbeats 400000 in
theorem widx_rng (f : Value) (q : Jn → Bool) (A : Option Addr) (c : Nat) (xs : List Jn) (w : World) (h : IsJns w w.heap.size A xs) (hl : xs.length ≤ c) (hm : c ≤ maxLen)
    (g : Nat) (bnd cap : Array Value) (hf : f = .func (.func g) bnd cap) (eg : ∀ args w, (callFunc g args).run Tryz.prog w = .ok (.enter g args) w) (hp : PredJ g bnd cap q xs w) :
    Calls Tryz.prog 120 #[.slice A xs.length c, f] w fun e w' => e = .returned (.int .i64 (idxOf q xs)) ∧ Below w.heap.size w w' := by
  subst hf
  unfold maxLen at hm
  have HP := hid hp
  clear hp
  go_enter Tryz.func120, Tryz.ntmps120
  go_wp2
  go_loopw [8] (fun i wr => ∃ k : Nat, k ≤ xs.length ∧ i = .int .i64 k ∧ Below w.heap.size w wr ∧ (xs.take k).any q = false) (fun i _ => xs.length - (intOf i).toNat)
  case atStart => exact ⟨0, Nat.zero_le _, rfl, Below.refl _ _, rfl⟩
  case round =>
    obtain ⟨k, hk, rfl, hbr, hno⟩ := hrel
    have HN := hid hno; clear hno
    by_cases hlt : k < xs.length
    · obtain ⟨a, rfl, hb, f0, f1⟩ := h.below hbr k xs[k] (List.getElem?_eq_getElem hlt)
      have HC := hid (HP.out wr xs[k] hbr (List.getElem_mem hlt))
      have HH := hid (@idxOf_hit Jn q xs k hlt)
      have HT := hid (any_take q xs k hlt)
      generalize xs[k] = x at *
      cases hq : q x
      all_goals
        have HQ := hid hq
        clear hq
        go_wp2_with fail
        refine HC.out.mono ?_
        rintro e w2 ⟨rfl, hb2⟩
        rw [HQ.out]
        go_wp2
      · go_roundw
        case rel => exact ⟨k + 1, by omega, by go_num, hbr.trans (hb2.mono hbr.size), by rw [HT.out, HN.out, HQ.out]; rfl⟩
        case measure => simp [intOf]; omega
      · go_ret
        exact ⟨by rw [HH.out HN.out HQ.out]; rfl, hbr.trans (hb2.mono hbr.size)⟩
    · obtain rfl : k = xs.length := by omega
      rw [List.take_length] at HN
      have HM := hid (idxOf_miss HN.out)
      go_wp2
      go_ret
      exact ⟨by rw [HM.out]; rfl, hbr⟩


set_option maxHeartbeats 400000 in
theorem whas_rng (q : Jn → Bool) (A : Option Addr) (c : Nat) (xs : List Jn) (w : World) (h : IsJns w w.heap.size A xs) (hl : xs.length ≤ c) (hm : c ≤ maxLen)
    (g : Nat) (bnd cap : Array Value) (eg : ∀ args w, (callFunc g args).run Tryz.prog w = .ok (.enter g args) w) (hp : PredJ g bnd cap q xs w) :
    Calls Tryz.prog 105 #[.slice A xs.length c, .func (.func g) bnd cap] w fun e w' => e = .returned (.bool (xs.any q)) ∧ Below w.heap.size w w' := by
  have HI := hid (widx_rng _ q A c xs w h hl hm g bnd cap rfl eg hp)
  have HN := hid (idxOf_nonneg q xs)
  clear hp h eg
  go_enter Tryz.func105, Tryz.ntmps105
  go_wp2_with fail
  refine HI.out.mono ?_
  rintro e w2 ⟨rfl, hb2⟩
  go_wp2
  go_ret
  exact ⟨by rw [← HN.out]; rfl, hb2⟩


set_option maxHeartbeats 400000 in
theorem wall_rng (p : Jn → Bool) (A : Option Addr) (c : Nat) (xs : List Jn) (w : World) (h : IsJns w w.heap.size A xs) (hl : xs.length ≤ c) (hm : c ≤ maxLen)
    (g : Nat) (bnd cap : Array Value) (eg : ∀ args w, (callFunc g args).run Tryz.prog w = .ok (.enter g args) w) (hp : PredJ g bnd cap p xs w) :
    Calls Tryz.prog 67 #[.slice A xs.length c, .func (.func g) bnd cap] w fun e w' => e = .returned (.bool (xs.all p)) ∧ Below w.heap.size w w' := by
  have hB : Below w.heap.size w (w.alloc (.cells #[.func (.func g) bnd cap] 161)) := (Below.refl _ _).alloc (Nat.le_refl _) _
  have HI := hid (whas_rng (fun x => !p x) A c xs _ (h.at_ hB) hl hm 106 #[] #[.pointer (some ⟨w.heap.size, 0, none⟩)] (enters_of Tryz.func106 (by kernel_rfl) rfl)
    (fun W x hW hx => wall_rng1 g bnd cap w.heap.size (p x) x W eg ((Blk.new _ _ _).keep hW) (fun W1 h1 => hp W1 x (hB.trans ((hW.trans (h1.mono hW.size)).mono hB.size)) hx)))
  have HN : Hid ((!xs.any fun x => !p x) = xs.all p) := hid (by simp [List.all_eq_not_any_not])
  clear hp h eg
  go_enter Tryz.func67, Tryz.ntmps67
  go_wp2_with fail
  refine HI.out.mono ?_
  rintro e w2 ⟨rfl, hb2⟩
  go_wp2
  go_ret
  exact ⟨by rw [← HN.out]; rfl, hB.trans (hb2.mono hB.size)⟩
end Go.Proofs.YtlnamjhgbdacbaaGreat
/- change, cost: by how much numbers differ from the cells of a table. -/
namespace Go.Proofs.YtlnamjhgbdacbaaGreat
open Go.RowKit Go.Shelf

def awayOf (a b : Int) : Int := max (a - b) (b - a)
def costTo (xs ys : List Int) (k : Nat) : Int := ((List.range k).map fun i => awayOf (xs.getD i 0) (ys.getD i 0)).sum
def rowCost (xs ys : List Int) : Int := costTo xs ys xs.length
def chgTo (l cs : List (List Int)) (k : Nat) : Int := ((List.range k).map fun r => rowCost (l.getD r []) (cs.getD r [])).sum
def changeOf (l cs : List (List Int)) : Int := chgTo l cs l.length
theorem awayOf_bounds {M a b : Int} (h1 : 0 ≤ a ∧ a ≤ M) (h2 : 0 ≤ b ∧ b ≤ M) : 0 ≤ awayOf a b ∧ awayOf a b ≤ M := by unfold awayOf; omega
theorem costTo_succ (xs ys : List Int) (k : Nat) : costTo xs ys (k + 1) = costTo xs ys k + awayOf (xs.getD k 0) (ys.getD k 0) := by
  unfold costTo; rw [List.range_succ, List.map_append, List.sum_append]; simp
theorem chgTo_succ (l cs : List (List Int)) (k : Nat) : chgTo l cs (k + 1) = chgTo l cs k + rowCost (l.getD k []) (cs.getD k []) := by
  unfold chgTo; rw [List.range_succ, List.map_append, List.sum_append]; simp
theorem costTo_bounds {M : Int} (hM : 0 ≤ M) {xs ys : List Int} (hx : ∀ x ∈ xs, 0 ≤ x ∧ x ≤ M) (hy : ∀ x ∈ ys, 0 ≤ x ∧ x ≤ M) (k : Nat) : 0 ≤ costTo xs ys k ∧ costTo xs ys k ≤ k * M := by
  induction k with
  | zero => simp [costTo]
  | succ k ih =>
    rw [costTo_succ, Int.natCast_add, Int.add_mul]
    have := awayOf_bounds (getD_small hM hx k) (getD_small hM hy k)
    omega
theorem getD_row {M : Int} {l : List (List Int)} (h : ∀ r ∈ l, ∀ x ∈ r, 0 ≤ x ∧ x ≤ M) (k : Nat) : ∀ x ∈ l.getD k [], 0 ≤ x ∧ x ≤ M := by
  intro x hx
  by_cases hk : k < l.length
  · have e : l.getD k [] = l[k] := by simp [List.getD, List.getElem?_eq_getElem hk]
    rw [e] at hx
    exact h _ (List.getElem_mem hk) x hx
  · have e : l.getD k [] = [] := by simp [List.getD, List.getElem?_eq_none (show l.length ≤ k by omega)]
    rw [e] at hx; cases hx
theorem getD_len {l : List (List Int)} {m : Nat} (h : ∀ r ∈ l, r.length ≤ m) (k : Nat) : (l.getD k []).length ≤ m := by
  by_cases hk : k < l.length
  · have e : l.getD k [] = l[k] := by simp [List.getD, List.getElem?_eq_getElem hk]
    rw [e]; exact h _ (List.getElem_mem hk)
  · have e : l.getD k [] = [] := by simp [List.getD, List.getElem?_eq_none (show l.length ≤ k by omega)]
    rw [e]; simp
theorem chgTo_bounds {l cs : List (List Int)} (hl : ∀ r ∈ l, r.length ≤ 4) (hx : ∀ r ∈ l, ∀ x ∈ r, 0 ≤ x ∧ x ≤ 10100) (hy : ∀ r ∈ cs, ∀ x ∈ r, 0 ≤ x ∧ x ≤ 10100) (k : Nat) : 0 ≤ chgTo l cs k ∧ chgTo l cs k ≤ k * 40400 := by
  induction k with
  | zero => simp [chgTo]
  | succ k ih =>
    rw [chgTo_succ, Int.natCast_add, Int.add_mul]
    have h1 := costTo_bounds (by omega) (getD_row hx k) (getD_row hy k) (l.getD k []).length
    have h2 := getD_len hl k
    unfold rowCost
    omega

set_option maxRecDepth 100000 in
set_option maxHeartbeats 1000000 in
theorem cost_any (b m f : Value) (P : Nat) (A : Option Addr) (c : Nat) (cs : List (List Int)) (r : Nat) (A' : Option Addr) (c' : Nat) (xs : List Int) (w : World) (h : IsRows w w.heap.size A cs)
    (hW : Blk w P 143 #[b, .slice A cs.length c, f, m]) (hx : IsInts w w.heap.size A' xs) (hr : r < cs.length) (hl : xs.length ≤ 4) (hlen : (cs.getD r []).length = xs.length)
    (bx : ∀ x ∈ xs, 0 ≤ x ∧ x ≤ 10100) (bc : ∀ r ∈ cs, ∀ x ∈ r, 0 ≤ x ∧ x ≤ 10100) :
    Calls Tryz.prog 61 #[.pointer (some ⟨P, 0, none⟩), .int .i64 r, .slice A' xs.length c'] w fun e w' => e = .returned (.int .i64 (rowCost xs (cs.getD r []))) ∧ w = w' := by
  obtain ⟨e1, e2, e3, e4⟩ := hW.c4
  have hcr : cs.getD r [] = cs[r] := by simp [List.getD, List.getElem?_eq_getElem hr]
  have by_ := getD_row bc r
  have HB := hid (costTo_bounds (by omega) bx by_)
  obtain ⟨a, A1, c1, rfl, hb, hc, h1, h2, h3⟩ := h r cs[r] (List.getElem?_eq_getElem hr)
  rw [← hcr] at hc h1 h3
  have HS := hid (costTo_succ xs (cs.getD r []))
  generalize hys : cs.getD r [] = ys at *
  have hrI : (r : Int) < (cs.length : Int) := by omega
  clear h hW bc hcr hys
  rw [hlen] at hc
  go_enter Tryz.func61, Tryz.ntmps61
  go_wp2
  go_loop [6, 11] (fun t i => ∃ k : Nat, k ≤ xs.length ∧ i = .int .i64 k ∧ t = .int .i64 (costTo xs ys k)) (fun _ i => xs.length - (intOf i).toNat)
  case atStart => exact ⟨0, Nat.zero_le _, rfl, rfl⟩
  case round =>
    obtain ⟨k, hk, rfl, rfl⟩ := hrel
    by_cases hlt : k < xs.length
    · obtain ⟨a2, rfl, hb2, hc2⟩ := hx k xs[k] (List.getElem?_eq_getElem hlt)
      obtain ⟨a3, rfl, hb3, hc3⟩ := h3 k (ys[k]'(by omega)) (List.getElem?_eq_getElem (by omega))
      have hx1 := bx xs[k] (List.getElem_mem hlt)
      have hy1 := by_ (ys[k]'(by omega)) (List.getElem_mem _)
      obtain ⟨hb4, hb5⟩ := HB.out k
      have HX := hid (show awayOf (xs.getD k 0) (ys.getD k 0) = awayOf xs[k] (ys[k]'(by omega)) by simp [List.getD, List.getElem?_eq_getElem hlt, List.getElem?_eq_getElem (show k < ys.length by omega)])
      have hkI : (k : Int) < (xs.length : Int) := by omega
      generalize xs[k] = x at *
      generalize ys[k]'(by omega) = y at *
      obtain ⟨ha1, ha2⟩ := awayOf_bounds hx1 (M := 10100) hy1
      have HA := hid (fun W => away_any x y W (by omega) (by omega) (by omega) (by omega))
      clear hx h3 bx by_
      go_wp2_with fail
      refine (HA.out _).mono ?_
      rintro e w2 ⟨rfl, rfl⟩
      change 0 ≤ max (x - y) (y - x) at ha1
      change max (x - y) (y - x) ≤ 10100 at ha2
      generalize hq : max (x - y) (y - x) = q at *
      have HQ := hid hq
      clear hq
      go_wp2
      go_round
      case rel => exact ⟨k + 1, by omega, by go_num, by rw [HS.out, HX.out, awayOf, HQ.out]⟩
      case measure => simp [intOf]; omega
    · obtain rfl : k = xs.length := by omega
      go_wp2
      go_ret
      exact ⟨rfl, rfl⟩
end Go.Proofs.YtlnamjhgbdacbaaGreat
/- change: the change of numbers that have the rows and columns of a table. -/
namespace Go.Proofs.YtlnamjhgbdacbaaGreat
open Go.RowKit Go.Shelf

theorem getD_get {l : List (List Int)} {k : Nat} (h : k < l.length) : l.getD k [] = l[k] := by simp [List.getD, List.getElem?_eq_getElem h]
theorem getD_geti {l : List Int} {k : Nat} (h : k < l.length) : l.getD k 0 = l[k] := by simp [List.getD, List.getElem?_eq_getElem h]

end Go.Proofs.YtlnamjhgbdacbaaGreat
/- The statements' helpers: whether lists of numbers are equal. -/
namespace Go.Proofs.YtlnamjhgbdacbaaGreat
open Go.RowKit

theorem ret_bool {a b : Bool} (h : a = b) : Ending.returned (.bool a) = .returned (.bool b) := by rw [h]
/-- two lists that begin alike -/
theorem take_step {α : Type} {a b : List α} {k : Nat} {x y : α} (h : a.take k = b.take k) (hx : a[k]? = some x) (hy : b[k]? = some y) (e : x = y) : a.take (k + 1) = b.take (k + 1) := by
  obtain ⟨h1, rfl⟩ := List.getElem?_eq_some_iff.1 hx
  obtain ⟨h2, rfl⟩ := List.getElem?_eq_some_iff.1 hy
  rw [List.take_succ_eq_append_getElem h1, List.take_succ_eq_append_getElem h2, h, e]
theorem ne_of_at {α : Type} {a b : List α} {k : Nat} {x y : α} (hx : a[k]? = some x) (hy : b[k]? = some y) (e : x ≠ y) : a ≠ b := fun h => by
  rw [h] at hx
  rw [hx] at hy
  exact e (Option.some.inj hy)
theorem eq_of_take {α : Type} {a b : List α} (h : a.take a.length = b.take a.length) (hl : a.length = b.length) : a = b := by
  rw [List.take_length, hl, List.take_length] at h
  exact h
def sameB (a b : List (List Int)) : Bool := decide (a = b)

end Go.Proofs.YtlnamjhgbdacbaaGreat
/- The border package's small tests: within, inside, isCount, street, join. Conditions stand at each theorem. -/
namespace Go.Proofs.YtlnamjhgbdacbaaGreat
open Go.RowKit Go.Shelf

set_option maxHeartbeats 400000 in
theorem bwithin_any (n lo hi : Int) (w : World) : Calls Tryz.prog 52 #[.int .i64 n, .int .i64 lo, .int .i64 hi] w fun e w' => e = .returned (.bool (inB n lo hi)) ∧ w = w' := by
  by_cases h1 : lo ≤ n
  · have hd : inB n lo hi = decide (n ≤ hi) := by simp [inB, h1]
    rw [hd]; clear hd
    go_enter Tryz.func52, Tryz.ntmps52
    go_wp2
    go_ret
    exact ⟨rfl, rfl⟩
  · have hd : inB n lo hi = false := by simp [inB, h1]
    rw [hd]; clear hd
    go_enter Tryz.func52, Tryz.ntmps52
    go_wp2
    go_ret
    exact ⟨rfl, rfl⟩
theorem bcount_any (n : Int) (w : World) : Calls Tryz.prog 51 #[.int .i64 n] w fun e w' => e = .returned (.bool (cntOk n)) ∧ w = w' := by
  go_enter Tryz.func51, Tryz.ntmps51
  go_wp2_with (go_at_call 52; refine (bwithin_any _ _ _ _).mono ?_; rintro e w' ⟨rfl, rfl⟩)
  go_ret
  exact ⟨rfl, rfl⟩
set_option maxHeartbeats 400000 in
theorem binside_any (lo hi top : Int) (w : World) : Calls Tryz.prog 74 #[.agg #[.int .i64 lo, .int .i64 hi], .int .i64 top] w fun e w' => e = .returned (.bool (rngOk lo hi top)) ∧ Below w.heap.size w w' := by
  by_cases h1 : 0 ≤ lo
  · by_cases h2 : lo ≤ hi
    · have hd : rngOk lo hi top = decide (hi ≤ top) := by simp [rngOk, h1, h2]
      rw [hd]; clear hd
      go_enter Tryz.func74, Tryz.ntmps74
      go_wp2
      go_ret
      exact ⟨rfl, below_box _ _⟩
    · have hd : rngOk lo hi top = false := by simp [rngOk, h2]
      rw [hd]; clear hd
      have h2 : decide (lo ≤ hi) = false := by simp; omega
      go_enter Tryz.func74, Tryz.ntmps74
      go_wp2
      go_ret
      exact ⟨rfl, below_box _ _⟩
  · have hd : rngOk lo hi top = false := by simp [rngOk, h1]
    rw [hd]; clear hd
    have h1 : decide (0 ≤ lo) = false := by simp; omega
    go_enter Tryz.func74, Tryz.ntmps74
    go_wp2
    go_ret
    exact ⟨rfl, below_box _ _⟩
set_option maxRecDepth 10000 in
set_option maxHeartbeats 1000000 in
theorem bstreet_any (m : MapD) (s : Stt) (A : Option Addr) (c : Nat) (A2 : Option Addr) (c2 : Nat) (v3 : Value) (w : World) (hl : m.old.length ≤ maxLen) (h1 : 1 ≤ m.nw) (h4 : m.nw ≤ 4) :
    Calls Tryz.prog 48 #[.agg #[.slice A m.old.length c, .int .i64 m.nw, .slice A2 m.ss.length c2, v3], .agg #[.int .i64 s.o, .int .i64 s.n, .int .i64 s.wt, .int .i64 s.lo, .int .i64 s.hi]] w fun e w' => e = .returned (.bool (sttOk m s)) ∧ Below w.heap.size w w' := by
  unfold maxLen at hl
  have hB := then_below (below_box (w := w) #[.slice A m.old.length c, .int .i64 m.nw, .slice A2 m.ss.length c2, v3] 36) (below_box #[.int .i64 s.o, .int .i64 s.n, .int .i64 s.wt, .int .i64 s.lo, .int .i64 s.hi] 70)
  have HB := hid hB
  clear hB
  cases k1 : inB s.o 0 ((m.old.length : Int) - 1)
  · have HR := hid (show sttOk m s = false by unfold sttOk; rw [k1]; rfl)
    have K1 := hid k1
    clear k1
    go_enter Tryz.func48, Tryz.ntmps48
    go_wp2_with fail
    refine (bwithin_any _ _ _ _).mono ?_
    rintro e w' ⟨rfl, rfl⟩
    rw [K1.out]
    go_wp2
    go_ret
    exact ⟨ret_bool HR.out.symm, HB.out⟩
  · cases k2 : inB s.n 0 (m.nw - 1)
    · have HR := hid (show sttOk m s = false by unfold sttOk; rw [k1, k2]; rfl)
      have K1 := hid (And.intro k1 k2)
      clear k1 k2
      go_enter Tryz.func48, Tryz.ntmps48
      go_wp2_with fail
      refine (bwithin_any _ _ _ _).mono ?_
      rintro e w' ⟨rfl, rfl⟩
      rw [K1.out.1]
      go_wp2_with fail
      refine (bwithin_any _ _ _ _).mono ?_
      rintro e w' ⟨rfl, rfl⟩
      rw [K1.out.2]
      go_wp2
      go_ret
      exact ⟨ret_bool HR.out.symm, HB.out⟩
    · cases k3 : inB s.wt 0 1000
      · have HR := hid (show sttOk m s = false by unfold sttOk; rw [k1, k2, k3]; rfl)
        have K1 := hid (And.intro k1 (And.intro k2 k3))
        clear k1 k2 k3
        go_enter Tryz.func48, Tryz.ntmps48
        go_wp2_with fail
        refine (bwithin_any _ _ _ _).mono ?_
        rintro e w' ⟨rfl, rfl⟩
        rw [K1.out.1]
        go_wp2_with fail
        refine (bwithin_any _ _ _ _).mono ?_
        rintro e w' ⟨rfl, rfl⟩
        rw [K1.out.2.1]
        go_wp2_with fail
        refine (bwithin_any _ _ _ _).mono ?_
        rintro e w' ⟨rfl, rfl⟩
        rw [K1.out.2.2]
        go_wp2
        go_ret
        exact ⟨ret_bool HR.out.symm, HB.out⟩
      · have HR := hid (show sttOk m s = rngOk s.lo s.hi 10000 by unfold sttOk; rw [k1, k2, k3]; rfl)
        have K1 := hid (And.intro k1 (And.intro k2 k3))
        clear k1 k2 k3
        go_enter Tryz.func48, Tryz.ntmps48
        go_wp2_with fail
        refine (bwithin_any _ _ _ _).mono ?_
        rintro e w' ⟨rfl, rfl⟩
        rw [K1.out.1]
        go_wp2_with fail
        refine (bwithin_any _ _ _ _).mono ?_
        rintro e w' ⟨rfl, rfl⟩
        rw [K1.out.2.1]
        go_wp2_with fail
        refine (bwithin_any _ _ _ _).mono ?_
        rintro e w' ⟨rfl, rfl⟩
        rw [K1.out.2.2]
        go_wp2_with fail
        refine (binside_any _ _ _ _).mono ?_
        rintro e w' ⟨rfl, hb⟩
        go_wp2
        go_ret
        exact ⟨ret_bool HR.out.symm, HB.out.trans (hb.mono HB.out.size)⟩
set_option maxRecDepth 10000 in
set_option maxHeartbeats 1000000 in
theorem bjoin_any (m : MapD) (j : Jn) (v0 v1 : Value) (A2 : Option Addr) (c2 : Nat) (v3 : Value) (w : World) (hl : m.ss.length ≤ maxLen) :
    Calls Tryz.prog 49 #[.agg #[v0, v1, .slice A2 m.ss.length c2, v3], .agg #[.int .i64 j.a, .int .i64 j.b]] w fun e w' => e = .returned (.bool (jnOk m j)) ∧ Below w.heap.size w w' := by
  unfold maxLen at hl
  have hB := then_below (below_box (w := w) #[v0, v1, .slice A2 m.ss.length c2, v3] 36) (below_box #[.int .i64 j.a, .int .i64 j.b] 77)
  have HB := hid hB
  clear hB
  cases k1 : inB j.a 0 ((m.ss.length : Int) - 1)
  · have HR := hid (show jnOk m j = false by unfold jnOk; rw [k1]; rfl)
    have K1 := hid k1
    clear k1
    go_enter Tryz.func49, Tryz.ntmps49
    go_wp2_with fail
    refine (bwithin_any _ _ _ _).mono ?_
    rintro e w' ⟨rfl, rfl⟩
    rw [K1.out]
    go_wp2
    go_ret
    exact ⟨ret_bool HR.out.symm, HB.out⟩
  · cases k2 : inB j.b 0 ((m.ss.length : Int) - 1)
    · have HR := hid (show jnOk m j = false by unfold jnOk; rw [k1, k2]; rfl)
      have K1 := hid (And.intro k1 k2)
      clear k1 k2
      go_enter Tryz.func49, Tryz.ntmps49
      go_wp2_with fail
      refine (bwithin_any _ _ _ _).mono ?_
      rintro e w' ⟨rfl, rfl⟩
      rw [K1.out.1]
      go_wp2_with fail
      refine (bwithin_any _ _ _ _).mono ?_
      rintro e w' ⟨rfl, rfl⟩
      rw [K1.out.2]
      go_wp2
      go_ret
      exact ⟨ret_bool HR.out.symm, HB.out⟩
    · have HR := hid (show jnOk m j = (j.a != j.b) by unfold jnOk; rw [k1, k2]; rfl)
      have K1 := hid (And.intro k1 k2)
      clear k1 k2
      go_enter Tryz.func49, Tryz.ntmps49
      go_wp2_with fail
      refine (bwithin_any _ _ _ _).mono ?_
      rintro e w' ⟨rfl, rfl⟩
      rw [K1.out.1]
      go_wp2_with fail
      refine (bwithin_any _ _ _ _).mono ?_
      rintro e w' ⟨rfl, rfl⟩
      rw [K1.out.2]
      go_wp2
      go_ret
      exact ⟨ret_bool HR.out.symm, HB.out⟩
end Go.Proofs.YtlnamjhgbdacbaaGreat
/- The walk package's small tests: within, inside, work, place, has. Conditions stand at each theorem. -/
namespace Go.Proofs.YtlnamjhgbdacbaaGreat
open Go.RowKit Go.Shelf

set_option maxHeartbeats 400000 in
theorem wwithin_any (n lo hi : Int) (w : World) : Calls Tryz.prog 70 #[.int .i64 n, .int .i64 lo, .int .i64 hi] w fun e w' => e = .returned (.bool (inB n lo hi)) ∧ w = w' := by
  by_cases h1 : lo ≤ n
  · have hd : inB n lo hi = decide (n ≤ hi) := by simp [inB, h1]
    rw [hd]; clear hd
    go_enter Tryz.func70, Tryz.ntmps70
    go_wp2
    go_ret
    exact ⟨rfl, rfl⟩
  · have hd : inB n lo hi = false := by simp [inB, h1]
    rw [hd]; clear hd
    go_enter Tryz.func70, Tryz.ntmps70
    go_wp2
    go_ret
    exact ⟨rfl, rfl⟩
def wrngB (lo hi low top : Int) : Bool := decide (low ≤ lo) && decide (lo ≤ hi) && decide (hi ≤ top)
set_option maxHeartbeats 400000 in
theorem winside_any (lo hi low top : Int) (w : World) : Calls Tryz.prog 107 #[.agg #[.int .i64 lo, .int .i64 hi], .int .i64 low, .int .i64 top] w fun e w' => e = .returned (.bool (wrngB lo hi low top)) ∧ Below w.heap.size w w' := by
  by_cases h1 : low ≤ lo
  · by_cases h2 : lo ≤ hi
    · have hd : wrngB lo hi low top = decide (hi ≤ top) := by simp [wrngB, h1, h2]
      rw [hd]; clear hd
      go_enter Tryz.func107, Tryz.ntmps107
      go_wp2
      go_ret
      exact ⟨rfl, below_box _ _⟩
    · have hd : wrngB lo hi low top = false := by simp [wrngB, h2]
      rw [hd]; clear hd
      have h2 : decide (lo ≤ hi) = false := by simp; omega
      go_enter Tryz.func107, Tryz.ntmps107
      go_wp2
      go_ret
      exact ⟨rfl, below_box _ _⟩
  · have hd : wrngB lo hi low top = false := by simp [wrngB, h1]
    rw [hd]; clear hd
    have h1 : decide (low ≤ lo) = false := by simp; omega
    go_enter Tryz.func107, Tryz.ntmps107
    go_wp2
    go_ret
    exact ⟨rfl, below_box _ _⟩
set_option maxHeartbeats 400000 in
theorem wwork_any (lo hi : Int) (w : World) : Calls Tryz.prog 68 #[.agg #[.int .i64 lo, .int .i64 hi]] w fun e w' => e = .returned (.bool (wrngB lo hi 0 50)) ∧ Below w.heap.size w w' := by
  have hB := below_box (w := w) #[.int .i64 lo, .int .i64 hi] 87
  have HB := hid hB
  clear hB
  go_enter Tryz.func68, Tryz.ntmps68
  go_wp2_with fail
  refine (winside_any _ _ _ _ _).mono ?_
  rintro e w2 ⟨rfl, hb2⟩
  have HB2 := hid (HB.out.trans (hb2.mono HB.out.size))
  clear hb2
  go_wp2
  go_ret
  exact ⟨rfl, HB2.out⟩
set_option maxHeartbeats 400000 in
theorem wplace_any (A : Option Addr) (n c : Nat) (v2 : Value) (k : Int) (w : World) (hn : n ≤ 1000000) : Calls Tryz.prog 42 #[.agg #[.slice A n c, v2], .int .i64 k] w fun e w' => e = .returned (.bool (inB k 0 ((n : Int) - 1))) ∧ Below w.heap.size w w' := by
  have hB := below_box (w := w) #[.slice A n c, v2] 65
  have HB := hid hB
  clear hB
  go_enter Tryz.func42, Tryz.ntmps42
  go_wp2_with fail
  refine (wwithin_any _ _ _ _).mono ?_
  rintro e w2 ⟨rfl, rfl⟩
  go_wp2
  go_ret
  exact ⟨rfl, HB.out⟩
set_option maxHeartbeats 1000000 in
theorem has_one (k : Nat) (hk : k < 8) (w : World) : Calls Tryz.prog 104 #[.int .i64 1, .int .i64 k] w fun e w' => e = .returned (.bool (decide (k = 0))) ∧ w = w' := by
  match k, hk with
  | 0, _ => 
    go_enter Tryz.func104, Tryz.ntmps104
    go_wp2
    go_ret
    exact ⟨rfl, rfl⟩
  | 1, _ => 
    go_enter Tryz.func104, Tryz.ntmps104
    go_wp2
    go_ret
    exact ⟨rfl, rfl⟩
  | 2, _ => 
    go_enter Tryz.func104, Tryz.ntmps104
    go_wp2
    go_ret
    exact ⟨rfl, rfl⟩
  | 3, _ => 
    go_enter Tryz.func104, Tryz.ntmps104
    go_wp2
    go_ret
    exact ⟨rfl, rfl⟩
  | 4, _ => 
    go_enter Tryz.func104, Tryz.ntmps104
    go_wp2
    go_ret
    exact ⟨rfl, rfl⟩
  | 5, _ => 
    go_enter Tryz.func104, Tryz.ntmps104
    go_wp2
    go_ret
    exact ⟨rfl, rfl⟩
  | 6, _ => 
    go_enter Tryz.func104, Tryz.ntmps104
    go_wp2
    go_ret
    exact ⟨rfl, rfl⟩
  | 7, _ => 
    go_enter Tryz.func104, Tryz.ntmps104
    go_wp2
    go_ret
    exact ⟨rfl, rfl⟩
end Go.Proofs.YtlnamjhgbdacbaaGreat
/- A law for a statement whose order is open, where calls hand back values that are known only by what they are good for: one walk of each operation, in whatever order. -/
namespace Go.Proofs.YtlnamjhgbdacbaaGreat
open Go.RowKit

def depsB (ops : Array Oper) : Bool := (List.range ops.size).all fun i => ((ops[i]?).map fun o => o.after.all fun e => !Region.binds .any e || decide (e.on < i)).getD true
def dstsB (ops : Array Oper) (n : Nat) : Bool := (List.range n).all fun i => (List.range n).all fun j => decide (i = j) || ((ops[i]?).bind (·.dst)).all fun d => ((ops[j]?).bind (·.dst)) != some d
/-- the order of the head is open, the tail's is not -/
def relB (ops : Array Oper) (n : Nat) : Bool :=
  depsB ops && dstsB ops n && decide (n < ops.size) && Region.sinkB .any ops n && Region.chainB .any ops n &&
  Region.seqB .any ops (ops.size - n) n (Array.replicate n true ++ Array.replicate (ops.size - n) false)

theorem put_getD_same {a : Act} {d : Tmp} {v : Value} (h : d < a.tmps.size) : (a.put (some d) v).tmps.getD d undef = v := by
  simp [Act.put, Array.getD, h]
theorem put_getD_other {a : Act} {d d' : Tmp} {v : Value} (h : d ≠ d') : (a.put (some d) v).tmps.getD d' undef = a.tmps.getD d' undef := by
  simp [Act.put, Array.getD_eq_getD_getElem?, Array.getElem?_setIfInBounds_ne h]
theorem put_size {a : Act} {d : Option Tmp} {v : Value} : (a.put d v).tmps.size = a.tmps.size := by
  cases d <;> simp [Act.put]
theorem put_defers {a : Act} {d : Option Tmp} {v : Value} : (a.put d v).defers = a.defers := by
  cases d <;> simp [Act.put]

/-- what is known when some operations of the head are over -/
structure Known (ops : Array Oper) (n : Nat) (R : Nat → Value → World → Prop) (St : World → World → Prop) (G : Array Bool → World → Prop) (a : Act) (w : World) (listed : Array Bool) (a' : Act) (W : World) : Prop where
  inv : HeadInv .any ops n listed
  st : St w W
  ph : G listed W
  defers : a'.defers = a.defers
  size : a'.tmps.size = a.tmps.size
  rest : ∀ d, (∀ i, i < n → (ops[i]?).bind (·.dst) ≠ some d) → a'.tmps.getD d undef = a.tmps.getD d undef
  rel : ∀ i, i < n → listed.getD i false = true → ∀ d, (ops[i]?).bind (·.dst) = some d → R i (a'.tmps.getD d undef) W

def unlistedOf (n : Nat) (listed : Array Bool) : List Nat := (List.range n).filter fun i => !listed.getD i false
theorem depsB_spec {ops : Array Oper} (h : depsB ops = true) {i : Nat} {o : Oper} (ho : ops[i]? = some o) {e : Edge} (he : e ∈ o.after) (hb : Region.binds .any e = true) : e.on < i := by
  have hi : i < ops.size := (Array.getElem?_eq_some_iff.1 ho).1
  have h1 := List.all_eq_true.1 h i (List.mem_range.2 hi)
  rw [ho] at h1
  simp only [Option.map_some, Option.getD_some] at h1
  have h2 := Array.all_eq_true'.1 h1 e he
  simpa [hb] using h2
theorem dstsB_spec {ops : Array Oper} {n : Nat} (h : dstsB ops n = true) {i j : Nat} (hi : i < n) (hj : j < n) (hij : i ≠ j) {d : Tmp} (hd : (ops[i]?).bind (·.dst) = some d) : (ops[j]?).bind (·.dst) ≠ some d := by
  have h1 := List.all_eq_true.1 (List.all_eq_true.1 h i (List.mem_range.2 hi)) j (List.mem_range.2 hj)
  rw [hd] at h1
  simpa [hij] using h1

theorem getD_set_eq {l : Array Bool} {i : Nat} (h : i < l.size) : (l.setIfInBounds i true).getD i false = true := by
  simp [Array.getD_eq_getD_getElem?, h]
theorem getD_set_oth {l : Array Bool} {i j : Nat} (h : i ≠ j) : (l.setIfInBounds i true).getD j false = l.getD j false := by
  simp [Array.getD_eq_getD_getElem?, Array.getElem?_setIfInBounds_ne h]

theorem wpAnyIn_of_seq {F : Fence} {m : Nat} {P : Program} {ops : Array Oper} {md : Region.Mode} {Q' : Exit → Act → World → Prop} : ∀ (l : List Oper) (k : Nat) (listed : Array Bool) (a : Act) (w : World), (∀ j, l[j]? = ops[k + j]?) →
    Region.seqB md ops l.length k listed = true → wpListIn F m P ops Q' l a w → wpAnyIn F m P md ops Q' l.length listed a w
  | [], _, _, _, _, _, hB, h => ⟨by simpa [Region.seqB] using hB, h⟩
  | o :: l, k, listed, a, w, hl, hB, h => by
    have h0 : ops[k]? = some o := by simpa using (hl 0).symm
    simp only [List.length_cons, Region.seqB, Bool.and_eq_true, decide_eq_true_eq] at hB
    refine ⟨fun h1 => (by rw [hB.1] at h1; cases h1), fun i hi => ?_⟩
    rw [hB.1] at hi
    have hik : i = k := by simpa using hi
    subst hik
    have hw : wpOpIn F m P ops Q' i (wpListIn F m P ops Q' l) a w := by unfold wpOpIn; simp only [h0]; exact h
    exact wpOpIn_mono (fun a' w' h' => wpAnyIn_of_seq l (i + 1) _ a' w' (fun j => by have := hl (j + 1); simpa [Nat.add_assoc, Nat.add_comm 1 j] using this) hB.2 h') hw

theorem wpAnyIn_rel {F : Fence} {m : Nat} {P : Program} {ops : Array Oper} {n : Nat} {Q : Exit → Act → World → Prop} {a : Act} {w : World} {R : Nat → Value → World → Prop} {St : World → World → Prop} {G : Array Bool → World → Prop}
    (hB : relB ops n = true) (hR : ∀ i v W W', St W W' → R i v W → R i v W') (hT : ∀ {A B C : World}, St A B → St B C → St A C)
    (hds : ∀ i, i < n → ∀ d, (ops[i]?).bind (·.dst) = some d → d < a.tmps.size)
    (hstep : ∀ i o (listed : Array Bool) (a' : Act) (W : World), i < n → ops[i]? = some o → listed.size = ops.size → listed.getD i false = false →
      (∀ j oj, ops[j]? = some oj → listed.getD j false = true → ∀ e ∈ oj.after, Region.binds .any e = true → listed.getD e.on false = true) →
      G listed W → St w W → a'.defers = a.defers → a'.tmps.size = a.tmps.size →
      (∀ d, (∀ i, i < n → (ops[i]?).bind (·.dst) ≠ some d) → a'.tmps.getD d undef = a.tmps.getD d undef) →
      (∀ j, (∃ e, e ∈ o.after ∧ Region.binds .any e = true ∧ e.on = j) → listed.getD j false = true ∧ ∀ d, (ops[j]?).bind (·.dst) = some d → R j (a'.tmps.getD d undef) W) →
      ∀ K : Act → World → Prop, (∀ v W', R i v W' → St W W' → G (listed.setIfInBounds i true) W' → K (a'.put o.dst v) W') → wpOpIn F m P ops Q i K a' W)
    (hend : ∀ (listed : Array Bool) (a' : Act) (W : World), (∀ i, i < n → listed.getD i false = true) → G listed W → St w W → a'.defers = a.defers → a'.tmps.size = a.tmps.size →
      (∀ d, (∀ i, i < n → (ops[i]?).bind (·.dst) ≠ some d) → a'.tmps.getD d undef = a.tmps.getD d undef) →
      (∀ i, i < n → ∀ d, (ops[i]?).bind (·.dst) = some d → R i (a'.tmps.getD d undef) W) → wpListIn F m P ops Q (ops.toList.drop n) a' W) :
    ∀ (f : Nat) (listed : Array Bool) (a' : Act) (W : World), (unlistedOf n listed).length = f → Known ops n R St G a w listed a' W → wpAnyIn F m P .any ops Q (f + (ops.size - n)) listed a' W := by
  simp only [relB, Bool.and_eq_true, decide_eq_true_eq] at hB
  obtain ⟨⟨⟨⟨⟨hdeps, hdst⟩, hn⟩, hs⟩, hc⟩, hseq⟩ := hB
  intro f
  induction f with
  | zero =>
    intro listed a' W hf hk
    have hnone : ∀ i, i < n → listed.getD i false = true := by
      intro i hi
      cases hl : listed.getD i false with
      | true => rfl
      | false =>
        have : i ∈ unlistedOf n listed := List.mem_filter.2 ⟨List.mem_range.2 hi, by simp [hl]⟩
        rw [List.eq_nil_of_length_eq_zero hf] at this
        cases this
    have hcan : listed = Array.replicate n true ++ Array.replicate (ops.size - n) false := by
      apply Array.ext
      · simp [hk.inv.size]; omega
      · intro i h1 h2
        by_cases hi : i < n
        · have := hnone i hi
          rw [Array.getElem_append_left (by simpa using hi)]
          simpa [Array.getD_eq_getD_getElem?, h1] using this
        · have := hk.inv.tail i (by omega) (by rw [← hk.inv.size]; exact h1)
          rw [Array.getElem_append_right (by simpa using hi)]
          simpa [Array.getD_eq_getD_getElem?, h1] using this
    have hl : (ops.toList.drop n).length = ops.size - n := by simp
    rw [Nat.zero_add, ← hl]
    refine wpAnyIn_of_seq (ops.toList.drop n) n listed a' W (fun j => by simp [List.getElem?_drop]) (by rw [hl, hcan]; exact hseq) ?_
    exact hend listed a' W hnone hk.ph hk.st hk.defers hk.size hk.rest (fun i hi d hd => hk.rel i hi (hnone i hi) d hd)
  | succ f ih =>
    intro listed a' W hf hk
    have hne : unlistedOf n listed ≠ [] := fun h => by rw [h] at hf; cases hf
    obtain ⟨i0, hi0⟩ := List.exists_mem_of_ne_nil _ hne
    have hi0n : i0 < n := List.mem_range.1 (List.mem_filter.1 hi0).1
    have hi0f : listed.getD i0 false = false := by simpa using (List.mem_filter.1 hi0).2
    have hhead : ∀ i ∈ Region.ready .any ops listed, i < n := by
      intro i hi
      rcases Nat.lt_or_ge i n with h | h
      · exact h
      · exact absurd hi (tail_waits hs hc hn hk.inv (n - i0) i0 rfl hi0n (getD_in (by rw [hk.inv.size]; omega) hi0f) i h)
    have hready : Region.ready .any ops listed ≠ [] := by
      have key : ∀ m i, i ≤ m → i < n → listed.getD i false = false → ∃ j, j ∈ Region.ready .any ops listed := by
        intro m
        induction m with
        | zero =>
          intro i hi hin hl
          obtain rfl : i = 0 := by omega
          have ho : ops[0]? = some (ops[0]'(by omega)) := Array.getElem?_eq_getElem _
          exact ⟨0, mem_ready.2 ⟨getD_in (by rw [hk.inv.size]; omega) hl, _, ho, fun e he hb => absurd (depsB_spec hdeps ho he hb) (Nat.not_lt_zero _)⟩⟩
        | succ m ihm =>
          intro i hi hin hl
          have ho : ops[i]? = some (ops[i]'(by omega)) := Array.getElem?_eq_getElem _
          by_cases hall : ∀ e ∈ (ops[i]'(by omega)).after, Region.binds .any e = true → listed.getD e.on false = true
          · exact ⟨i, mem_ready.2 ⟨getD_in (by rw [hk.inv.size]; omega) hl, _, ho, hall⟩⟩
          · simp only [Classical.not_forall] at hall
            obtain ⟨e, he, hb, hnl⟩ := hall
            have hlt := depsB_spec hdeps ho he hb
            exact ihm e.on (by omega) (by omega) (by simpa using hnl)
      obtain ⟨j, hj⟩ := key i0 i0 (Nat.le_refl _) hi0n hi0f
      exact List.ne_nil_of_mem hj
    rw [show f + 1 + (ops.size - n) = (f + (ops.size - n)) + 1 by omega]
    refine ⟨fun h => absurd h hready, fun i hi => ?_⟩
    have hin := hhead i hi
    obtain ⟨hlt, o, ho, hall⟩ := mem_ready.1 hi
    have hif : listed.getD i false = false := getD_both hlt
    refine hstep i o listed a' W hin ho hk.inv.size hif hk.inv.closed hk.ph hk.st hk.defers hk.size hk.rest (fun j ⟨e, he, hb, hj⟩ => by
      subst hj
      exact ⟨hall e he hb, fun d hd => hk.rel e.on (by have := depsB_spec hdeps ho he hb; omega) (hall e he hb) d hd⟩) _ ?_
    intro v W' hv hst hg
    refine ih _ _ _ ?_ ⟨hk.inv.set hi hin, hT hk.st hst, hg, by rw [put_defers]; exact hk.defers, by rw [put_size]; exact hk.size, fun d hd => ?_, fun j hj hl d hd => ?_⟩
    · have hsz : i < listed.size := by rw [hk.inv.size]; omega
      have : (unlistedOf n (listed.setIfInBounds i true)) = (unlistedOf n listed).filter (fun j => !(j == i)) := by
        unfold unlistedOf
        rw [List.filter_filter]
        apply List.filter_congr
        intro j _
        by_cases hji : j = i
        · subst hji; rw [getD_set_eq hsz]; simp
        · rw [getD_set_oth (fun h => hji h.symm)]; simp [hji]
      rw [this]
      have hnd : (unlistedOf n listed).Nodup := List.Nodup.sublist List.filter_sublist List.nodup_range
      have hmem : i ∈ unlistedOf n listed := List.mem_filter.2 ⟨List.mem_range.2 hin, by simp [hif]⟩
      have he : (unlistedOf n listed).filter (fun j => !(j == i)) = (unlistedOf n listed).erase i := by
        rw [hnd.erase_eq_filter]; rfl
      rw [he, List.length_erase_of_mem hmem, hf]; rfl
    · have hne' : o.dst ≠ some d := by
        have := hd i hin
        rw [ho] at this
        exact this
      cases hod : o.dst with
      | none => simpa [Act.put, hod] using hk.rest d hd
      | some d' =>
        rw [put_getD_other (by rintro rfl; exact hne' hod)]
        exact hk.rest d hd
    · by_cases hji : j = i
      · subst hji
        rw [ho] at hd
        have hod : o.dst = some d := hd
        rw [hod, put_getD_same (by rw [hk.size]; exact hds j hj d (by rw [ho]; exact hod))]
        exact hv
      · rw [getD_set_oth (fun h => hji h.symm)] at hl
        have hR' := hR j _ _ _ hst (hk.rel j hj hl d hd)
        cases hod : o.dst with
        | none => simpa [Act.put, hod] using hR'
        | some d' =>
          rw [put_getD_other (by
            rintro rfl
            exact dstsB_spec hdst hin hj (fun h => hji h.symm) (by rw [ho]; exact hod) hd)]
          exact hR'

/-- the law, at a statement: the head in whatever order, the tail in its order -/
theorem wpIn_region_rel {F : Fence} {m : Nat} {P : Program} {id : Nat} {Q : Exit → Act → World → Prop} {a : Act} {w : World} {l : List Oper} (n : Nat) (R : Nat → Value → World → Prop) (St : World → World → Prop) (G : Array Bool → World → Prop) (hm : P.follows .mixedOrders = true)
    (hB : relB l.toArray n = true) (hR : ∀ i v W W', St W W' → R i v W → R i v W') (hT : ∀ {A B C : World}, St A B → St B C → St A C) (h0 : St w { w with drawn := w.drawn + 1 }) (hG : G (Array.replicate l.length false) { w with drawn := w.drawn + 1 })
    (hds : (List.range n).all (fun i => (((l.toArray[i]?).bind (·.dst)).all fun d => decide (d < a.tmps.size))) = true)
    (hstep : ∀ i o (listed : Array Bool) (a' : Act) (W : World), i < n → l[i]? = some o → listed.size = l.length → listed.getD i false = false →
      (∀ j oj, l[j]? = some oj → listed.getD j false = true → ∀ e ∈ oj.after, Region.binds .any e = true → listed.getD e.on false = true) →
      G listed W → St w W → a'.defers = a.defers → a'.tmps.size = a.tmps.size →
      (∀ d, (∀ i, i < n → (l.toArray[i]?).bind (·.dst) ≠ some d) → a'.tmps.getD d undef = a.tmps.getD d undef) →
      (∀ j, (∃ e, e ∈ o.after ∧ Region.binds .any e = true ∧ e.on = j) → listed.getD j false = true ∧ ∀ d, (l.toArray[j]?).bind (·.dst) = some d → R j (a'.tmps.getD d undef) W) →
      ∀ K : Act → World → Prop, (∀ v W', R i v W' → St W W' → G (listed.setIfInBounds i true) W' → K (a'.put o.dst v) W') → wpOpIn F m P l.toArray Q i K a' W)
    (hend : ∀ (listed : Array Bool) (a' : Act) (W : World), (∀ i, i < n → listed.getD i false = true) → G listed W → St w W → a'.defers = a.defers → a'.tmps.size = a.tmps.size →
      (∀ d, (∀ i, i < n → (l.toArray[i]?).bind (·.dst) ≠ some d) → a'.tmps.getD d undef = a.tmps.getD d undef) →
      (∀ i, i < n → ∀ d, (l.toArray[i]?).bind (·.dst) = some d → R i (a'.tmps.getD d undef) W) → wpListIn F m P l.toArray Q (l.drop n) a' W) :
    (Code.region id l.toArray true).wpIn F m P Q a w := by
  refine wpIn_region_any hm ?_
  have hn : n < l.toArray.size := by
    simp only [relB, Bool.and_eq_true, decide_eq_true_eq] at hB
    exact hB.1.1.1.2
  have hu : (unlistedOf n (Array.replicate l.toArray.size false)).length = n := by
    have : unlistedOf n (Array.replicate l.toArray.size false) = List.range n := by
      unfold unlistedOf
      rw [List.filter_eq_self]
      intro i _
      rw [getD_replicate_false]; rfl
    rw [this, List.length_range]
  have hds' : ∀ i, i < n → ∀ d, (l.toArray[i]?).bind (·.dst) = some d → d < a.tmps.size := by
    intro i hi d hd
    have := List.all_eq_true.1 hds i (List.mem_range.2 hi)
    rw [hd] at this
    simpa using this
  have H := wpAnyIn_rel (F := F) (m := m) (P := P) (ops := l.toArray) (n := n) (Q := Q) (a := a) (w := w) (R := R) (St := St) (G := G) hB hR hT hds' (fun i o listed a' W hi ho hs h1 h2 => hstep i o listed a' W hi (by simpa using ho) (by simpa using hs) h1 (fun j oj hj => h2 j oj (by simpa using hj)))
    (fun listed a' W h0 h1 h2 h3 h4 h5 h6 => by simpa using hend listed a' W h0 h1 h2 h3 h4 h5 h6) n (Array.replicate l.toArray.size false) a { w with drawn := w.drawn + 1 } hu
    ⟨⟨by simp, fun j oj _ hl => (by rw [getD_replicate_false] at hl; cases hl), fun t _ ht => getD_in (by simpa using ht) (getD_replicate_false _ _)⟩, h0, by simpa using hG, rfl, rfl, fun _ _ => rfl, fun i _ hl => by rw [getD_replicate_false] at hl; cases hl⟩
  rwa [show n + (l.toArray.size - n) = l.toArray.size by omega] at H

/-- the fence that shuts nothing out, in a round or not -/
def FW (ro : Option Nat) : Fence := { Fence.wide with round := ro }
theorem FW_none : FW none = Fence.wide := rfl
theorem callsFW {P : Program} {f : FuncId} {args : Array Value} {w : World} {R : Ending → World → Prop} (ro : Option Nat) (n : Nat) (h : Calls P f args w R) : CallsIn (FW ro) n P f args w R :=
  (callsIn_wide (n := n)).2 h
theorem callsOf {P : Program} {f : FuncId} {args : Array Value} {w : World} {R : Ending → World → Prop} {ro : Option Nat} {n : Nat} (h : CallsIn (FW ro) n P f args w R) : Calls P f args w R :=
  (callsIn_wide (n := n)).1 h
theorem rowsFW {P : Program} {row : String} {args : Array Value} {w : World} {R : Value → World → Prop} (ro : Option Nat) (n : Nat) (h : Rows P row args w R) : RowsIn (FW ro) n P row args w R :=
  fun c cs _ => let ⟨v, w', r, s⟩ := h c cs; ⟨v, w', r, stepsIn_wide.2 s⟩

theorem opIn_of_op {P : Program} {o : Oper} {a : Act} {w : World} {K : Act → World → Prop} {Q : Exit → Act → World → Prop} (ro : Option Nat) (n : Nat) (hnd : ∀ c, o.op ≠ .defer c) (h : o.wp P a w K Q) : o.wpIn (FW ro) n P a w K Q := by
  refine ⟨fun _ _ => trivial, ?_⟩
  rw [Oper.semAt_eq _ _ _ hnd]
  unfold Oper.wp at h
  generalize (execOp a.eval o).run P w = r at *
  cases r with
  | ok x w' =>
    cases x <;> simp only [Oper.upon] at h <;> simp only [Oper.uponIn]
    case value => exact h
    case skip => exact h
    case defer => exact h
    case enter => exact ⟨fun hd => (by simp [FW, Fence.wide] at hd), callsFW ro _ h⟩
    case row => exact ⟨fun hd => (by simp [FW, Fence.wide] at hd), rowsFW ro _ h⟩
  | halt x w' => cases x <;> simp only [Oper.upon] at h <;> simp only [Oper.uponIn] <;> exact h

theorem wpOpIn_of_wpOp {P : Program} {ops : Array Oper} {i : Nat} {a : Act} {w : World} {K : Act → World → Prop} {Q Q' : Exit → Act → World → Prop} (ro : Option Nat) (n : Nat) (hnd : ∀ (j : Nat) (o : Oper) c, ops[j]? = some o → o.op ≠ .defer c)
    (hq : ∀ e a w, Q e a w → Q' e a w) (hno : ∀ a w, ¬ Q .outgrown a w) (h : wpOp P ops Q i K a w) : wpOpIn (FW ro) n P ops Q' i K a w := by
  unfold wpOp at h
  unfold wpOpIn
  cases ho : ops[i]? with
  | none => simp only [ho] at h; exact h
  | some o =>
    simp only [ho] at h
    dsimp only
    split
    · rename_i hw
      simp only [hw, if_true] at h
      rcases h with h | ⟨_, a', w', hq'⟩
      · have := opIn_of_op ro n (hnd i o · ho) h
        unfold Oper.wpIn at *
        refine ⟨this.1, ?_⟩
        have h2 := this.2
        generalize (o.semAt (FW ro).round a.eval).run P w = r at *
        cases r with
        | ok x w' =>
          cases x <;> simp only [Oper.uponIn] at h2 ⊢ <;>
            first
              | exact h2
              | exact ⟨h2.1, CallsIn.mono h2.2 (fun e w'' he => by cases e <;> first | exact he | exact hq _ _ _ he | exact absurd he (fun ⟨a, w, h⟩ => hno a w h))⟩
              | exact ⟨h2.1, RowsIn.mono h2.2 (fun _ _ he => he)⟩
              | exact ⟨h2.1, RoundIn.mono h2.2 (fun e w'' he => by cases e <;> first | exact he | exact hq _ _ _ he | exact absurd he (fun ⟨a, w, h⟩ => hno a w h))⟩
        | halt x w' => cases x <;> simp only [Oper.uponIn] at h2 ⊢ <;> first | exact h2 | exact hq _ _ _ h2
      · exact absurd hq' (hno a' w')
    · rename_i hw
      simp only [hw] at h
      exact ⟨fun _ _ => trivial, h⟩

theorem wpAnyIn_of_wpAny {P : Program} {ops : Array Oper} {md : Region.Mode} {Q Q' : Exit → Act → World → Prop} (ro : Option Nat) (n : Nat) (hnd : ∀ (j : Nat) (o : Oper) c, ops[j]? = some o → o.op ≠ .defer c)
    (hq : ∀ e a w, Q e a w → Q' e a w) (hno : ∀ a w, ¬ Q .outgrown a w) : ∀ (f : Nat) (listed : Array Bool) (a : Act) (w : World), wpAny P md ops Q f listed a w → wpAnyIn (FW ro) n P md ops Q' f listed a w
  | 0, _, _, _, h => ⟨h.1, hq _ _ _ h.2⟩
  | f + 1, _, _, _, h => ⟨fun h0 => hq _ _ _ (h.1 h0), fun i hi => wpOpIn_mono (fun a' w' h' => wpAnyIn_of_wpAny ro n hnd hq hno f _ a' w' h') (wpOpIn_of_wpOp ro n hnd hq hno (h.2 i hi))⟩

def noDefer (ops : List Oper) : Bool := ops.all fun o => match o.op with | .defer _ => false | _ => true
theorem noDefer_spec {l : List Oper} (h : noDefer l = true) : ∀ (j : Nat) (o : Oper) c, l.toArray[j]? = some o → o.op ≠ .defer c := by
  intro j o c hj hop
  have hm : o ∈ l := List.mem_of_getElem? (by simpa using hj)
  have := List.all_eq_true.1 h o hm
  rw [hop] at this
  cases this

/-- 'Q', at the normal end alone -/
def onlyNormal (Q : Exit → Act → World → Prop) : Exit → Act → World → Prop
  | .normal, a, w => Q .normal a w
  | _, _, _ => False

/-- a statement whose order is open, all of whose operations read, and whose calls only lay new blocks: in a round too -/
theorem wpIn_region_quiet_xt {P : Program} {id : Nat} {Q : Exit → Act → World → Prop} {a : Act} {w : World} {l : List Oper} (ro : Option Nat) (n : Nat) (hm : P.follows .mixedOrders = true) (hB : Region.lexB .any l.toArray = true) (hnd : noDefer l = true)
    (h : wpQuiet P l.toArray (fun w' => ∃ x : Xt, w' = xt w x) (fun a' => ∀ w', (∃ x : Xt, w' = xt w x) → Q .normal a' w') l a) : (Code.region id l.toArray true).wpIn (FW ro) n P Q a w := by
  have hB' := hB
  simp only [Region.lexB, Bool.and_eq_true] at hB
  refine wpIn_region_any hm (wpAnyIn_of_wpAny (Q := onlyNormal Q) ro n (noDefer_spec hnd) (fun e a w h => by cases e <;> first | exact h | exact h.elim) (fun _ _ h => h) _ _ _ _ ?_)
  refine wpAny_of_quiet (Q' := onlyNormal Q) (C := fun w' => ∃ x : Xt, w' = xt w x) (Q := fun a' => ∀ w', (∃ x : Xt, w' = xt w x) → Q .normal a' w') (fun _ w' hw' h => h w' hw') _ _ _ _ (show ∃ x : Xt, ({ w with drawn := w.drawn + 1 } : World) = xt w x from ⟨⟨#[], w.drawn + 1⟩, by simp [xt]⟩) ?_
  have := wpAnyQ_lex (C := fun w' => ∃ x : Xt, w' = xt w x) (md := .any) hB.1 l 0 (Array.replicate l.toArray.size false) a (by simp) (by simpa using hB.2) h
  simpa using this

/-- the operations of a statement one by one: in a round as anywhere -/
theorem wpListIn_of_wpList {P : Program} {ops : List Oper} {Q : Exit → Act → World → Prop} (ro : Option Nat) (n : Nat) : ∀ (l : List Oper) (a : Act) (w : World), noDefer l = true → wpList P ops.toArray (onlyNormal Q) l a w → wpListIn (FW ro) n P ops.toArray Q l a w
  | [], _, _, _, h => h
  | o :: l, a, w, hnd, h => by
    have hnd' : (∀ c, o.op ≠ .defer c) ∧ noDefer l = true := by
      simp only [noDefer, List.all_cons, Bool.and_eq_true] at hnd
      exact ⟨fun c hc => by rw [hc] at hnd; exact absurd hnd.1 (by simp), hnd.2⟩
    simp only [wpList] at h
    simp only [wpListIn]
    split
    · rename_i hw
      simp only [hw, if_true] at h
      rcases h with h | ⟨_, a', w', hq'⟩
      · have h1 := Oper.wp_mono (fun a' w' h' => wpListIn_of_wpList ro n l a' w' hnd'.2 h') h
        have := opIn_of_op ro n hnd'.1 h1
        unfold Oper.wpIn at *
        refine ⟨this.1, ?_⟩
        have h2 := this.2
        generalize (o.semAt (FW ro).round a.eval).run P w = r at *
        cases r with
        | ok x w' =>
          cases x <;> simp only [Oper.uponIn] at h2 ⊢ <;>
            first
              | exact h2
              | exact ⟨h2.1, CallsIn.mono h2.2 (fun e w'' he => by cases e <;> first | exact he | exact he.elim | exact absurd he (fun ⟨a, w, h⟩ => h))⟩
              | exact ⟨h2.1, RowsIn.mono h2.2 (fun _ _ he => he)⟩
              | exact ⟨h2.1, RoundIn.mono h2.2 (fun e w'' he => by cases e <;> first | exact he | exact he.elim | exact absurd he (fun ⟨a, w, h⟩ => h))⟩
        | halt x w' => cases x <;> simp only [Oper.uponIn] at h2 ⊢ <;> first | exact h2 | exact h2.elim
      · exact hq'.elim
    · rename_i hw
      simp only [hw] at h
      exact ⟨fun _ _ => trivial, wpListIn_of_wpList ro n l _ w hnd'.2 h⟩
theorem opStep {P : Program} {l : List Oper} {i : Nat} {o : Oper} {a : Act} {w : World} {K : Act → World → Prop} {Q : Exit → Act → World → Prop} (ro : Option Nat) (n : Nat) (ho : l[i]? = some o) (hw : Region.wanted o (yielded l.toArray a.tmps) = true) (hnd : ∀ c, o.op ≠ .defer c) (h : o.wp P a w K Q) :
    wpOpIn (FW ro) n P l.toArray Q i K a w := by
  have ho' : l.toArray[i]? = some o := by simpa using ho
  unfold wpOpIn
  rw [ho']
  dsimp only
  rw [if_pos hw]
  exact opIn_of_op ro n hnd h
theorem opSkip {P : Program} {l : List Oper} {i : Nat} {o : Oper} {a : Act} {w : World} {K : Act → World → Prop} {Q : Exit → Act → World → Prop} (ro : Option Nat) (n : Nat) (ho : l[i]? = some o) (hw : Region.wanted o (yielded l.toArray a.tmps) = false) (h : K (a.put o.dst undef) w) :
    wpOpIn (FW ro) n P l.toArray Q i K a w := by
  have ho' : l.toArray[i]? = some o := by simpa using ho
  unfold wpOpIn
  rw [ho']
  dsimp only
  rw [if_neg (by rw [hw]; exact Bool.false_ne_true)]
  exact ⟨fun _ _ => trivial, h⟩

/-- what is known where an operation of the head is about to run -/
structure At (l : List Oper) (n : Nat) (R : Nat → Value → World → Prop) (St : World → World → Prop) (G : Array Bool → World → Prop) (a : Act) (w : World) (i : Nat) (o : Oper) (listed : Array Bool) (a' : Act) (W : World) : Prop where
  lsize : listed.size = l.length
  new : listed.getD i false = false
  closed : ∀ j oj, l[j]? = some oj → listed.getD j false = true → ∀ e ∈ oj.after, Region.binds .any e = true → listed.getD e.on false = true
  ph : G listed W
  st : St w W
  defers : a'.defers = a.defers
  size : a'.tmps.size = a.tmps.size
  rest : ∀ d, (∀ i, i < n → (l.toArray[i]?).bind (·.dst) ≠ some d) → a'.tmps.getD d undef = a.tmps.getD d undef
  dep : ∀ j, (∃ e, e ∈ o.after ∧ Region.binds .any e = true ∧ e.on = j) → listed.getD j false = true ∧ ∀ d, (l.toArray[j]?).bind (·.dst) = some d → R j (a'.tmps.getD d undef) W

/-- what is known behind the head -/
structure Done (l : List Oper) (n : Nat) (R : Nat → Value → World → Prop) (St : World → World → Prop) (G : Array Bool → World → Prop) (a : Act) (w : World) (listed : Array Bool) (a' : Act) (W : World) : Prop where
  all : ∀ i, i < n → listed.getD i false = true
  ph : G listed W
  st : St w W
  defers : a'.defers = a.defers
  size : a'.tmps.size = a.tmps.size
  rest : ∀ d, (∀ i, i < n → (l.toArray[i]?).bind (·.dst) ≠ some d) → a'.tmps.getD d undef = a.tmps.getD d undef
  dep : ∀ i, i < n → ∀ d, (l.toArray[i]?).bind (·.dst) = some d → R i (a'.tmps.getD d undef) W

def edgeB (o : Oper) (j : Nat) : Bool := o.after.any fun e => Region.binds .any e && e.on == j
def dstB (l : List Oper) (j d : Nat) : Bool := (l.toArray[j]?).bind (·.dst) == some d
def parB (l : List Oper) (n d : Nat) : Bool := (List.range n).all fun i => (l.toArray[i]?).bind (·.dst) != some d
theorem parB_spec {l : List Oper} {n d : Nat} (h : parB l n d = true) : ∀ i, i < n → (l.toArray[i]?).bind (·.dst) ≠ some d := fun i hi => by
  have := List.all_eq_true.1 h i (List.mem_range.2 hi)
  simpa using this
theorem edgeB_spec {o : Oper} {j : Nat} (h : edgeB o j = true) : ∃ e, e ∈ o.after ∧ Region.binds .any e = true ∧ e.on = j := by
  unfold edgeB at h
  rw [Array.any_eq_true'] at h
  obtain ⟨e, he, h⟩ := h
  simp only [Bool.and_eq_true, beq_iff_eq] at h
  exact ⟨e, he, h.1, h.2⟩
section
variable {l : List Oper} {n : Nat} {R : Nat → Value → World → Prop} {St : World → World → Prop} {G : Array Bool → World → Prop} {a : Act} {w : World} {i : Nat} {o : Oper} {listed : Array Bool} {a' : Act} {W : World}
theorem At.val (h : At l n R St G a w i o listed a' W) (j d : Nat) (hj : edgeB o j = true) (hd : dstB l j d = true) : R j (a'.tmps.getD d undef) W := by
  refine (h.dep j (edgeB_spec hj)).2 d ?_
  simpa [dstB] using hd
theorem At.has (h : At l n R St G a w i o listed a' W) (j : Nat) (hj : edgeB o j = true) : listed.getD j false = true := (h.dep j (edgeB_spec hj)).1
theorem At.past (h : At l n R St G a w i o listed a' W) {j : Nat} (hl : listed.getD j false = true) (k : Nat) (hj : ((l[j]?).map fun o => edgeB o k).getD false = true) : listed.getD k false = true := by
  cases ho : l[j]? with
  | none => rw [ho] at hj; cases hj
  | some oj =>
    rw [ho] at hj
    obtain ⟨e, he, hb, hk⟩ := edgeB_spec (show edgeB oj k = true from hj)
    rw [← hk]
    exact h.closed j oj ho hl e he hb
theorem At.par (h : At l n R St G a w i o listed a' W) (d : Nat) (hd : parB l n d = true) : a'.tmps.getD d undef = a.tmps.getD d undef := h.rest d (parB_spec hd)
theorem Done.val (h : Done l n R St G a w listed a' W) (j d : Nat) (hj : decide (j < n) = true) (hd : dstB l j d = true) : R j (a'.tmps.getD d undef) W := by
  refine h.dep j (of_decide_eq_true hj) d ?_
  simpa [dstB] using hd
theorem Done.par (h : Done l n R St G a w listed a' W) (d : Nat) (hd : parB l n d = true) : a'.tmps.getD d undef = a.tmps.getD d undef := h.rest d (parB_spec hd)
end
def AllI (p : Nat → Oper → Prop) : Nat → List Oper → Prop
  | _, [] => True
  | k, o :: l => p k o ∧ AllI p (k + 1) l
theorem AllI.get {p : Nat → Oper → Prop} : ∀ {l : List Oper} {k i : Nat} {o : Oper}, AllI p k l → l[i]? = some o → p (k + i) o
  | [], _, _, _, _, h => by simp at h
  | o :: l, k, 0, _, h, he => by simp at he; subst he; exact h.1
  | o :: l, k, i + 1, _, h, he => by
    have := AllI.get h.2 (i := i) (by simpa using he)
    rwa [show k + 1 + i = k + (i + 1) by omega] at this

/-- the same law, spelt operation by operation -/
theorem wpIn_region_each {F : Fence} {m : Nat} {P : Program} {id : Nat} {Q : Exit → Act → World → Prop} {a : Act} {w : World} {l : List Oper} (n : Nat) (R : Nat → Value → World → Prop) (St : World → World → Prop) (G : Array Bool → World → Prop) (hm : P.follows .mixedOrders = true)
    (hB : relB l.toArray n = true) (hR : ∀ i v W W', St W W' → R i v W → R i v W') (hT : ∀ {A B C : World}, St A B → St B C → St A C) (h0 : St w { w with drawn := w.drawn + 1 }) (hG : G (Array.replicate l.length false) { w with drawn := w.drawn + 1 })
    (hds : (List.range n).all (fun i => (((l.toArray[i]?).bind (·.dst)).all fun d => decide (d < a.tmps.size))) = true)
    (hstep : AllI (fun i o => ∀ (listed : Array Bool) (a' : Act) (W : World), At l n R St G a w i o listed a' W →
      ∀ K : Act → World → Prop, (∀ v W', R i v W' → St W W' → G (listed.setIfInBounds i true) W' → K (a'.put o.dst v) W') → wpOpIn F m P l.toArray Q i K a' W) 0 (l.take n))
    (hend : ∀ (listed : Array Bool) (a' : Act) (W : World), Done l n R St G a w listed a' W → wpListIn F m P l.toArray Q (l.drop n) a' W) :
    (Code.region id l.toArray true).wpIn F m P Q a w := by
  refine wpIn_region_rel n R St G hm hB hR hT h0 hG hds ?_ ?_
  · intro i o listed a' W hi ho h1 h2 h3 h4 h5 h6 h7 h8 h9 K hK
    have := hstep.get (i := i) (o := o) (by rw [List.getElem?_take_of_lt hi]; exact ho)
    rw [Nat.zero_add] at this
    exact this listed a' W ⟨h1, h2, h3, h4, h5, h6, h7, h8, h9⟩ K hK
  · intro listed a' W h1 h2 h3 h4 h5 h6 h7
    exact hend listed a' W ⟨h1, h2, h3, h4, h5, h6, h7⟩
theorem yielded_val {l : List Oper} {a : Act} {j d : Nat} {b : Bool} (hd : dstB l j d = true) (hv : a.tmps.getD d undef = .bool b) : yielded l.toArray a.tmps j = some b := by
  have h1 : (l.toArray[j]?).bind (·.dst) = some d := by simpa [dstB] using hd
  unfold yielded
  rw [h1]
  simp only [Option.bind_some]
  rw [Array.getD_eq_getD_getElem?] at hv
  cases ht : a.tmps[d]? with
  | none => rw [ht] at hv; cases hv
  | some v => rw [ht] at hv; simp at hv; subst hv; rfl
theorem wanted_yes {l : List Oper} {o : Oper} {a : Act} {j d : Nat} {b : Bool} (hg : o.guard = some (j, b)) (hd : dstB l j d = true) (hv : a.tmps.getD d undef = .bool b) : Region.wanted o (yielded l.toArray a.tmps) = true := by
  unfold Region.wanted
  rw [hg]
  simp only [yielded_val hd hv]
  simp
theorem wanted_no {l : List Oper} {o : Oper} {a : Act} {j d : Nat} {b b' : Bool} (hg : o.guard = some (j, b)) (hd : dstB l j d = true) (hv : a.tmps.getD d undef = .bool b') (hb : (b' == b) = false) : Region.wanted o (yielded l.toArray a.tmps) = false := by
  unfold Region.wanted
  rw [hg]
  simp only [yielded_val hd hv]
  simpa using hb
/-- a call of the loop's body -/
theorem opYield {P : Program} {l : List Oper} {i : Nat} {o : Oper} {a : Act} {W : World} {K : Act → World → Prop} {Q : Exit → Act → World → Prop} {lp : Nat} {args : Array Value} {R : Ending → World → Prop} (ho : l[i]? = some o) (hw : Region.wanted o (yielded l.toArray a.tmps) = true) (hnd : ∀ c, o.op ≠ .defer c)
    (hrun : (execOp a.eval o).run P W = (Instr.yield lp args).run P W) (hy : YieldAt (FW none) 0 P lp args W R) (hR : ∀ e W', R e W' → ∃ v, e = .returned v ∧ K (a.put o.dst v) W') : wpOpIn (FW none) 0 P l.toArray Q i K a W := by
  have ho' : l.toArray[i]? = some o := by simpa using ho
  unfold wpOpIn
  rw [ho']
  dsimp only
  rw [if_pos hw]
  refine ⟨fun _ _ => trivial, ?_⟩
  rw [Oper.semAt_eq _ _ _ hnd, hrun]
  obtain ⟨fn, tmps, assign, body, hy, hr⟩ := hy
  rw [hy]
  refine ⟨fun hd => (by simp [FW, Fence.wide] at hd), hr.mono ?_⟩
  intro e W' he
  obtain ⟨v, rfl, hk⟩ := hR e W' he
  exact hk
/-- the operations behind the head, one by one -/
theorem tail_step {F : Fence} {m : Nat} {P : Program} {l : List Oper} {o : Oper} {rest : List Oper} {a : Act} {W : World} {Q : Exit → Act → World → Prop} {i : Nat} (hi : l[i]? = some o) (h : wpOpIn F m P l.toArray Q i (wpListIn F m P l.toArray Q rest) a W) : wpListIn F m P l.toArray Q (o :: rest) a W := by
  have ho' : l.toArray[i]? = some o := by simpa using hi
  unfold wpOpIn at h
  rw [ho'] at h
  exact h
theorem opValue {P : Program} {l : List Oper} {i : Nat} {o : Oper} {a : Act} {W W' : World} {K : Act → World → Prop} {Q : Exit → Act → World → Prop} {v : Value} (ro : Option Nat) (n : Nat) (ho : l[i]? = some o) (hw : Region.wanted o (yielded l.toArray a.tmps) = true) (hnd : ∀ c, o.op ≠ .defer c)
    (hrun : (execOp a.eval o).run P W = .ok (.value v) W') (hk : K (a.put o.dst v) W') : wpOpIn (FW ro) n P l.toArray Q i K a W := by
  refine opStep ro n ho hw hnd ?_
  unfold Oper.wp
  rw [hrun]
  exact hk
/-- one operation behind the head that hands back v -/
theorem tail_val {P : Program} {l : List Oper} {o : Oper} {rest : List Oper} {a : Act} {W W' : World} {Q : Exit → Act → World → Prop} {i d : Nat} {v : Value} (ro : Option Nat) (n : Nat) (hi : l[i]? = some o) (hd : o.dst = some d) (hw : Region.wanted o (yielded l.toArray a.tmps) = true) (hnd : ∀ c, o.op ≠ .defer c)
    (hrun : (execOp a.eval o).run P W = .ok (.value v) W') (hs : d < a.tmps.size)
    (h : ∀ a' : Act, a'.tmps.size = a.tmps.size → a'.defers = a.defers → a'.tmps.getD d undef = v → (∀ d', d' ≠ d → a'.tmps.getD d' undef = a.tmps.getD d' undef) → wpListIn (FW ro) n P l.toArray Q rest a' W') : wpListIn (FW ro) n P l.toArray Q (o :: rest) a W := by
  refine tail_step hi (opValue ro n hi hw hnd hrun ?_)
  rw [hd]
  exact h _ put_size put_defers (put_getD_same hs) (fun d' hd' => put_getD_other (fun e => hd' e.symm))
/-- an activation, slot by slot -/
theorem act_eq {a : Act} {n : Nat} (hs : a.tmps.size = n) (hd : a.defers = []) : a = { tmps := ((List.range n).map fun i => a.tmps.getD i undef).toArray, defers := [] } := by
  obtain ⟨t, d⟩ := a
  simp only at hs hd
  subst hd
  congr 1
  apply Array.ext
  · simp [hs]
  · intro i h1 h2
    simp [Array.getD, h1]
/-- one operation behind the head that hands back nothing -/
theorem tail_store {P : Program} {l : List Oper} {o : Oper} {rest : List Oper} {a : Act} {W W' : World} {Q : Exit → Act → World → Prop} {i : Nat} (ro : Option Nat) (n : Nat) (hi : l[i]? = some o) (hd : o.dst = none) (hw : Region.wanted o (yielded l.toArray a.tmps) = true) (hnd : ∀ c, o.op ≠ .defer c)
    (hrun : (execOp a.eval o).run P W = .ok .skip W') (h : wpListIn (FW ro) n P l.toArray Q rest a W') : wpListIn (FW ro) n P l.toArray Q (o :: rest) a W := by
  refine tail_step hi (opStep ro n hi hw hnd ?_)
  unfold Oper.wp
  rw [hrun]
  show wpListIn (FW ro) n P l.toArray Q rest (a.put o.dst undef) W'
  rw [hd]
  exact h
end Go.Proofs.YtlnamjhgbdacbaaGreat
/- Clone: a copy of a list of numbers, in memory of its own. -/
namespace Go.Proofs.YtlnamjhgbdacbaaGreat
open Go.RowKit Go.Shelf

theorem int_info : (Tryz.prog.info? 3).map (fun i => (i.zero, i.size, i.bytes)) = some (some (.int .i64 0), 1, 8) := by kernel_rfl

/-- a result that is a list of numbers, in whatever memory -/
def GivesInts (xs : List Int) (w : World) (e : Ending) (w' : World) : Prop := ∃ A c, e = .returned (.slice A xs.length c) ∧ xs.length ≤ c ∧ c ≤ maxLen ∧ IsInts w' w'.heap.size A xs ∧ (∀ a, A = some a → w.heap.size ≤ a.block ∧ ∃ cs, Blk w' a.block 3 cs) ∧ (A = none → c = 0) ∧ Below w.heap.size w w'

theorem own_ints {w : World} {base n : Nat} {v : Value} {xs : List Int} (hn : n = xs.length) (h : w.ownsRow base 3 1 v n (xs.map (Value.int .i64))) :
    ∃ A c, v = .slice A xs.length c ∧ xs.length ≤ c ∧ c ≤ maxLen ∧ IsInts w w.heap.size A xs ∧ (∀ a, A = some a → base ≤ a.block ∧ ∃ cs, Blk w a.block 3 cs) ∧ (A = none → c = 0) := by
  subst hn
  rcases h.2 with ⟨rfl, h0⟩ | ⟨g, cap, cur, rfl, hb, hg, h1, h2, h3, h4⟩
  · have : xs = [] := List.eq_nil_of_length_eq_zero h0
    subst this
    exact ⟨none, 0, rfl, Nat.le_refl _, Nat.zero_le _, (fun k x hk => by simp at hk), (fun a e => by cases e), fun _ => rfl⟩
  · refine ⟨_, cap, rfl, h1, h2, (fun k x hk => ⟨_, rfl, (Array.getElem?_eq_some_iff.1 hg).1, ?_⟩), (fun a e => by cases e; exact ⟨hb, cur, hg⟩), fun e => by cases e⟩
    exact h.cells (g := g) rfl k _ (by simp [hk])

theorem ints_news {w : World} {n : Nat} {a : Addr} {xs : List Int} (h : IsInts w n (some a) xs) : ∀ j u, (xs.map (Value.int .i64))[j]? = some u → w.cell? (a.add j) = some u := by
  intro j u hj
  rw [List.getElem?_map] at hj
  cases hx : xs[j]? with
  | none => rw [hx] at hj; cases hj
  | some x =>
    rw [hx] at hj
    obtain ⟨a', e, _, hc⟩ := h j x hx
    injection e with e
    subst e
    simp at hj
    rw [← hj]; exact hc
theorem ints_one (xs : List Int) : ∀ u ∈ xs.map (Value.int .i64), u.oneCell' = true := by
  intro u hu
  obtain ⟨x, _, rfl⟩ := List.mem_map.1 hu
  rfl

set_option maxRecDepth 10000 in
set_option maxHeartbeats 400000 in
theorem clone_any (A : Option Addr) (c : Nat) (xs : List Int) (w : World) (h : IsInts w w.heap.size A xs) (hA : A = none → c = 0) (hl : xs.length ≤ 1000000) :
    Calls Tryz.prog 29 #[.slice A xs.length c] w (GivesInts xs w) := by
  obtain ⟨i0, hi0, hz0, hz1, hz2⟩ := info_parts int_info
  have heq := fun (B : Option Addr) (n k : Nat) (W : World) => Lib.run_eql_slice_nil (P := Tryz.prog) W 22 3 B n k 0 0 Tryz.underlying22
  cases A with
  | none =>
    have hx : xs = [] := by
      cases xs with
      | nil => rfl
      | cons x l => obtain ⟨a, e, _⟩ := h 0 x rfl; cases e
    subst hx
    obtain rfl := hA rfl
    go_enter Tryz.func29, Tryz.ntmps29
    go_wp2
    go_ret
    exact ⟨none, 0, rfl, Nat.le_refl _, Nat.zero_le _, (fun k x hk => by simp at hk), (fun a e => by cases e), fun _ => rfl, Below.refl _ _⟩
  | some a =>
    have hB := below_box (w := w) #[] 3
    have hnews := hid (ints_news (h.at_ hB))
    have hown : (w.alloc (.cells #[] 3)).ownsRow w.heap.size 3 1 (.slice (some ⟨w.heap.size, 0, none⟩) 0 0) 0 [] := World.ownsRow_made w #[] 0 (Nat.le_refl _) (by simp [maxLen]) rfl
    have HO := hid hown
    clear hA h hown
    go_enter Tryz.func29, Tryz.ntmps29
    go_wp2_with (at_builtin; refine wpList_append_own_at _ rfl _ _ 22 rfl w.heap.size 3 i0 (.int .i64 0) 1 8 Tryz.underlying22 hi0 hz0 hz1 hz2 rfl (by decide) _ 0 [] rfl HO.out a xs.length c (xs.map (Value.int .i64)) rfl (by simp) hnews.out (ints_one xs) (by simp only [maxLen]; omega) (by omega) (by simp) ?_; intro v' w1 hown' hgrow _ _)
    go_ret
    obtain ⟨A1, c1, rfl, h1, h2, h3, h4, h5⟩ := own_ints (xs := xs) (n := 0 + xs.length) (by omega) (by simpa using hown')
    exact ⟨A1, c1, rfl, h1, h2, h3, h4, h5, hB.grown hgrow (by simp) (fun k hk => by cases (show some w.heap.size = some k from hk); exact Nat.le_refl _)⟩
end Go.Proofs.YtlnamjhgbdacbaaGreat
/- What a call may change: a relation between worlds; what an iterator over lists of numbers gives. -/
namespace Go.Proofs.YtlnamjhgbdacbaaGreat
open Go.RowKit Go.Shelf

/-- all cells outside Z are as they were -/
structure Keep (Z : Nat → Prop) (W W' : World) : Prop where
  os : W'.os = W.os
  tape : W'.tape = W.tape
  output : W'.output = W.output
  size : W.heap.size ≤ W'.heap.size
  cells : ∀ (k : Nat) cs t fr, W.heap[k]? = some (.cells cs t fr) → ¬ Z k → W'.heap[k]? = some (.cells cs t fr)

section
variable {Z Y : Nat → Prop} {W W1 W2 : World}
theorem Keep.refl (Z : Nat → Prop) (W : World) : Keep Z W W := ⟨rfl, rfl, rfl, Nat.le_refl _, fun _ _ _ _ h _ => h⟩
theorem Keep.trans (h : Keep Z W W1) (k : Keep Z W1 W2) : Keep Z W W2 :=
  ⟨k.os.trans h.os, k.tape.trans h.tape, k.output.trans h.output, Nat.le_trans h.size k.size, fun i cs t fr hi hz => k.cells i cs t fr (h.cells i cs t fr hi hz) hz⟩
theorem Keep.mono (h : Keep Z W W1) (hz : ∀ k, Z k → Y k) : Keep Y W W1 := ⟨h.os, h.tape, h.output, h.size, fun i cs t fr hi hn => h.cells i cs t fr hi (fun hk => hn (hz i hk))⟩
theorem Keep.of_below (Z : Nat → Prop) (h : Below W.heap.size W W1) : Keep Z W W1 :=
  ⟨h.os, h.tape, h.output, h.size, fun i _ _ _ hi _ => (h.block i (Array.getElem?_eq_some_iff.1 hi).1).trans hi⟩
theorem Keep.of_grown {y : Nat} (h : W.grownBy W1 (some y)) (hy : Z y) : Keep Z W W1 :=
  ⟨h.os, h.tape, h.output, h.size, fun i _ _ _ hi hz => (h.block i (Array.getElem?_eq_some_iff.1 hi).1 (fun e => by cases e; exact hz hy)).trans hi⟩
theorem Keep.setCell (h : Keep Z W W1) {p : Addr} (hp : Z p.block) (u : Value) : Keep Z W (W1.setCell p u) :=
  h.trans ⟨rfl, rfl, rfl, by simp [World.setCell], fun i cs t fr hi hz => (Below.heap_setCell W1 p u i (fun e => hz (by rw [e]; exact hp))).trans hi⟩
theorem Keep.alloc (h : Keep Z W W1) (o : Obj) : Keep Z W (W1.alloc o) := h.trans (Keep.of_below Z ((Below.refl _ _).alloc (Nat.le_refl _) _))
theorem Keep.cell (h : Keep Z W W1) {a : Addr} {v : Value} (hc : W.cell? a = some v) (hz : ¬ Z a.block) : W1.cell? a = some v := by
  unfold World.cell? at *
  cases hb : W.heap[a.block]? with
  | none => rw [hb] at hc; cases hc
  | some o =>
    rw [hb] at hc
    cases o with
    | cells cs t fr => rw [h.cells _ _ _ _ hb hz]; exact hc
    | _ => cases hc
theorem Keep.blk (h : Keep Z W W1) {g : Nat} {t : TypeId} {cs : Array Value} (hb : Blk W g t cs) (hz : ¬ Z g) : Blk W1 g t cs := h.cells g cs t (0, 0) hb hz
theorem Keep.ints (h : Keep Z W W1) {n : Nat} {A : Option Addr} {xs : List Int} (hi : IsInts W n A xs) (hz : ∀ a, A = some a → ¬ Z a.block) : IsInts W1 n A xs := fun k x hk => by
  obtain ⟨a, e, hl, hc⟩ := hi k x hk
  exact ⟨a, e, hl, h.cell hc (by rw [block_of_add]; exact hz a e)⟩
theorem Keep.ints' (h : Keep Z W W1) {n : Nat} {A : Option Addr} {xs : List Int} (hi : IsInts W n A xs) (hz : ∀ k, Z k → n ≤ k) : IsInts W1 n A xs := fun k x hk => by
  obtain ⟨a, e, hl, hc⟩ := hi k x hk
  exact ⟨a, e, hl, h.cell hc (by rw [block_of_add]; intro hk; have := hz _ hk; omega)⟩
theorem Keep.rows (h : Keep Z W W1) {n : Nat} {A : Option Addr} {xs : List (List Int)} (hi : IsRows W n A xs) (hz : ∀ k, Z k → n ≤ k) : IsRows W1 n A xs := fun k x hk => by
  obtain ⟨a, A', c, e, hl, hc, h1, h2, h3⟩ := hi k x hk
  exact ⟨a, A', c, e, hl, h.cell hc (by rw [block_of_add]; intro hk; have := hz _ hk; omega), h1, h2, h.ints' h3 hz⟩
theorem Keep.fixes (h : Keep Z W W1) {n : Nat} {A : Option Addr} {fs : List Fx} (hi : IsFixes W n A fs) (hz : ∀ k, Z k → n ≤ k) : IsFixes W1 n A fs := fun k x hk => by
  obtain ⟨a, e, hl, h0, h1, h2⟩ := hi k x hk
  exact ⟨a, e, hl, h.cell h0 (by rw [block_of_add]; intro hk; have := hz _ hk; omega), h.cell h1 (by show ¬ Z (a.add _).block; rw [block_of_add]; intro hk; have := hz _ hk; omega), h.cell h2 (by show ¬ Z (a.add _).block; rw [block_of_add]; intro hk; have := hz _ hk; omega)⟩
end

theorem grown_of_below {W W1 : World} (h : Below W.heap.size W W1) (row : Option Nat) : W.grownBy W1 row := ⟨h.os, h.tape, h.output, h.size, fun i hi _ => h.block i hi⟩

/-- the iterator g gives these lists, one after the other, whatever the loop's body does to the cells of X -/
def SeqC (g : Nat) (lb : Array Value) (xs : List (List Int)) (X : Nat → Prop) (w0 : World) : Prop :=
  ∀ (l : Nat) (J : Nat → Nat → World → Prop) (W : World), Below w0.heap.size w0 W →
    (∀ y k W1 W2, W.heap.size ≤ y → J y k W1 → W1.grownBy W2 (some y) → J y k W2) →
    (∀ y k x A c W1, W.heap.size ≤ y → y < W1.heap.size → xs[k]? = some x → J y k W1 → IsInts W1 W1.heap.size A x → (∀ a, A = some a → a.block ≠ y ∧ W.heap.size ≤ a.block ∧ ∃ cs, Blk W1 a.block 3 cs) → x.length ≤ c → c ≤ maxLen → (A = none → c = 0) →
      YieldAt (FW none) 0 Tryz.prog l #[.slice A x.length c] W1 fun e W2 => e = .returned (.bool true) ∧ J y (k + 1) W2 ∧ Keep X W1 W2) →
    (∀ y, W.heap.size ≤ y → J y 0 W) →
    CallsIn (FW none) 0 Tryz.prog g (#[.func (.yield l) #[] #[]] ++ lb) W fun e W' => (∃ v, e = .returned v) ∧ (∃ y, W.heap.size ≤ y ∧ J y xs.length W') ∧ Keep X W W'
end Go.Proofs.YtlnamjhgbdacbaaGreat
