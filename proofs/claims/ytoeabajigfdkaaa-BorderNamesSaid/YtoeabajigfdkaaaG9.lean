/- The walks and the plain laws of this part of the program, part 9: what each computes. Conditions stand at each theorem. -/
import Derived.Test.YtoeabajigfdkaaaRows
import Derived.WalkKit
import Derived.ProofKit
import Derived.OpenShut
import Derived.ChangeSlices
import Derived.Deep.Matrix
import Derived.Lib.SmallJoins
import Derived.Deep.Cut
import Derived.Test.YtoeabajigfdkaaaG1
import Derived.Test.YtoeabajigfdkaaaG3
import Derived.Test.YtoeabajigfdkaaaG8
/- The reference of layer 11: the map's own borders, a street alone, whether a map is consistent. Conditions stand at each theorem. -/
namespace Go.Proofs.Ytoeabajigfdkaaa
open Go.RowKit Go.Shelf

set_option maxRecDepth 100000 in
set_option maxHeartbeats 2000000 in
theorem qown_any (m : MapD) (A : Option Addr) (c : Nat) (A2 : Option Addr) (c2 : Nat) (A3 : Option Addr) (c3 : Nat) (w : World) (h : MIn m A c A2 c2 A3 c3 w) (hs8 : m.ss.length ≤ 1000) :
    Calls Try.prog 25 #[.agg #[.slice A m.old.length c, .int .i64 m.nw, .slice A2 m.ss.length c2, .slice A3 m.js.length c3]] w (GivesInts (lst m (ownL m)) w) := by
  have hm2 := h.m2
  have hl2 := h.l2
  unfold maxLen at hm2
  have hB := below_box (w := w) #[.slice A m.old.length c, .int .i64 m.nw, .slice A2 m.ss.length c2, .slice A3 m.js.length c3] 26
  have hT := Blk.new w 26 #[.slice A m.old.length c, .int .i64 m.nw, .slice A2 m.ss.length c2, .slice A3 m.js.length c3]
  have HB := hid hB
  have HT := hid hT
  have HA := hid h
  clear hB hT h
  go_enter Try.func25, Try.ntmps25
  go_wp2
  go_loopw [3, 4] (fun v i W => ∃ k : Nat, k ≤ m.ss.length ∧ i = .int .i64 k ∧ W.ownsRow (w.heap.size + 1) 3 1 v k (((List.range k).map (ownL m)).map (Value.int .i64)) ∧ Below w.heap.size w W ∧ Blk W w.heap.size 26 #[.slice A m.old.length c, .int .i64 m.nw, .slice A2 m.ss.length c2, .slice A3 m.js.length c3]) (fun _ i _ => m.ss.length - (intOf i).toNat)
  case atStart => exact ⟨0, Nat.zero_le _, rfl, ⟨rfl, .inl ⟨rfl, rfl⟩⟩, HB.out, HT.out⟩
  case round =>
    obtain ⟨k, hk, rfl, ho, hbr, hbt⟩ := hrel
    obtain ⟨t0, t1, t2, t3⟩ := hbt.c4
    have htl := hbt.lt
    have HR := hid (And.intro ho (And.intro hbr hbt))
    clear ho hbr hbt
    by_cases hlt : k < m.ss.length
    · have hkI : (k : Int) < (m.ss.length : Int) := by omega
      obtain ⟨s, hs⟩ : ∃ s, m.ss[k]? = some s := ⟨_, List.getElem?_eq_getElem hlt⟩
      obtain ⟨aa, eA, g1, f0, f1, f2, f3, f4⟩ := (HA.out.at_ HR.out.2.1).is k s hs
      subst eA
      have HV := hid (show ownL m k = s.n by unfold ownL; rw [MapD.S_eq hs])
      obtain ⟨i0, hi0, hz0, hz1, hz2⟩ := info_parts int_info
      have HO := hid (HR.out.1.alloc (.cells #[.int .i64 s.n] 3))
      have HBT := hid (HR.out.2.2.alloc (.cells #[.int .i64 s.n] 3))
      clear hs g1
      go_wp2_with (at_builtin; refine wpList_append_own_at _ rfl _ _ 22 rfl (w.heap.size + 1) 3 i0 (.int .i64 0) 1 8 Try.underlying22 hi0 hz0 hz1 hz2 rfl (by decide) u3 _ _ rfl HO.out ⟨wr.heap.size, 0, none⟩ 1 1 [.int .i64 s.n] rfl rfl (by intro q u hq; cases q with | zero => simp at hq; subst hq; exact (World.cell?_alloc_new _ _ _ _) | succ q => simp at hq) (by intro u hu; simp at hu; subst hu; rfl) (by simp only [maxLen]; omega) (by omega) (by simp; omega) ?_; intro vo' w5 hown' hgrow _ hfr; have HN := hid (show w5.ownsRow (w.heap.size + 1) 3 1 vo' (k + 1) (((List.range (k + 1)).map (ownL m)).map (Value.int .i64)) ∧ Below w.heap.size w w5 ∧ Blk w5 w.heap.size 26 #[.slice A m.old.length c, .int .i64 m.nw, .slice (some aa) m.ss.length c2, .slice A3 m.js.length c3] from ⟨by rw [map_range_succ, List.map_append, HV.out]; exact hown', below_row' (HR.out.2.1.trans ((below_box _ _).mono HR.out.2.1.size)) HO.out (by omega) hgrow (by have := HR.out.2.1.size; simp; omega), blk_grown HO.out hgrow HBT.out (by decide)⟩); clear hown' hgrow hfr)
      go_roundw
      case rel => exact ⟨k + 1, by omega, by go_num, HN.out⟩
      case measure => first | (simp [intOf]; done) | (simp [intOf]; omega)
    · have hkI : decide ((k : Int) < (m.ss.length : Int)) = false := by simp; omega
      obtain rfl : k = m.ss.length := by omega
      obtain ⟨A7, c7, e7, r1, r2, r3, r4, r5⟩ := own_ints (by simp) HR.out.1
      have HF := hid (show GivesInts (lst m (ownL m)) w (.returned (.slice A7 (lst m (ownL m)).length c7)) wr from ⟨A7, c7, rfl, r1, r2, r3, (fun a e => by obtain ⟨x1, x2⟩ := r4 a e; exact ⟨by omega, x2⟩), r5, HR.out.2.1⟩)
      subst e7
      clear r1 r2 r3 r4 r5 HR
      go_wp2
      go_ret
      exact HF.out

theorem ints_blk {w : World} {g : Nat} {xs : List Int} (h : Blk w g 3 (intC xs)) : IsInts w w.heap.size (some ⟨g, 0, none⟩) xs := fun k x hk => by
  refine ⟨_, rfl, h.lt, ?_⟩
  rw [add_blk, h.cell, intC_get hk]
/-- borders in which a street is the only one in district 1 -/
def aloneL (i : Nat) : Nat → Int := fun k => if k = i then 1 else 0
theorem alone_set {m : MapD} {i : Nat} (hi : i < m.ss.length) : (List.replicate m.ss.length (0 : Int)).set i 1 = lst m (aloneL i) := by
  apply List.ext_getElem?
  intro k
  by_cases hk : k < m.ss.length
  · rw [lst_get hk]
    unfold aloneL
    by_cases e : k = i
    · subst e
      rw [List.getElem?_set_self (by simpa using hk), if_pos rfl]
    · rw [List.getElem?_set_ne (fun h => e h.symm), if_neg e, List.getElem?_replicate, if_pos hk]
  · rw [List.getElem?_eq_none (by simp; omega), List.getElem?_eq_none (by rw [lst_len]; omega)]
set_option maxRecDepth 100000 in
set_option maxHeartbeats 2000000 in
theorem qalone_any (m : MapD) (i : Nat) (A : Option Addr) (c : Nat) (A2 : Option Addr) (c2 : Nat) (A3 : Option Addr) (c3 : Nat) (w : World) (_h : MIn m A c A2 c2 A3 c3 w) (hs8 : m.ss.length ≤ 1000) (hi : i < m.ss.length) :
    Calls Try.prog 49 #[.agg #[.slice A m.old.length c, .int .i64 m.nw, .slice A2 m.ss.length c2, .slice A3 m.js.length c3], .int .i64 (i : Int)] w (GivesInts (lst m (aloneL i)) w) := by
  have hB := below_box (w := w) #[.slice A m.old.length c, .int .i64 m.nw, .slice A2 m.ss.length c2, .slice A3 m.js.length c3] 26
  have hT := Blk.new w 26 #[.slice A m.old.length c, .int .i64 m.nw, .slice A2 m.ss.length c2, .slice A3 m.js.length c3]
  have hB2 := hB.alloc hB.size (.cells (intC (List.replicate m.ss.length 0)) 3)
  have hZ := Blk.new (w.alloc (.cells #[.slice A m.old.length c, .int .i64 m.nw, .slice A2 m.ss.length c2, .slice A3 m.js.length c3] 26)) 3 (intC (List.replicate m.ss.length 0))
  rw [World.size_alloc] at hZ
  have hmk := run_make_row' (P := Try.prog) 22 3 (.int .i64 0) 8 Try.underlying22 int_info rfl .i64 .i64 m.ss.length (by omega) (by omega)
  rw [intC_zero] at hmk
  have h9 := Blk.new (w.alloc (.cells #[.slice A m.old.length c, .int .i64 m.nw, .slice A2 m.ss.length c2, .slice A3 m.js.length c3] 26)) 3 (intC (lst m (aloneL i)))
  rw [World.size_alloc] at h9
  have hb9 := hB.alloc hB.size (.cells (intC (lst m (aloneL i))) 3)
  have HF := hid (show GivesInts (lst m (aloneL i)) w (.returned (.slice (some ⟨w.heap.size + 1, 0, none⟩) m.ss.length m.ss.length)) _ from ⟨some ⟨w.heap.size + 1, 0, none⟩, m.ss.length, by rw [lst_len], by rw [lst_len]; exact Nat.le_refl _, by unfold maxLen; omega, ints_blk h9, (fun a e => by cases e; exact ⟨by simp, _, h9⟩), (fun e => by cases e), hb9⟩)
  have yc := hZ.cell i
  rw [intC_get (show (List.replicate m.ss.length (0 : Int))[i]? = some 0 by rw [List.getElem?_replicate, if_pos hi])] at yc
  have yf := hZ.frozen i
  have yl := hZ.lt
  have hiI : (i : Int) < (m.ss.length : Int) := by omega
  clear h9 hb9 hB hB2 hZ _h
  have HT := hid hT
  obtain ⟨t0, t1, t2, t3⟩ := hT.c4
  have HIS := hid (show (intC (List.replicate m.ss.length 0)).setIfInBounds i (.int .i64 1) = intC (lst m (aloneL i)) by rw [intC_set, alone_set hi])
  clear hT hi
  go_enter Try.func49, Try.ntmps49
  go_wp2
  rw [HIS.out]
  go_ret
  exact HF.out

theorem conM_false {m : MapD} {d : Nat} (hd : d < m.old.length) (h : conD m d = false) : conM m = false := by
  unfold conM
  rw [List.all_eq_false]
  exact ⟨d, List.mem_range.2 hd, by rw [h]; decide⟩
set_option maxRecDepth 100000 in
set_option maxHeartbeats 2000000 in
theorem qconsist_any (m : MapD) (A : Option Addr) (c : Nat) (A2 : Option Addr) (c2 : Nat) (A3 : Option Addr) (c3 : Nat) (w : World) (h : MIn m A c A2 c2 A3 c3 w) (ok : OkM m) :
    Calls Try.prog 84 #[.agg #[.slice A m.old.length c, .int .i64 m.nw, .slice A2 m.ss.length c2, .slice A3 m.js.length c3]] w fun e w' => e = .returned (.bool (conM m)) ∧ Below w.heap.size w w' := by
  have hm1 := h.m1
  have hl1 := h.l1
  have hm2 := h.m2
  have hl2 := h.l2
  unfold maxLen at hm1 hm2
  have hd4 := ok.d4
  have hs8 := ok.s8
  have hB := below_box (w := w) #[.slice A m.old.length c, .int .i64 m.nw, .slice A2 m.ss.length c2, .slice A3 m.js.length c3] 26
  have hT := Blk.new w 26 #[.slice A m.old.length c, .int .i64 m.nw, .slice A2 m.ss.length c2, .slice A3 m.js.length c3]
  have HB := hid hB
  have HA := hid (h.at_ hB)
  have OK := hid ok
  obtain ⟨t0, t1, t2, t3⟩ := hT.c4
  clear hB hT h ok
  go_enter Try.func84, Try.ntmps84
  go_wp2
  generalize w.alloc (.cells #[.slice A m.old.length c, .int .i64 m.nw, .slice A2 m.ss.length c2, .slice A3 m.js.length c3] 26) = w1 at *
  go_loop [3] (fun i => ∃ k : Nat, k ≤ m.old.length ∧ i = .int .i64 k ∧ (List.range k).all (conD m) = true) (fun i => m.old.length - (intOf i).toNat)
  case atStart => exact ⟨0, Nat.zero_le _, rfl, rfl⟩
  case round =>
    obtain ⟨d, hd, rfl, hall⟩ := hrel
    have HR := hid hall
    clear hall
    by_cases hlt : d < m.old.length
    · have hkI : (d : Int) < (m.old.length : Int) := by omega
      obtain ⟨x, hx⟩ : ∃ x, m.old[d]? = some x := ⟨_, List.getElem?_eq_getElem hlt⟩
      obtain ⟨ao, eO, go1, go2⟩ := HA.out.io d x hx
      subst eO
      have HX := hid (MapD.at_eq hx)
      clear hx go1
      go_wp2
      go_loop [4, 5, 6] (fun v u i => ∃ k : Nat, k ≤ m.ss.length ∧ i = .int .i64 k ∧ v = .int .i64 (sumO m d tt Stt.lo k) ∧ u = .int .i64 (sumO m d tt Stt.hi k)) (fun _ _ i => m.ss.length - (intOf i).toNat)
      case atStart => exact ⟨0, Nat.zero_le _, rfl, rfl, rfl⟩
      case round =>
        obtain ⟨k, hk, rfl, rfl, rfl⟩ := hrel
        obtain ⟨b1, b2⟩ := sumO_bounds (m := m) (g := Stt.lo) (M := 10000) (by omega) d tt k (fun i hi => by have := OK.out.sAt (i := i) (by omega); omega)
        obtain ⟨b3, b4⟩ := sumO_bounds (m := m) (g := Stt.hi) (M := 10000) (by omega) d tt k (fun i hi => by have := OK.out.sAt (i := i) (by omega); omega)
        by_cases hlk : k < m.ss.length
        · have hkJ : (k : Int) < (m.ss.length : Int) := by omega
          obtain ⟨s, hs⟩ : ∃ s, m.ss[k]? = some s := ⟨_, List.getElem?_eq_getElem hlk⟩
          obtain ⟨aa, eA, g1, f0, f1, f2, f3, f4⟩ := HA.out.is k s hs
          subst eA
          have hsb := OK.out.stt s (List.mem_of_getElem? hs)
          have hw1 : 0 ≤ s.lo := hsb.2.2.2.2.2.2.1
          have hw2 : s.lo ≤ s.hi := hsb.2.2.2.2.2.2.2.1
          have hw3 : s.hi ≤ 10000 := hsb.2.2.2.2.2.2.2.2
          by_cases hod : s.o = (d : Int)
          · have hoB : (s.o == (d : Int)) = true := by simp [hod]
            have HST := hid (And.intro (sumO_take (p := tt) (g := Stt.lo) hs hod rfl) (sumO_take (p := tt) (g := Stt.hi) hs hod rfl))
            clear hod hs g1 hsb
            generalize sumO m d tt Stt.lo k = S at *
            generalize sumO m d tt Stt.hi k = T at *
            go_wp2
            go_round
            case rel => exact ⟨k + 1, by omega, by go_num, by rw [HST.out.1], by rw [HST.out.2]⟩
            case measure => first | (simp [intOf]; done) | (simp [intOf]; omega)
          · have hoB : (s.o == (d : Int)) = false := by simp [hod]
            have HST := hid (And.intro (sumO_skip (p := tt) (g := Stt.lo) hs hod) (sumO_skip (p := tt) (g := Stt.hi) hs hod))
            clear hod hs g1 hsb
            generalize sumO m d tt Stt.lo k = S at *
            generalize sumO m d tt Stt.hi k = T at *
            go_wp2
            go_round
            case rel => exact ⟨k + 1, by omega, by go_num, by rw [HST.out.1], by rw [HST.out.2]⟩
            case measure => first | (simp [intOf]; done) | (simp [intOf]; omega)
        · have hkJ : decide ((k : Int) < (m.ss.length : Int)) = false := by simp; omega
          obtain rfl : k = m.ss.length := by omega
          have hcd : conD m d = inB x (sumO m d tt Stt.lo m.ss.length) (sumO m d tt Stt.hi m.ss.length) := by unfold conD; rw [HX.out]
          have KI := qin_any x (sumO m d tt Stt.lo m.ss.length) (sumO m d tt Stt.hi m.ss.length) w1
          cases hc : conD m d
          · rw [hc] at hcd
            rw [← hcd] at KI
            have KI := hid KI
            have HE := hid (conM_false hlt hc)
            clear hc hcd b1 b2 b3 b4
            generalize sumO m d tt Stt.lo m.ss.length = S at *
            generalize sumO m d tt Stt.hi m.ss.length = T at *
            go_wp2_with fail
            refine KI.out.mono ?_
            rintro e w2 ⟨rfl, rfl⟩
            go_wp2
            go_ret
            exact ⟨by rw [HE.out]; rfl, HB.out⟩
          · rw [hc] at hcd
            rw [← hcd] at KI
            have KI := hid KI
            have HNX := hid (show (List.range (d + 1)).all (conD m) = true by rw [List.range_succ, List.all_append, HR.out]; simp [hc])
            clear hc hcd b1 b2 b3 b4
            generalize sumO m d tt Stt.lo m.ss.length = S at *
            generalize sumO m d tt Stt.hi m.ss.length = T at *
            go_wp2_with fail
            refine KI.out.mono ?_
            rintro e w2 ⟨rfl, rfl⟩
            go_wp2
            go_round
            case rel => exact ⟨d + 1, by omega, by go_num, HNX.out⟩
            case measure => first | (simp [intOf]; done) | (simp [intOf]; omega)
    · have hkI : decide ((d : Int) < (m.old.length : Int)) = false := by simp; omega
      obtain rfl : d = m.old.length := by omega
      have HE := hid (show conM m = true from HR.out)
      go_wp2
      go_ret
      exact ⟨by rw [HE.out]; rfl, HB.out⟩
end Go.Proofs.Ytoeabajigfdkaaa
/- The last step of each statement's proof: a call that has only laid new memory leaves its arguments as they read. -/
namespace Go.Proofs.Ytoeabajigfdkaaa
open Go.ChangeShapes Go.WideShapes Go.ChangeAt Go.RowKit

section
variable {H : Type} {enc : TypeId × Value → H}
/-- arguments read as they did -/
theorem trodAll_below {P : Program} (hl : laidOutB P = true) {W W' : World} (hb : Below W.heap.size W W') : ∀ {ts : List TypeId} {vs : List Value} {ds : List (DataW H)} {ps : List MemPlace},
    (ts.all fun t => P.readableRec t && decide (t < P.types.size)) = true → DataW.TrodAll enc P W 0 (fun _ => true) true ts vs ds ps → (∀ x ∈ ps, x.block < W.heap.size) →
    DataW.TrodAll enc P W' 0 (fun b => decide (b < W.heap.size)) true ts vs ds ps := by
  intro ts
  induction ts with
  | nil =>
    intro vs ds ps _ h _
    obtain ⟨rfl, rfl, rfl⟩ := trodAll_nil h
    exact trodAll_mk0
  | cons t ts ih =>
    intro vs ds ps ht h hp
    obtain ⟨v, vs', d, ds', p, p', rfl, rfl, rfl, h0, h1⟩ := trodAll_cons h
    simp only [List.all_cons, Bool.and_eq_true, decide_eq_true_eq] at ht
    exact trodAll_cons_mk (hb.trod hl ht.1.1 ht.1.2 h0 fun x hx => hp x (List.mem_append_left _ hx)) (ih ht.2 h1 fun x hx => hp x (List.mem_append_right _ hx))
theorem law_post {f : Func} {s : ChangeSpec} {W W' : World} {args : Array Value} {ds gs : List (DataW H)} {before : List MemPlace} (hl : laidOutB Try.prog = true) (hv : s.vars = [])
    (hr : f.resultTypes = #[4]) (hp : (f.params.toList.all fun t => Try.prog.readableRec t && decide (t < Try.prog.types.size)) = true)
    (hW : DataW.Whole enc Try.prog f.params.toList s.vars false W args.toList ds gs before) (hs : s.fn H (ds ++ gs) = { results := [.lit (.bool true)], args := ds }) (hb : Below W.heap.size W W') :
    s.post enc Try.prog f false true false false W args (.bool true) W' := by
  have hlt := hW.lt
  have hW' := hW
  obtain ⟨p, q, hA, hV, rfl, _, _⟩ := hW
  rw [hv] at hV
  obtain ⟨rfl, rfl⟩ := trodVars_none hV
  refine ⟨ds, [], p ++ [], [], p, [], hW', ?_, ?_, ?_, ?_, fun h => by cases h⟩
  · rw [hs, hr]
    exact trodAll_cons_mk (shut_bool Try.underlying4 _) trodAll_mk0
  · rw [hs]
    exact trodAll_below hl hb hp hA fun x hx => hlt x (by simpa using hx)
  · rw [hs, hv]; rfl
  · exact World.keptBut_mono (fun x hx => ⟨hx, .inr (.inl (by simpa using hx))⟩) (hb.frame (· ∈ p ++ []))
end
theorem own : ownKnob Try.prog.godebug = none := by kernel_rfl
theorem laid_out : laidOutB Try.prog = true := by kernel_rfl
end Go.Proofs.Ytoeabajigfdkaaa
/- Opening an argument that is a list of numbers. -/
namespace Go.Proofs.Ytoeabajigfdkaaa
open Go.ChangeShapes Go.WideShapes Go.ChangeAt Go.RowKit

section
variable {H : Type} {enc : TypeId × Value → H}
theorem of_slice {a b : Option Addr} {n m c d : Nat} {v : Value} (h : v = .slice a n c) (e : v.cells.toList = [.slice b m d]) : v = .slice b m d := by
  subst h
  simpa [Value.cells] using e
set_option maxRecDepth 100000 in
/-- a list of numbers of one kind, as an argument -/
theorem open_nums {W : World} {r : Reach} {b0 : Nat} {t e : TypeId} {k : IntKind} {v : Value} {d : DataW H} {ps : List MemPlace} (ht : Try.prog.underlying t = some (.slice e)) (he : Try.prog.underlying e = some (.int k)) (hc : Try.prog.cellsOf e = 1)
    (hval : Value.okWide Try.prog W r b0 t v) (hd : DataW.Trod enc Try.prog W 0 (fun _ => true) true t v d ps) :
    ∃ (A : Option Addr) (c : Nat) (xs : List Int), v = .slice A xs.length c ∧ xs.length ≤ c ∧ c ≤ maxLen ∧ (A = none → c = 0) ∧ (∀ x ∈ xs, k.min ≤ x ∧ x ≤ k.max) ∧
      ∀ i x, xs[i]? = some x → ∃ a, A = some a ∧ a.block < W.heap.size ∧ W.cell? (a.add i) = some (.int k x) := by
  obtain ⟨fuel, h⟩ := hd
  obtain ⟨a0, n0, c0, hv⟩ := okWide_slice ht hval
  rcases open_ints ht he hc h with ⟨e1, _⟩ | ⟨a, len, cap, zs, e1, _, hl, hm, hz, _, hcell, hwf⟩
  · have := of_slice hv e1
    subst this
    exact ⟨none, 0, [], rfl, Nat.le_refl 0, Nat.zero_le maxLen, fun _ => rfl, (fun x hx => by simp at hx), fun i x hx => by simp at hx⟩
  · have := of_slice hv e1
    subst this
    simp only [if_true] at hz
    have hlt : (zs.take len).length = len := by rw [List.length_take]; omega
    refine ⟨some a, cap, zs.take len, by rw [hlt], by omega, hm, (fun e => by cases e), (fun x hx => by simpa [Lit.wf] using hwf x (List.mem_of_mem_take hx)), fun i x hx => ?_⟩
    rw [List.getElem?_take] at hx
    split at hx
    · have hi := (List.getElem?_eq_some_iff.1 hx).1
      have hcl := hcell i hi
      rw [show zs.getD i 0 = x by simp [List.getD, hx]] at hcl
      exact ⟨a, rfl, by have := block_lt_of_cell hcl; rwa [block_of_add] at this, hcl⟩
    · cases hx
end
end Go.Proofs.Ytoeabajigfdkaaa
/- Opening an argument that is a map. -/
namespace Go.Proofs.Ytoeabajigfdkaaa
open Go.ChangeShapes Go.WideShapes Go.ChangeAt Go.RowKit Go.Deep Go.Joins

instance : Inhabited Stt := ⟨⟨0, 0, 0, 0, 0⟩⟩
instance : Inhabited Jn := ⟨⟨0, 0⟩⟩
section
variable {H : Type} {enc : TypeId × Value → H} {W : World} {n : Nat} {v : Value} {y : DataW H × List MemPlace}
set_option maxRecDepth 100000 in
theorem trod_ints (h : DataW.trod enc Try.prog W 0 (fun _ => true) true n 22 [v] = some y) :
    ∃ A c xs, v = .slice A (xs : List Int).length c ∧ IsInts W W.heap.size A xs ∧ xs.length ≤ c ∧ c ≤ maxLen ∧ (A = none → c = 0) := by
  rcases open_ints Try.underlying22 Try.underlying3 (by kernel_rfl) h with ⟨e, _⟩ | ⟨a, len, cap, zs, e, _, hl, hm, hz, _, hcell, _⟩
  · injection e with e
    subst e
    exact ⟨none, 0, [], rfl, (fun r xs hr => by simp at hr), Nat.le_refl 0, Nat.zero_le maxLen, fun _ => rfl⟩
  · injection e with e
    subst e
    simp only [if_true] at hz
    have hlt : (zs.take len).length = len := by rw [List.length_take]; omega
    refine ⟨some a, cap, zs.take len, by rw [hlt], fun i x hx => ?_, by omega, hm, fun e => by cases e⟩
    rw [List.getElem?_take] at hx
    split at hx
    · have hi := (List.getElem?_eq_some_iff.1 hx).1
      have hcl := hcell i hi
      rw [show zs.getD i 0 = x by simp [List.getD, hx]] at hcl
      exact ⟨a, rfl, by have := block_lt_of_cell hcl; rwa [block_of_add] at this, hcl⟩
    · cases hx
set_option maxRecDepth 100000 in
theorem trod_rng {cs : List Value} {x : DataW H × List MemPlace} (h : DataW.trod enc Try.prog W 0 (fun _ => true) true n 43 cs = some x) (hl : cs.length = 2) :
    ∃ lo hi : Int, cs = [.int .i64 lo, .int .i64 hi] := by
  obtain ⟨y0, y1, m, _, _, h0, h1⟩ := trod_struct2 Try.underlying43 h
  match cs, hl with
  | [c0, c1], _ =>
    have k : Try.prog.cellsOf 3 = 1 := by kernel_rfl
    simp only [k, List.drop_zero, List.drop_succ_cons, List.take_succ_cons, List.take_zero] at h0 h1
    obtain ⟨n0, e0, _, _⟩ := DataW.trod_int Try.underlying3 h0
    obtain ⟨n1, e1, _, _⟩ := DataW.trod_int Try.underlying3 h1
    injection e0 with e0
    injection e1 with e1
    subst e0 e1
    exact ⟨n0, n1, rfl⟩
set_option maxRecDepth 100000 in
theorem trod_stt {a : Addr} {cs : List Value} {x : DataW H × List MemPlace} (hc : W.cells? 0 a 5 = some cs) (h : DataW.trod enc Try.prog W 0 (fun _ => true) true n 45 cs = some x) :
    ∃ s : Stt, W.cell? a = some (.int .i64 s.o) ∧ W.cell? ⟨a.block, a.off + 1, none⟩ = some (.int .i64 s.n) ∧ W.cell? ⟨a.block, a.off + 2, none⟩ = some (.int .i64 s.wt) ∧ W.cell? ⟨a.block, a.off + 3, none⟩ = some (.int .i64 s.lo) ∧ W.cell? ⟨a.block, a.off + 4, none⟩ = some (.int .i64 s.hi) := by
  obtain ⟨y0, y1, y2, y3, m, _, hl, h0, h1, h2, h3⟩ := trod_struct4 Try.underlying45 h
  obtain ⟨_, hlen, hcell⟩ := World.cells?_some hc
  match cs, hlen with
  | [c0, c1, c2, c3, c4], _ =>
    have k : Try.prog.cellsOf 3 = 1 := by kernel_rfl
    have k2 : Try.prog.cellsOf 43 = 2 := by kernel_rfl
    simp only [k, k2, List.drop_zero, List.drop_succ_cons, List.take_succ_cons, List.take_zero] at h0 h1 h2 h3
    obtain ⟨n0, e0, _, _⟩ := DataW.trod_int Try.underlying3 h0
    obtain ⟨n1, e1, _, _⟩ := DataW.trod_int Try.underlying3 h1
    obtain ⟨n2, e2, _, _⟩ := DataW.trod_int Try.underlying3 h2
    obtain ⟨lo, hi, e3⟩ := trod_rng h3 rfl
    injection e0 with e0
    injection e1 with e1
    injection e2 with e2
    injection e3 with e3 e4
    injection e4 with e4
    subst e0 e1 e2 e3 e4
    refine ⟨⟨n0, n1, n2, lo, hi⟩, ?_, ?_, ?_, ?_, ?_⟩
    · have := hcell 0 (by omega); simpa [Addr.add] using this
    · have := hcell 1 (by omega); simpa [Addr.add] using this
    · have := hcell 2 (by omega); simpa [Addr.add] using this
    · have := hcell 3 (by omega); simpa [Addr.add] using this
    · have := hcell 4 (by omega); simpa [Addr.add] using this
set_option maxRecDepth 100000 in
theorem trod_jn {a : Addr} {cs : List Value} {x : DataW H × List MemPlace} (hc : W.cells? 0 a 2 = some cs) (h : DataW.trod enc Try.prog W 0 (fun _ => true) true n 63 cs = some x) :
    ∃ j : Jn, W.cell? a = some (.int .i64 j.a) ∧ W.cell? ⟨a.block, a.off + 1, none⟩ = some (.int .i64 j.b) := by
  obtain ⟨y0, y1, m, _, hl, h0, h1⟩ := trod_struct2 Try.underlying63 h
  obtain ⟨_, hlen, hcell⟩ := World.cells?_some hc
  match cs, hlen with
  | [c0, c1], _ =>
    have k : Try.prog.cellsOf 3 = 1 := by kernel_rfl
    simp only [k, List.drop_zero, List.drop_succ_cons, List.take_succ_cons, List.take_zero] at h0 h1
    obtain ⟨n0, e0, _, _⟩ := DataW.trod_int Try.underlying3 h0
    obtain ⟨n1, e1, _, _⟩ := DataW.trod_int Try.underlying3 h1
    injection e0 with e0
    injection e1 with e1
    subst e0 e1
    refine ⟨⟨n0, n1⟩, ?_, ?_⟩
    · have := hcell 0 (by omega); simpa [Addr.add] using this
    · have := hcell 1 (by omega); simpa [Addr.add] using this
set_option maxRecDepth 100000 in
theorem trod_stts (h : DataW.trod enc Try.prog W 0 (fun _ => true) true n 23 [v] = some y) :
    ∃ A c ss, v = .slice A (ss : List Stt).length c ∧ IsStts W W.heap.size A ss ∧ ss.length ≤ c ∧ c ≤ maxLen ∧ (A = none → c = 0) := by
  rcases open_slice Try.underlying23 h with ⟨e, _⟩ | ⟨a, len, cap, m, n', D, Pl, e, _, hl, hm, hmm, _, hr⟩
  · injection e with e
    subst e
    exact ⟨none, 0, [], rfl, (fun r xs hr => by simp at hr), Nat.le_refl 0, Nat.zero_le maxLen, fun _ => rfl⟩
  · injection e with e
    subst e
    simp only [if_true] at hmm
    have k : Try.prog.cellsOf 45 = 5 := by kernel_rfl
    obtain ⟨F, hF⟩ := choose_lt (α := Stt) (n := m) (p := fun i f => W.cell? (a.add (i * 5)) = some (.int .i64 f.o) ∧ W.cell? ⟨(a.add (i * 5)).block, (a.add (i * 5)).off + 1, none⟩ = some (.int .i64 f.n) ∧ W.cell? ⟨(a.add (i * 5)).block, (a.add (i * 5)).off + 2, none⟩ = some (.int .i64 f.wt) ∧ W.cell? ⟨(a.add (i * 5)).block, (a.add (i * 5)).off + 3, none⟩ = some (.int .i64 f.lo) ∧ W.cell? ⟨(a.add (i * 5)).block, (a.add (i * 5)).off + 4, none⟩ = some (.int .i64 f.hi)) (fun i hi => by
      obtain ⟨cs', h1, h2⟩ := hr i hi
      rw [k] at h1
      exact trod_stt h1 h2)
    refine ⟨some a, cap, (List.range len).map F, by simp, fun r f hx => ?_, by simpa using hl, hm, fun e => by cases e⟩
    rw [List.getElem?_map] at hx
    cases hrr : (List.range len)[r]? with
    | none => rw [hrr] at hx; cases hx
    | some r' =>
      obtain ⟨hrl, e⟩ := List.getElem?_eq_some_iff.1 hrr
      simp at hrl
      have : r' = r := by rw [← e]; simp
      subst this
      rw [hrr] at hx
      simp only [Option.map_some] at hx
      injection hx with hx
      subst hx
      obtain ⟨h0, h1, h2, h3, h4⟩ := hF r' (by omega)
      exact ⟨a, rfl, by have := block_lt_of_cell h0; rwa [block_of_add] at this, h0, h1, h2, h3, h4⟩
set_option maxRecDepth 100000 in
theorem trod_jns (h : DataW.trod enc Try.prog W 0 (fun _ => true) true n 24 [v] = some y) :
    ∃ A c js, v = .slice A (js : List Jn).length c ∧ IsJns W W.heap.size A js ∧ js.length ≤ c ∧ c ≤ maxLen ∧ (A = none → c = 0) := by
  rcases open_slice Try.underlying24 h with ⟨e, _⟩ | ⟨a, len, cap, m, n', D, Pl, e, _, hl, hm, hmm, _, hr⟩
  · injection e with e
    subst e
    exact ⟨none, 0, [], rfl, (fun r xs hr => by simp at hr), Nat.le_refl 0, Nat.zero_le maxLen, fun _ => rfl⟩
  · injection e with e
    subst e
    simp only [if_true] at hmm
    have k : Try.prog.cellsOf 63 = 2 := by kernel_rfl
    obtain ⟨F, hF⟩ := choose_lt (α := Jn) (n := m) (p := fun i f => W.cell? (a.add (i * 2)) = some (.int .i64 f.a) ∧ W.cell? ⟨(a.add (i * 2)).block, (a.add (i * 2)).off + 1, none⟩ = some (.int .i64 f.b)) (fun i hi => by
      obtain ⟨cs', h1, h2⟩ := hr i hi
      rw [k] at h1
      exact trod_jn h1 h2)
    refine ⟨some a, cap, (List.range len).map F, by simp, fun r f hx => ?_, by simpa using hl, hm, fun e => by cases e⟩
    rw [List.getElem?_map] at hx
    cases hrr : (List.range len)[r]? with
    | none => rw [hrr] at hx; cases hx
    | some r' =>
      obtain ⟨hrl, e⟩ := List.getElem?_eq_some_iff.1 hrr
      simp at hrl
      have : r' = r := by rw [← e]; simp
      subst this
      rw [hrr] at hx
      simp only [Option.map_some] at hx
      injection hx with hx
      subst hx
      obtain ⟨h0, h1⟩ := hF r' (by omega)
      exact ⟨a, rfl, by have := block_lt_of_cell h0; rwa [block_of_add] at this, h0, h1⟩
/-- a map's argument: its lists, and that a nil slice has no room -/
structure MArg (m : MapD) (A : Option Addr) (c : Nat) (A2 : Option Addr) (c2 : Nat) (A3 : Option Addr) (c3 : Nat) (w : World) : Prop extends MIn m A c A2 c2 A3 c3 w where
  z1 : A = none → c = 0
  z2 : A2 = none → c2 = 0
  z3 : A3 = none → c3 = 0
theorem MArg.at_ {m : MapD} {A : Option Addr} {c : Nat} {A2 : Option Addr} {c2 : Nat} {A3 : Option Addr} {c3 : Nat} {w w' : World} (h : MArg m A c A2 c2 A3 c3 w) (hb : Below w.heap.size w w') : MArg m A c A2 c2 A3 c3 w' := ⟨h.toMIn.at_ hb, h.z1, h.z2, h.z3⟩
set_option maxRecDepth 100000 in
/-- a map, as an argument -/
theorem open_map {r : Reach} {b0 : Nat} {d : DataW H} {ps : List MemPlace} (hval : Value.okWide Try.prog W r b0 26 v) (hd : DataW.Trod enc Try.prog W 0 (fun _ => true) true 26 v d ps) :
    ∃ (m : MapD) (A : Option Addr) (c : Nat) (A2 : Option Addr) (c2 : Nat) (A3 : Option Addr) (c3 : Nat), v = .agg #[.slice A m.old.length c, .int .i64 m.nw, .slice A2 m.ss.length c2, .slice A3 m.js.length c3] ∧ MArg m A c A2 c2 A3 c3 W := by
  obtain ⟨v0, v1, v2, v3, y0, y1, y2, y3, m, rfl, _, _, h0, h1, h2, h3⟩ := open_agg4 Try.underlying26 (by kernel_rfl) (by kernel_rfl) hval hd
  obtain ⟨A, c, xs, rfl, r1, r2, r3, r4⟩ := trod_ints h0
  obtain ⟨b, e0, _, _⟩ := DataW.trod_int Try.underlying3 h1
  injection e0 with e0
  subst e0
  obtain ⟨A2, c2, ss, rfl, s1, s2, s3, s4⟩ := trod_stts h2
  obtain ⟨A3, c3, js, rfl, f1, f2, f3, f4⟩ := trod_jns h3
  exact ⟨⟨xs, b, ss, js⟩, A, c, A2, c2, A3, c3, rfl, ⟨⟨r1, s1, f1, r2, r3, s2, s3, f2, f3⟩, r4, s4, f4⟩⟩
end
end Go.Proofs.Ytoeabajigfdkaaa
/- The law's tests of a map: Thin, fault, consistent, ready. Conditions stand at each theorem. -/
namespace Go.Proofs.Ytoeabajigfdkaaa
open Go.RowKit Go.Shelf

def thinM (m : MapD) : Bool := decide (m.old.length ≤ 7) && (decide (m.ss.length ≤ 11) && decide (m.js.length ≤ 24))
def ThinP (m : MapD) : Prop := m.old.length ≤ 7 ∧ m.ss.length ≤ 11 ∧ m.js.length ≤ 24
theorem thinM_iff {m : MapD} : thinM m = true ↔ ThinP m := by simp [thinM, ThinP]
set_option maxRecDepth 100000 in
set_option maxHeartbeats 1000000 in
theorem thin_any (m : MapD) (A : Option Addr) (c : Nat) (A2 : Option Addr) (c2 : Nat) (A3 : Option Addr) (c3 : Nat) (w : World) :
    Calls Try.prog 16 #[.agg #[.slice A m.old.length c, .int .i64 m.nw, .slice A2 m.ss.length c2, .slice A3 m.js.length c3]] w fun e w' => e = .returned (.bool (thinM m)) ∧ Below w.heap.size w w' := by
  have hB := below_box (w := w) #[.slice A m.old.length c, .int .i64 m.nw, .slice A2 m.ss.length c2, .slice A3 m.js.length c3] 26
  have HB := hid hB
  clear hB
  by_cases h1 : m.old.length ≤ 7
  · by_cases h2 : m.ss.length ≤ 11
    · by_cases h3 : m.js.length ≤ 24
      · have HE := hid (show thinM m = true by simp [thinM, h1, h2, h3])
        have b1 : decide ((m.old.length : Int) ≤ 7) = true := by simp; omega
        have b2 : decide ((m.ss.length : Int) ≤ 11) = true := by simp; omega
        have b3 : decide ((m.js.length : Int) ≤ 24) = true := by simp; omega
        clear h1 h2 h3
        go_enter Try.func16, Try.ntmps16
        go_wp2
        go_ret
        exact ⟨by rw [HE.out]; rfl, HB.out⟩
      · have HE := hid (show thinM m = false by simp [thinM, h3])
        have b1 : decide ((m.old.length : Int) ≤ 7) = true := by simp; omega
        have b2 : decide ((m.ss.length : Int) ≤ 11) = true := by simp; omega
        have b3 : decide ((m.js.length : Int) ≤ 24) = false := by simp; omega
        clear h1 h2 h3
        go_enter Try.func16, Try.ntmps16
        go_wp2
        go_ret
        exact ⟨by rw [HE.out]; rfl, HB.out⟩
    · have HE := hid (show thinM m = false by simp [thinM, h2])
      have b1 : decide ((m.old.length : Int) ≤ 7) = true := by simp; omega
      have b2 : decide ((m.ss.length : Int) ≤ 11) = false := by simp; omega
      clear h1 h2
      go_enter Try.func16, Try.ntmps16
      go_wp2
      go_ret
      exact ⟨by rw [HE.out]; rfl, HB.out⟩
  · have HE := hid (show thinM m = false by simp [thinM, h1])
    have b1 : decide ((m.old.length : Int) ≤ 7) = false := by simp; omega
    clear h1
    go_enter Try.func16, Try.ntmps16
    go_wp2
    go_ret
    exact ⟨by rw [HE.out]; rfl, HB.out⟩
set_option maxRecDepth 100000 in
set_option maxHeartbeats 1000000 in
theorem mfault_any (m : MapD) (A : Option Addr) (c : Nat) (A2 : Option Addr) (c2 : Nat) (A3 : Option Addr) (c3 : Nat) (w : World) (h : MIn m A c A2 c2 A3 c3 w) :
    Calls Try.prog 21 #[.agg #[.slice A m.old.length c, .int .i64 m.nw, .slice A2 m.ss.length c2, .slice A3 m.js.length c3]] w fun e w' => e = .returned (.int .i64 (chkM m)) ∧ Below w.heap.size w w' := by
  have hB := below_box (w := w) #[.slice A m.old.length c, .int .i64 m.nw, .slice A2 m.ss.length c2, .slice A3 m.js.length c3] 26
  have hT := Blk.new w 26 #[.slice A m.old.length c, .int .i64 m.nw, .slice A2 m.ss.length c2, .slice A3 m.js.length c3]
  have HB := hid hB
  have HT := hid hT
  have HA := hid (h.at_ hB)
  obtain ⟨t0, t1, t2, t3⟩ := hT.c4
  clear hB hT h
  have KF := hid (qfault_any m A c A2 c2 A3 c3 _ HA.out)
  go_enter Try.func21, Try.ntmps21
  go_wp2_with fail
  refine KF.out.mono ?_
  rintro e w2 ⟨rfl, hb⟩
  have HB2 := hid (HB.out.trans (hb.mono HB.out.size))
  clear hb KF t0 t1 t2 t3
  go_wp2
  go_ret
  exact ⟨rfl, HB2.out⟩
theorem cst_of (m : MapD) : cstM m = if chkM m = 0 then (if conM m = true then 0 else 9) else chkM m := rfl
set_option maxRecDepth 100000 in
set_option maxHeartbeats 1000000 in
theorem mconsist_any (m : MapD) (A : Option Addr) (c : Nat) (A2 : Option Addr) (c2 : Nat) (A3 : Option Addr) (c3 : Nat) (w : World) (h : MIn m A c A2 c2 A3 c3 w) :
    Calls Try.prog 34 #[.agg #[.slice A m.old.length c, .int .i64 m.nw, .slice A2 m.ss.length c2, .slice A3 m.js.length c3]] w fun e w' => e = .returned (.int .i64 (cstM m)) ∧ Below w.heap.size w w' := by
  have hB := below_box (w := w) #[.slice A m.old.length c, .int .i64 m.nw, .slice A2 m.ss.length c2, .slice A3 m.js.length c3] 26
  have hT := Blk.new w 26 #[.slice A m.old.length c, .int .i64 m.nw, .slice A2 m.ss.length c2, .slice A3 m.js.length c3]
  have HB := hid hB
  have HT := hid hT
  have HA := hid (h.at_ hB)
  obtain ⟨t0, t1, t2, t3⟩ := hT.c4
  clear hB hT h
  have KF := mfault_any m A c A2 c2 A3 c3 _ HA.out
  by_cases hc : chkM m = 0
  · rw [hc] at KF
    have KF := hid KF
    have OK := hid (chk_okm hc)
    have HC := hid hc
    clear hc
    go_enter Try.func34, Try.ntmps34
    go_wp2_with fail
    refine KF.out.mono ?_
    rintro e w2 ⟨rfl, hb⟩
    have HB2 := hid (HB.out.trans (hb.mono HB.out.size))
    have HT2 := hid (HT.out.keep hb)
    have KN := qconsist_any m A c A2 c2 A3 c3 w2 (HA.out.at_ hb) OK.out
    clear hb KF t0 t1 t2 t3
    obtain ⟨t0, t1, t2, t3⟩ := HT2.out.c4
    cases hm : conM m
    · have HE := hid (show cstM m = 9 by rw [cst_of, if_pos HC.out, hm]; rfl)
      rw [hm] at KN
      have KN := hid KN
      clear hm
      go_wp2_with fail
      refine KN.out.mono ?_
      rintro e w3 ⟨rfl, hb⟩
      have HB3 := hid (HB2.out.trans (hb.mono HB2.out.size))
      clear hb KN t0 t1 t2 t3
      go_wp2
      go_ret
      exact ⟨by rw [HE.out]; rfl, HB3.out⟩
    · have HE := hid (show cstM m = 0 by rw [cst_of, if_pos HC.out, hm]; rfl)
      rw [hm] at KN
      have KN := hid KN
      clear hm
      go_wp2_with fail
      refine KN.out.mono ?_
      rintro e w3 ⟨rfl, hb⟩
      have HB3 := hid (HB2.out.trans (hb.mono HB2.out.size))
      clear hb KN t0 t1 t2 t3
      go_wp2
      go_ret
      exact ⟨by rw [HE.out]; rfl, HB3.out⟩
  · have hne : (chkM m != 0) = true := by simpa using hc
    have HE := hid (show cstM m = chkM m by rw [cst_of, if_neg hc])
    clear hc
    have KF := hid KF
    generalize chkM m = z at *
    go_enter Try.func34, Try.ntmps34
    go_wp2_with fail
    refine KF.out.mono ?_
    rintro e w2 ⟨rfl, hb⟩
    have HB2 := hid (HB.out.trans (hb.mono HB.out.size))
    clear hb KF t0 t1 t2 t3
    go_wp2
    go_ret
    exact ⟨by rw [HE.out]; rfl, HB2.out⟩
def readyM (m : MapD) : Bool := thinM m && decide (cstM m = 0)
set_option maxRecDepth 100000 in
set_option maxHeartbeats 1000000 in
theorem mready_any (m : MapD) (A : Option Addr) (c : Nat) (A2 : Option Addr) (c2 : Nat) (A3 : Option Addr) (c3 : Nat) (w : World) (h : MIn m A c A2 c2 A3 c3 w) :
    Calls Try.prog 26 #[.agg #[.slice A m.old.length c, .int .i64 m.nw, .slice A2 m.ss.length c2, .slice A3 m.js.length c3]] w fun e w' => e = .returned (.bool (readyM m)) ∧ Below w.heap.size w w' := by
  have hB := below_box (w := w) #[.slice A m.old.length c, .int .i64 m.nw, .slice A2 m.ss.length c2, .slice A3 m.js.length c3] 26
  have hT := Blk.new w 26 #[.slice A m.old.length c, .int .i64 m.nw, .slice A2 m.ss.length c2, .slice A3 m.js.length c3]
  have HB := hid hB
  have HT := hid hT
  have HA := hid (h.at_ hB)
  obtain ⟨t0, t1, t2, t3⟩ := hT.c4
  clear hB hT h
  have KT := thin_any m A c A2 c2 A3 c3 (w.alloc (.cells #[.slice A m.old.length c, .int .i64 m.nw, .slice A2 m.ss.length c2, .slice A3 m.js.length c3] 26))
  cases ht : thinM m
  · have HE := hid (show readyM m = false by unfold readyM; rw [ht]; rfl)
    rw [ht] at KT
    have KT := hid KT
    clear ht
    go_enter Try.func26, Try.ntmps26
    go_wp2_with fail
    refine KT.out.mono ?_
    rintro e w2 ⟨rfl, hb⟩
    have HB2 := hid (HB.out.trans (hb.mono HB.out.size))
    clear hb KT t0 t1 t2 t3
    go_wp2
    go_ret
    exact ⟨by rw [HE.out]; rfl, HB2.out⟩
  · rw [ht] at KT
    have KT := hid KT
    have HE := hid (show readyM m = decide (cstM m = 0) by unfold readyM; rw [ht]; rfl)
    clear ht
    go_enter Try.func26, Try.ntmps26
    go_wp2_with fail
    refine KT.out.mono ?_
    rintro e w2 ⟨rfl, hb⟩
    have HB2 := hid (HB.out.trans (hb.mono HB.out.size))
    have HT2 := hid (HT.out.keep hb)
    have KN := hid (mconsist_any m A c A2 c2 A3 c3 w2 (HA.out.at_ hb))
    clear hb KT t0 t1 t2 t3
    obtain ⟨t0, t1, t2, t3⟩ := HT2.out.c4
    go_wp2_with fail
    refine KN.out.mono ?_
    rintro e w3 ⟨rfl, hb⟩
    have HB3 := hid (HB2.out.trans (hb.mono HB2.out.size))
    clear hb KN t0 t1 t2 t3
    by_cases hz : cstM m = 0
    · have hzB : (cstM m == 0) = true := by simp [hz]
      have HZ := hid hz
      clear hz
      generalize cstM m = z at *
      go_wp2
      go_ret
      exact ⟨by rw [HE.out, HZ.out]; rfl, HB3.out⟩
    · have hzB : (cstM m == 0) = false := by simp [hz]
      have HZ := hid (show decide (cstM m = 0) = false from decide_eq_false hz)
      clear hz
      generalize cstM m = z at *
      go_wp2
      go_ret
      exact ⟨by rw [HE.out, HZ.out]; rfl, HB3.out⟩
theorem ready_iff {m : MapD} : readyM m = true ↔ ThinP m ∧ cstM m = 0 := by
  unfold readyM
  rw [Bool.and_eq_true, thinM_iff, decide_eq_true_eq]
theorem cst_ok {m : MapD} (h : cstM m = 0) : chkM m = 0 ∧ conM m = true := by
  rw [cst_of] at h
  by_cases hc : chkM m = 0
  · rw [if_pos hc] at h
    by_cases hm : conM m = true
    · exact ⟨hc, hm⟩
    · rw [if_neg hm] at h; cases h
  · rw [if_neg hc] at h; exact absurd h hc
end Go.Proofs.Ytoeabajigfdkaaa
/- Rows of streets and of joins that a call makes. Conditions stand at each theorem. -/
namespace Go.Proofs.Ytoeabajigfdkaaa
open Go.RowKit Go.Shelf

def sttL (s : Stt) : List Value := [.int .i64 s.o, .int .i64 s.n, .int .i64 s.wt, .int .i64 s.lo, .int .i64 s.hi]
def sttsL (ss : List Stt) : List Value := ss.flatMap sttL
def jnL (j : Jn) : List Value := [.int .i64 j.a, .int .i64 j.b]
def jnsL (js : List Jn) : List Value := js.flatMap jnL
theorem sttsL_snoc (ss : List Stt) (s : Stt) : sttsL (ss ++ [s]) = sttsL ss ++ sttL s := by simp [sttsL]
theorem jnsL_snoc (js : List Jn) (j : Jn) : jnsL (js ++ [j]) = jnsL js ++ jnL j := by simp [jnsL]
theorem sttsL_len : ∀ ss : List Stt, (sttsL ss).length = ss.length * 5
  | [] => rfl
  | s :: l => by
    have : sttsL (s :: l) = sttL s ++ sttsL l := rfl
    rw [this, List.length_append, sttsL_len l]
    simp [sttL]; omega
theorem jnsL_len : ∀ js : List Jn, (jnsL js).length = js.length * 2
  | [] => rfl
  | s :: l => by
    have : jnsL (s :: l) = jnL s ++ jnsL l := rfl
    rw [this, List.length_append, jnsL_len l]
    simp [jnL]; omega
theorem sttsL_at : ∀ {ss : List Stt} {k : Nat} {s : Stt}, ss[k]? = some s → (sttsL ss)[k * 5]? = some (.int .i64 s.o) ∧ (sttsL ss)[k * 5 + 1]? = some (.int .i64 s.n) ∧ (sttsL ss)[k * 5 + 2]? = some (.int .i64 s.wt) ∧ (sttsL ss)[k * 5 + 3]? = some (.int .i64 s.lo) ∧ (sttsL ss)[k * 5 + 4]? = some (.int .i64 s.hi)
  | [], k, s, h => by simp at h
  | q :: l, 0, s, h => by
    simp at h; subst h
    exact ⟨rfl, rfl, rfl, rfl, rfl⟩
  | q :: l, k + 1, s, h => by
    have : sttsL (q :: l) = .int .i64 q.o :: .int .i64 q.n :: .int .i64 q.wt :: .int .i64 q.lo :: .int .i64 q.hi :: sttsL l := rfl
    have ih := sttsL_at (ss := l) (k := k) (s := s) (by simpa using h)
    rw [this, show (k + 1) * 5 = k * 5 + 1 + 1 + 1 + 1 + 1 by omega]
    exact ih
theorem jnsL_at : ∀ {js : List Jn} {k : Nat} {j : Jn}, js[k]? = some j → (jnsL js)[k * 2]? = some (.int .i64 j.a) ∧ (jnsL js)[k * 2 + 1]? = some (.int .i64 j.b)
  | [], k, s, h => by simp at h
  | q :: l, 0, s, h => by
    simp at h; subst h
    exact ⟨rfl, rfl⟩
  | q :: l, k + 1, s, h => by
    have : jnsL (q :: l) = .int .i64 q.a :: .int .i64 q.b :: jnsL l := rfl
    have ih := jnsL_at (js := l) (k := k) (j := s) (by simpa using h)
    rw [this, show (k + 1) * 2 = k * 2 + 1 + 1 by omega]
    exact ih
theorem sttL_one (s : Stt) : ∀ u ∈ sttL s, u.oneCell' = true := fun u hu => by
  simp only [sttL, List.mem_cons, List.not_mem_nil, or_false] at hu
  rcases hu with rfl | rfl | rfl | rfl | rfl <;> rfl
theorem sttsL_one (ss : List Stt) : ∀ u ∈ sttsL ss, u.oneCell' = true := fun u hu => by
  obtain ⟨s, _, h⟩ := List.mem_flatMap.1 hu
  exact sttL_one s u h
theorem jnL_one (j : Jn) : ∀ u ∈ jnL j, u.oneCell' = true := fun u hu => by
  simp only [jnL, List.mem_cons, List.not_mem_nil, or_false] at hu
  rcases hu with rfl | rfl <;> rfl
theorem jnsL_one (js : List Jn) : ∀ u ∈ jnsL js, u.oneCell' = true := fun u hu => by
  obtain ⟨s, _, h⟩ := List.mem_flatMap.1 hu
  exact jnL_one s u h
theorem own_stts {W : World} {base n e : Nat} {v : Value} {ss : List Stt} (h : W.ownsRow base e 5 v n (sttsL ss)) (hn : n = ss.length) : ∃ A c, v = .slice A ss.length c ∧ IsStts W W.heap.size A ss ∧ ss.length ≤ c ∧ c ≤ maxLen ∧ (∀ a, A = some a → base ≤ a.block) ∧ (A = none → c = 0) := by
  subst hn
  rcases h.2 with ⟨e, h0⟩ | ⟨z, cap, cur, e, hb, _, hl, hm, _⟩
  · have : ss = [] := List.eq_nil_of_length_eq_zero h0
    subst this
    exact ⟨none, 0, e, fun k p hk => by simp at hk, Nat.le_refl _, Nat.zero_le _, (fun a e => by cases e), fun _ => rfl⟩
  · refine ⟨some ⟨z, 0, none⟩, cap, e, fun k p hk => ?_, hl, hm, (fun a e => by cases e; exact hb), fun e => by cases e⟩
    obtain ⟨q1, q2, q3, q4, q5⟩ := sttsL_at hk
    have c1 := h.cells (g := z) (by rw [e]; rfl) _ _ q1
    have c2 := h.cells (g := z) (by rw [e]; rfl) _ _ q2
    have c3 := h.cells (g := z) (by rw [e]; rfl) _ _ q3
    have c4 := h.cells (g := z) (by rw [e]; rfl) _ _ q4
    have c5 := h.cells (g := z) (by rw [e]; rfl) _ _ q5
    rw [add_blk] at c1 c2 c3 c4 c5
    have hz := World.block_lt_of_cell? W _ c1
    refine ⟨⟨z, 0, none⟩, rfl, hz, ?_⟩
    rw [add_blk]
    exact ⟨c1, c2, c3, c4, c5⟩
theorem own_jns {W : World} {base n e : Nat} {v : Value} {js : List Jn} (h : W.ownsRow base e 2 v n (jnsL js)) (hn : n = js.length) : ∃ A c, v = .slice A js.length c ∧ IsJns W W.heap.size A js ∧ js.length ≤ c ∧ c ≤ maxLen ∧ (∀ a, A = some a → base ≤ a.block) ∧ (A = none → c = 0) := by
  subst hn
  rcases h.2 with ⟨e, h0⟩ | ⟨z, cap, cur, e, hb, _, hl, hm, _⟩
  · have : js = [] := List.eq_nil_of_length_eq_zero h0
    subst this
    exact ⟨none, 0, e, fun k p hk => by simp at hk, Nat.le_refl _, Nat.zero_le _, (fun a e => by cases e), fun _ => rfl⟩
  · refine ⟨some ⟨z, 0, none⟩, cap, e, fun k p hk => ?_, hl, hm, (fun a e => by cases e; exact hb), fun e => by cases e⟩
    obtain ⟨q1, q2⟩ := jnsL_at hk
    have c1 := h.cells (g := z) (by rw [e]; rfl) _ _ q1
    have c2 := h.cells (g := z) (by rw [e]; rfl) _ _ q2
    rw [add_blk] at c1 c2
    have hz := World.block_lt_of_cell? W _ c1
    refine ⟨⟨z, 0, none⟩, rfl, hz, ?_⟩
    rw [add_blk]
    exact ⟨c1, c2⟩
/-- two rows of different elements lie apart -/
theorem rows_ne {W : World} {base base' e e' size size' n n' : Nat} {v v' : Value} {xs xs' : List Value} (h : W.ownsRow base e size v n xs) (h' : W.ownsRow base' e' size' v' n' xs') (hne : e ≠ e') : v.ownBlock = none ∨ v.ownBlock ≠ v'.ownBlock := by
  rcases h'.2 with ⟨ev, _⟩ | ⟨z, cap, cur, ev, _, hb, _⟩
  · subst ev
    cases hv : v.ownBlock with
    | none => exact .inl rfl
    | some g => exact .inr (by intro e; cases e)
  · subst ev
    exact own_ne h fun cs hcs => by
      rw [hb] at hcs
      cases hcs
      exact hne rfl
/-- numbers in a block of numbers -/
def IntsB (A : Option Addr) (xs : List Int) (W : World) : Prop := IsInts W W.heap.size A xs ∧ ∀ a, A = some a → ∃ cs, Blk W a.block 3 cs
theorem IntsB.to {A : Option Addr} {xs : List Int} {W W' : World} (h : IntsB A xs W) (hs : W.heap.size ≤ W'.heap.size) (hb : ∀ (g : Nat) (cs : Array Value), Blk W g 3 cs → Blk W' g 3 cs) : IntsB A xs W' := by
  refine ⟨fun k x hk => ?_, fun a e => ?_⟩
  · obtain ⟨a, e, hl, hc⟩ := h.1 k x hk
    obtain ⟨cs, h1⟩ := h.2 a e
    refine ⟨a, e, by omega, ?_⟩
    have h2 := hb _ _ h1
    unfold World.cell? at hc ⊢
    rw [block_of_add] at hc ⊢
    rw [show W'.heap[a.block]? = _ from h2]
    rw [show W.heap[a.block]? = _ from h1] at hc
    exact hc
  · obtain ⟨cs, h1⟩ := h.2 a e
    exact ⟨cs, hb _ _ h1⟩
theorem bstt_info : (Try.prog.info? 89).map (fun i => (i.zero, i.size, i.bytes)) = some (some (.agg #[.int .i64 0, .int .i64 0, .int .i64 0, .int .i64 0, .int .i64 0]), 5, 40) := by kernel_rfl
theorem bjn_info : (Try.prog.info? 90).map (fun i => (i.zero, i.size, i.bytes)) = some (some (.agg #[.int .i64 0, .int .i64 0]), 2, 16) := by kernel_rfl
theorem stt_blk {W : World} {g t : Nat} {s : Stt} (h : Blk W g t (sttL s).toArray) : ∀ (j : Nat) (x : Value), (sttL s)[j]? = some x → W.cell? ((⟨g, 0, none⟩ : Addr).add j) = some x := by
  intro q x hq
  rw [add_blk, h.cell]
  simpa using hq
theorem jn_blk {W : World} {g t : Nat} {j : Jn} (h : Blk W g t (jnL j).toArray) : ∀ (k : Nat) (x : Value), (jnL j)[k]? = some x → W.cell? ((⟨g, 0, none⟩ : Addr).add k) = some x := by
  intro q x hq
  rw [add_blk, h.cell]
  simpa using hq
theorem take_snoc_at {α : Type} {l : List α} {k : Nat} {x : α} (h : l[k]? = some x) : l.take (k + 1) = l.take k ++ [x] := by
  obtain ⟨hk, rfl⟩ := List.getElem?_eq_some_iff.1 h
  exact List.take_succ_eq_append_getElem hk
/-- the program's map under construction -/
structure MapI (m : MapD) (A : Option Addr) (c : Nat) (A2 : Option Addr) (c2 : Nat) (A3 : Option Addr) (c3 : Nat) (P : Option Addr) (p Bo : Nat) (v2 v3 : Value) (k2 k3 : Nat) (w W : World) : Prop where
  bt : Blk W w.heap.size 26 #[.slice A m.old.length c, .int .i64 m.nw, .slice A2 m.ss.length c2, .slice A3 m.js.length c3]
  b2 : Blk W (w.heap.size + 1) 34 #[.slice none 0 0, .int .i64 0, .slice none 0 0, .slice none 0 0]
  bo : Blk W Bo 34 #[.slice P m.old.length p, .int .i64 m.nw, v2, v3]
  io : IntsB P m.old W
  s2 : W.ownsRow w.heap.size 89 5 v2 k2 (sttsL (m.ss.take k2))
  s3 : W.ownsRow w.heap.size 90 2 v3 k3 (jnsL (m.js.take k3))
  bl : Below w.heap.size w W
  ne : w.heap.size + 1 < Bo
section
variable {m : MapD} {A : Option Addr} {c : Nat} {A2 : Option Addr} {c2 : Nat} {A3 : Option Addr} {c3 : Nat} {P : Option Addr} {p Bo : Nat} {v2 v3 v' : Value} {k2 k3 : Nat} {w W W' : World}
theorem MapI.at_ (h : MapI m A c A2 c2 A3 c3 P p Bo v2 v3 k2 k3 w W) (hb : Below W.heap.size W W') : MapI m A c A2 c2 A3 c3 P p Bo v2 v3 k2 k3 w W' :=
  ⟨h.bt.keep hb, h.b2.keep hb, h.bo.keep hb, h.io.to hb.size fun _ _ q => q.keep hb, row_kept (vo := .slice none 0 0) h.s2 (grown_of_below hb _) (.inl rfl), row_kept (vo := .slice none 0 0) h.s3 (grown_of_below hb _) (.inl rfl), h.bl.trans (hb.mono h.bl.size), h.ne⟩
theorem MapI.add2 {s : Stt} (h : MapI m A c A2 c2 A3 c3 P p Bo v2 v3 k2 k3 w W) (hs : m.ss[k2]? = some s) (hg : W.grownBy W' v2.ownBlock) (ho : W'.ownsRow w.heap.size 89 5 v' (k2 + 1) (sttsL (m.ss.take k2) ++ sttL s)) :
    MapI m A c A2 c2 A3 c3 P p Bo v' v3 (k2 + 1) k3 w (W'.setCell ⟨Bo, 2, none⟩ v') := by
  have hbo := blk_grown h.s2 hg h.bo (by decide)
  have hne := h.ne
  have hsz : (W'.setCell ⟨Bo, 2, none⟩ v').heap.size = W'.heap.size := by simp [World.setCell]
  refine ⟨(blk_grown h.s2 hg h.bt (by decide)).far (p := ⟨Bo, 2, none⟩) (show w.heap.size ≠ Bo by omega) _, (blk_grown h.s2 hg h.b2 (by decide)).far (p := ⟨Bo, 2, none⟩) (show w.heap.size + 1 ≠ Bo by omega) _, hbo.set_ 2 v', ?_, ?_, ?_, ?_, h.ne⟩
  · refine h.io.to (by rw [hsz]; exact hg.size) fun g cs q => ?_
    have q' := blk_grown h.s2 hg q (by decide)
    exact q'.far (p := ⟨Bo, 2, none⟩) (Blk.ne_ q' hbo (by decide)) _
  · rw [take_snoc_at hs, sttsL_snoc]
    exact row_set ho hbo (by decide) _
  · exact row_set (row_kept h.s3 hg (rows_ne h.s2 h.s3 (by decide))) hbo (by decide) _
  · exact (below_row' h.bl h.s2 (Nat.le_refl _) hg h.bl.size).setCell (p := ⟨Bo, 2, none⟩) (show w.heap.size ≤ Bo by omega) _
theorem MapI.add3 {j : Jn} (h : MapI m A c A2 c2 A3 c3 P p Bo v2 v3 k2 k3 w W) (hs : m.js[k3]? = some j) (hg : W.grownBy W' v3.ownBlock) (ho : W'.ownsRow w.heap.size 90 2 v' (k3 + 1) (jnsL (m.js.take k3) ++ jnL j)) :
    MapI m A c A2 c2 A3 c3 P p Bo v2 v' k2 (k3 + 1) w (W'.setCell ⟨Bo, 3, none⟩ v') := by
  have hbo := blk_grown h.s3 hg h.bo (by decide)
  have hne := h.ne
  have hsz : (W'.setCell ⟨Bo, 3, none⟩ v').heap.size = W'.heap.size := by simp [World.setCell]
  refine ⟨(blk_grown h.s3 hg h.bt (by decide)).far (p := ⟨Bo, 3, none⟩) (show w.heap.size ≠ Bo by omega) _, (blk_grown h.s3 hg h.b2 (by decide)).far (p := ⟨Bo, 3, none⟩) (show w.heap.size + 1 ≠ Bo by omega) _, hbo.set_ 3 v', ?_, ?_, ?_, ?_, h.ne⟩
  · refine h.io.to (by rw [hsz]; exact hg.size) fun g cs q => ?_
    have q' := blk_grown h.s3 hg q (by decide)
    exact q'.far (p := ⟨Bo, 3, none⟩) (Blk.ne_ q' hbo (by decide)) _
  · exact row_set (row_kept h.s2 hg (rows_ne h.s3 h.s2 (by decide))) hbo (by decide) _
  · rw [take_snoc_at hs, jnsL_snoc]
    exact row_set ho hbo (by decide) _
  · exact (below_row' h.bl h.s3 (Nat.le_refl _) hg h.bl.size).setCell (p := ⟨Bo, 3, none⟩) (show w.heap.size ≤ Bo by omega) _
end
end Go.Proofs.Ytoeabajigfdkaaa
/- The search for the best borders: what move computes. Conditions stand at each theorem. -/
namespace Go.Proofs.Ytoeabajigfdkaaa
open Go.RowKit Go.Shelf

theorem Chg.off {Z : Nat → Prop} {A B D : World} (h : Chg Z A B) {g o : Nat} (hg : A.heap.size ≤ g) (v : Value) (e : D = B.setCell ⟨g, o, none⟩ v) : Chg Z A D := by
  subst e
  exact h.rows (Y := fun q => q = g) ((Chg.refl (Z := fun q => q = g) (A := B)).set rfl v) (fun q e => by omega)
theorem WAt.chg {m : MapD} {A : Option Addr} {c : Nat} {A2 : Option Addr} {c2 : Nat} {A3 : Option Addr} {c3 : Nat} {g b Bf t : Nat} {us : Array Value} {W W' : World} (h : WAt m A c A2 c2 A3 c3 g b W) (hf : Blk W Bf t us) (ht : t ≠ 111) (hc : Chg (fun q => q = Bf) W W') : WAt m A c A2 c2 A3 c3 g b W' :=
  ⟨hc.blk h.blk (fun e => by subst e; exact Blk.ne_ h.blk hf (fun e => ht e.symm) rfl), h.mp.chg hc (fun e => h.mp.ne hf e.symm)⟩
def set8 (W : World) (g : Nat) (f : Nat → Int) : World := (((((((W.setCell ⟨g, 0, none⟩ (.int .i64 (f 0))).setCell ⟨g, 1, none⟩ (.int .i64 (f 1))).setCell ⟨g, 2, none⟩ (.int .i64 (f 2))).setCell ⟨g, 3, none⟩ (.int .i64 (f 3))).setCell ⟨g, 4, none⟩ (.int .i64 (f 4))).setCell ⟨g, 5, none⟩ (.int .i64 (f 5))).setCell ⟨g, 6, none⟩ (.int .i64 (f 6))).setCell ⟨g, 7, none⟩ (.int .i64 (f 7))
theorem set8_chg (W : World) (g : Nat) (f : Nat → Int) : Chg (fun q => q = g) W (set8 W g f) :=
  (((((((Chg.refl (Z := fun q => q = g) (A := W)).set rfl _).set rfl _).set rfl _).set rfl _).set rfl _).set rfl _).set rfl _ |>.set rfl _
theorem set8_blk {W : World} {g t : Nat} {f0 : Nat → Int} (h : Blk W g t (liC f0)) (f : Nat → Int) : Blk (set8 W g f) g t (liC f) := by
  have q := (((((((h.set_ 0 (.int .i64 (f 0))).set_ 1 (.int .i64 (f 1))).set_ 2 (.int .i64 (f 2))).set_ 3 (.int .i64 (f 3))).set_ 4 (.int .i64 (f 4))).set_ 5 (.int .i64 (f 5))).set_ 6 (.int .i64 (f 6))).set_ 7 (.int .i64 (f 7))
  simp only [liC, List.setIfInBounds_toArray, List.set_cons_zero, List.set_cons_succ] at q
  exact q
/-- what the search finds in memory -/
structure BMem (w0 : World) (m : MapD) (A : Option Addr) (c : Nat) (A2 : Option Addr) (c2 : Nat) (A3 : Option Addr) (c3 : Nat) (g b Bw Bf Bl Bv : Nat) (lo hi : Int) (W : World) : Prop where
  bl : Below w0.heap.size w0 W
  bf0 : w0.heap.size ≤ Bf
  mi : MIn m A c A2 c2 A3 c3 w0
  wa : WAt m A c A2 c2 A3 c3 g b W
  kw : Blk W Bw 105 #[.pointer (some ⟨g, 0, none⟩)]
  kl : Blk W Bl 49 #[.int .i64 lo, .int .i64 hi]
  kv : Blk W Bv 108 #[.func (.func 71) #[] #[.pointer (some ⟨Bw, 0, none⟩), .pointer (some ⟨Bf, 0, none⟩), .pointer (some ⟨Bl, 0, none⟩), .pointer (some ⟨Bv, 0, none⟩)]]
  kf : ∃ l, Blk W Bf 103 (liC l)
section
variable {w0 : World} {m : MapD} {A : Option Addr} {c : Nat} {A2 : Option Addr} {c2 : Nat} {A3 : Option Addr} {c3 : Nat} {g b Bw Bf Bl Bv : Nat} {lo hi : Int} {W W' : World}
theorem BMem.chg (h : BMem w0 m A c A2 c2 A3 c3 g b Bw Bf Bl Bv lo hi W) (hc : Chg (fun q => q = Bf) W W') (hf : ∃ l, Blk W' Bf 103 (liC l)) : BMem w0 m A c A2 c2 A3 c3 g b Bw Bf Bl Bv lo hi W' := by
  obtain ⟨l0, hl0⟩ := h.kf
  have hs := h.bf0
  exact ⟨h.bl.trans (hc.below (n := w0.heap.size) (fun q e => by omega) h.bl.size), h.bf0, h.mi, h.wa.chg hl0 (by decide) hc, hc.blk h.kw (Blk.ne_ h.kw hl0 (by decide)), hc.blk h.kl (Blk.ne_ h.kl hl0 (by decide)), hc.blk h.kv (Blk.ne_ h.kv hl0 (by decide)), hf⟩
theorem BMem.keep (h : BMem w0 m A c A2 c2 A3 c3 g b Bw Bf Bl Bv lo hi W) (hb : Below W.heap.size W W') : BMem w0 m A c A2 c2 A3 c3 g b Bw Bf Bl Bv lo hi W' := h.chg (Chg.of_below hb) (by obtain ⟨l, hl⟩ := h.kf; exact ⟨l, hl.keep hb⟩)
theorem BMem.min (h : BMem w0 m A c A2 c2 A3 c3 g b Bw Bf Bl Bv lo hi W) : MIn m A c A2 c2 A3 c3 W := h.mi.at_ h.bl
end
/-- what the search hands back -/
def GivesMv (Bf : Nat) (r : Option (Nat → Int)) (W : World) (e : Ending) (W' : World) : Prop := e = .returned (.bool r.isSome) ∧ Chg (fun q => q = Bf) W W' ∧ ∃ l', Blk W' Bf 103 (liC l') ∧ ∀ l'', r = some l'' → l' = l''

set_option maxRecDepth 100000 in
set_option maxHeartbeats 1000000 in
theorem move_zero (w0 : World) (m : MapD) (A : Option Addr) (c : Nat) (A2 : Option Addr) (c2 : Nat) (A3 : Option Addr) (c3 : Nat) (g b Bw Bf Bl Bv : Nat) (lo hi : Int) (l : Nat → Int) (many : Int) (W : World) (h : BMem w0 m A c A2 c2 A3 c3 g b Bw Bf Bl Bv lo hi W) (ok : OkM m) (h0 : 0 ≤ many) (h9 : many ≤ 9) :
    Calls Try.prog 71 #[.agg (liC l), .int .i64 (m.ss.length : Int), .int .i64 many, .pointer (some ⟨Bw, 0, none⟩), .pointer (some ⟨Bf, 0, none⟩), .pointer (some ⟨Bl, 0, none⟩), .pointer (some ⟨Bv, 0, none⟩)] W (GivesMv Bf (mv m lo hi 0 l m.ss.length many) W) := by
  have hs8 := ok.s8
  have hb0 := below_box (w := W) (liC l) 103
  have hk0 := Blk.new W 103 (liC l)
  have hm0 := h.keep hb0
  have k0 := hm0.kw.c1
  obtain ⟨t0, t1, t2, t3, t4⟩ := hm0.wa.blk.c5
  obtain ⟨lf, hlf⟩ := h.kf
  have HS := hid (And.intro hb0 (And.intro hk0 (And.intro hm0 (And.intro h hlf))))
  have OK := hid ok
  clear h ok hb0 hk0 hm0 hlf
  by_cases hmn : 0 < many
  · have hmv : mv m lo hi 0 l m.ss.length many = none := by rw [mv_zero, if_pos hmn]
    rw [hmv]
    clear hmv
    go_enter Try.func71, Try.ntmps71

    go_wp2
    go_ret
    exact ⟨rfl, Chg.of_below HS.out.1, lf, HS.out.2.2.2.2.keep HS.out.1, fun _ e => by cases e⟩
  · obtain rfl : many = 0 := by omega
    have hmv : mv m lo hi 0 l m.ss.length 0 = if rightB m l lo hi then some l else none := by rw [mv_zero, if_neg hmn]
    clear hmn h0 h9
    cases hrb : rightB m l lo hi
    all_goals
      rw [hrb] at hmv
      simp only [Bool.false_eq_true, if_false, if_true] at hmv
      rw [hmv]
      have HRB := hid hrb
      clear hmv hrb
      have hk := HS.out.2.1
      obtain ⟨s0, s1, s2, s3, s4, s5, s6, s7⟩ := Blk.c8 (show Blk (W.alloc (.cells (liC l) 103)) W.heap.size 103 #[_, _, _, _, _, _, _, _] from hk)
      have hf := HS.out.2.2.2.2.keep HS.out.1
      obtain ⟨d0, d1, d2, d3, d4, d5, d6, d7⟩ := Blk.c8 (show Blk (W.alloc (.cells (liC l) 103)) Bf 103 #[_, _, _, _, _, _, _, _] from hf)
      have fl := hf.lt
      have f0 := hf.frozen 0
      have f1 := hf.frozen 1
      have f2 := hf.frozen 2
      have f3 := hf.frozen 3
      have f4 := hf.frozen 4
      have f5 := hf.frozen 5
      have f6 := hf.frozen 6
      have f7 := hf.frozen 7
      have hne : Bf ≠ W.heap.size := by have := HS.out.2.2.2.2.lt; omega
      have HF := hid (And.intro hf hne)
      have HK := hid hk
      have H0 := hid (show Chg (fun q => q = Bf) W (W.alloc (.cells (liC l) 103)) from Chg.of_below HS.out.1)
      clear hk hf hne
      have HL := hid (show ∀ W', Chg (fun q => q = Bf) (W.alloc (.cells (liC l) 103)) W' → Blk W' Bf 103 (liC l) → _ from fun W' hc hb' => HS.out.2.2.1.chg hc ⟨l, hb'⟩)
      clear HS
      go_enter Try.func71, Try.ntmps71
      go_upto_region 5 with (fail)
      refine gen (p := Code.wp _ _ _ _) (fun W' => Chg (fun q => q = Bf) (W.alloc (.cells (liC l) 103)) W' ∧ Blk W' Bf 103 (liC l) ∧ Blk W' W.heap.size 103 (liC l)) ⟨set8_chg _ _ _, set8_blk HF.out.1 _, (set8_chg _ _ _).blk HK.out (fun e => HF.out.2 e.symm)⟩ ?_
      rintro w5 ⟨hc5, hb5, hk5⟩
      have hm5 := HL.out w5 hc5 hb5
      have HM := hid (And.intro hm5 (And.intro hc5 hb5))
      clear k0 t0 t1 t2 t3 t4 s0 s1 s2 s3 s4 s5 s6 s7 d0 d1 d2 d3 d4 d5 d6 d7 f0 f1 f2 f3 f4 f5 f6 f7 fl
      have k0 := hm5.kw.c1
      obtain ⟨r0, r1⟩ := hm5.kl.c2
      obtain ⟨s0, s1, s2, s3, s4, s5, s6, s7⟩ := Blk.c8 (show Blk w5 W.heap.size 103 #[_, _, _, _, _, _, _, _] from hk5)
      have KR := right_any m A c A2 c2 A3 c3 g b l lo hi w5 hm5.wa hm5.min OK.out
      rw [HRB.out] at KR
      have KR := hid KR
      clear hm5 hc5 hb5 hk5
      go_wp2_with fail
      refine KR.out.mono ?_
      rintro e w6 ⟨rfl, hb⟩
      have HB := hid hb
      clear hb k0 r0 r1 s0 s1 s2 s3 s4 s5 s6 s7
      have HC0 := hid (show Chg (fun q => q = Bf) W w6 from (H0.out.trans HM.out.2.1).trans (Chg.of_below HB.out))
      have HBF := hid (HM.out.2.2.keep HB.out)
      clear HM HB KR
      go_wp2
      go_ret
      exact ⟨rfl, HC0.out, l, HBF.out, fun l'' e => by first | (injection e) | (simp at e; exact e)⟩

/-- what the search gives for the d-th district -/
def mvF (m : MapD) (lo hi : Int) (f : Nat) (l : Nat → Int) (s : Nat) (many : Int) (d : Nat) : Option (Nat → Int) := if 0 ≤ many - mc m s (d : Int) then mv m lo hi f (setL l s (d : Int)) (s + 1) (many - mc m s (d : Int)) else none
theorem mv_find {m : MapD} {lo hi : Int} {f s : Nat} {l : Nat → Int} {many : Int} (h : ¬ ((f : Int) + 1) < many) : mv m lo hi (f + 1) l s many = (List.range m.nw.toNat).findSome? (mvF m lo hi f l s many) := by
  rw [mv_succ, if_neg h]; rfl
theorem setL_same {l l1 : Nat → Int} {s : Nat} {d : Int} (h : ∀ i, i ≠ s → l1 i = l i) : setL l1 s d = setL l s d := by
  funext i
  unfold setL
  split
  · rfl
  · exact h i (by assumption)
theorem setL_off {l : Nat → Int} {s : Nat} {d : Int} : ∀ i, i ≠ s → setL l s d i = l i := fun _ hi => if_neg hi
/-- what holds when k districts are tried -/
def MvI (w0 : World) (m : MapD) (A : Option Addr) (c : Nat) (A2 : Option Addr) (c2 : Nat) (A3 : Option Addr) (c3 : Nat) (g b Bw Bf Bl Bv : Nat) (lo hi : Int) (W : World) (f s : Nat) (l : Nat → Int) (many : Int) (k : Nat) (W' : World) : Prop :=
  (List.range k).findSome? (mvF m lo hi f l s many) = none ∧ BMem w0 m A c A2 c2 A3 c3 g b Bw Bf Bl Bv lo hi W' ∧ Chg (fun q => q = Bf) W W' ∧ ∃ l1, Blk W' W.heap.size 103 (liC l1) ∧ ∀ i, i ≠ s → l1 i = l i

set_option maxRecDepth 100000 in
set_option maxHeartbeats 4000000 in
theorem move_step (w0 : World) (m : MapD) (A : Option Addr) (c : Nat) (A2 : Option Addr) (c2 : Nat) (A3 : Option Addr) (c3 : Nat) (g b Bw Bf Bl Bv : Nat) (lo hi : Int) (f s : Nat) (hs : s + (f + 1) = m.ss.length) (l : Nat → Int) (many : Int) (W : World) (h : BMem w0 m A c A2 c2 A3 c3 g b Bw Bf Bl Bv lo hi W) (ok : OkM m) (h0 : 0 ≤ many) (h9 : many ≤ 9)
    (IH : ∀ (l : Nat → Int) (many : Int) (W : World), 0 ≤ many → many ≤ 9 → BMem w0 m A c A2 c2 A3 c3 g b Bw Bf Bl Bv lo hi W → Calls Try.prog 71 #[.agg (liC l), .int .i64 ((s : Int) + 1), .int .i64 many, .pointer (some ⟨Bw, 0, none⟩), .pointer (some ⟨Bf, 0, none⟩), .pointer (some ⟨Bl, 0, none⟩), .pointer (some ⟨Bv, 0, none⟩)] W (GivesMv Bf (mv m lo hi f l (s + 1) many) W)) :
    Calls Try.prog 71 #[.agg (liC l), .int .i64 (s : Int), .int .i64 many, .pointer (some ⟨Bw, 0, none⟩), .pointer (some ⟨Bf, 0, none⟩), .pointer (some ⟨Bl, 0, none⟩), .pointer (some ⟨Bv, 0, none⟩)] W (GivesMv Bf (mv m lo hi (f + 1) l s many) W) := by
  have hs8 := ok.s8
  have hb0 := below_box (w := W) (liC l) 103
  have hk0 := Blk.new W 103 (liC l)
  have hm0 := h.keep hb0
  have k0 := hm0.kw.c1
  obtain ⟨t0, t1, t2, t3, t4⟩ := hm0.wa.blk.c5
  obtain ⟨lf, hlf⟩ := h.kf
  have hlfs := hlf.lt
  have hsI : (s : Int) < (m.ss.length : Int) := by omega
  have hs8I : (s : Int) < 8 := by omega
  have hs8N : s < 8 := by omega
  have HS := hid (And.intro hb0 (And.intro hk0 (And.intro hm0 (And.intro h hlf))))
  have OK := hid ok
  have HIH := hid IH
  clear h IH hb0 hk0 hm0 hlf
  by_cases hmn : (f : Int) + 1 < many
  · have hmv : mv m lo hi (f + 1) l s many = none := by rw [mv_succ, if_pos hmn]
    have hB1 : decide ((m.ss.length : Int) - (s : Int) < many) = true := by simp; omega
    rw [hmv]
    clear hmv hmn hs ok
    go_enter Try.func71, Try.ntmps71
    go_wp2
    go_ret
    exact ⟨rfl, Chg.of_below HS.out.1, lf, HS.out.2.2.2.2.keep HS.out.1, fun _ e => by cases e⟩
  · have HMV := hid (mv_find (m := m) (lo := lo) (hi := hi) (l := l) (s := s) hmn)
    have hB1 : decide ((m.ss.length : Int) - (s : Int) < many) = false := by simp; omega
    have hB2 : ((s : Int) == (m.ss.length : Int)) = false := by simp; omega
    obtain ⟨s9, hs9⟩ : ∃ s9, m.ss[s]? = some s9 := ⟨_, List.getElem?_eq_getElem (by omega)⟩
    obtain ⟨aq, eas, g1, f0, f1, f2, f3, f4⟩ := HS.out.2.2.1.min.is s s9 hs9
    subst eas
    have ho := ok.stt s9 (List.mem_of_getElem? hs9)
    obtain ⟨o, hoe⟩ : ∃ o, s9.n = o := ⟨_, rfl⟩
    rw [hoe] at f1
    have HO := hid (show (m.S s).n = o by rw [MapD.S_eq hs9, hoe])
    have ho1 : 0 ≤ o := by rw [← hoe]; exact ho.2.2.1
    have hn1 := ok.n1
    have hn4 := ok.n4
    have hml2 := HS.out.2.2.2.1.mi.m2
    have hl2 := HS.out.2.2.2.1.mi.l2
    unfold maxLen at hml2
    obtain ⟨N, hN⟩ : ∃ N, m.nw.toNat = N := ⟨_, rfl⟩
    have hNI : m.nw = (N : Int) := by omega
    rw [hN] at HMV
    rw [hNI] at t1
    have hN4 : N ≤ 4 := by omega
    have HNN := hid hNI
    have HST := hid (show MvI w0 m (A) c (some aq) c2 A3 c3 g b Bw Bf Bl Bv lo hi W f s l many 0 (W.alloc (.cells (liC l) 103)) from ⟨by simp, HS.out.2.2.1, Chg.of_below HS.out.1, l, HS.out.2.1, fun _ _ => rfl⟩)
    clear hs9 ho hoe hN hNI hmn hs ok g1 f0 f2 f3 f4 hn1 hn4
    go_enter Try.func71, Try.ntmps71
    go_wp2_with fail
    clear f1 k0 t0 t1 t2 t3 t4
    go_loopw [51] (fun i W' => ∃ k : Nat, k ≤ N ∧ i = .int .i64 k ∧ MvI w0 m A c (some aq) c2 A3 c3 g b Bw Bf Bl Bv lo hi W f s l many k W') (fun i _ => N - (intOf i).toNat)
    case atStart => exact ⟨0, Nat.zero_le _, rfl, HST.out⟩
    case round =>
      clear HST
      obtain ⟨k, hk, rfl, hfs, hm, hc, l1, hl1, hoff⟩ := hrel
      have HR := hid (And.intro hfs (And.intro hm (And.intro hc (And.intro hl1 hoff))))
      obtain ⟨d0, d1, d2, d3, d4, d5, d6, d7⟩ := Blk.c8 (show Blk wr W.heap.size 103 #[_, _, _, _, _, _, _, _] from hl1)
      have dc := hl1.cell s
      rw [liC_get l1 hs8N] at dc
      have df := hl1.frozen s
      have dl := hl1.lt
      by_cases hlt : k < N
      · have hkI : (k : Int) < (N : Int) := by omega
        have hset : (liC l1).setIfInBounds s (.int .i64 (k : Int)) = liC (setL l s (k : Int)) := by
          rw [← setL_same hoff]
          exact liC_set hs8N (by simp [setL]) (fun i _ hi => setL_off i hi)
        have h5 := hl1.set_ s (.int .i64 (k : Int))
        rw [hset] at h5
        have hc5 : Chg (fun q => q = Bf) W (wr.setCell ⟨W.heap.size, s, none⟩ (.int .i64 (k : Int))) := hc.off (Nat.le_refl _) _ rfl
        have hm5 : BMem w0 m A c (some aq) c2 A3 c3 g b Bw Bf Bl Bv lo hi (wr.setCell ⟨W.heap.size, s, none⟩ (.int .i64 (k : Int))) := by
          have hne : ∀ {q t : Nat} {us : Array Value}, Blk wr q t us → t ≠ 103 → q ≠ W.heap.size := fun hq ht => Blk.ne_ hq hl1 ht
          have hcx : Chg (fun q => q = W.heap.size) wr (wr.setCell ⟨W.heap.size, s, none⟩ (.int .i64 (k : Int))) := (Chg.refl (Z := fun q => q = W.heap.size) (A := wr)).set rfl _
          obtain ⟨lq, hlq⟩ := hm.kf
          exact ⟨hm.bl.trans (hcx.below (n := w0.heap.size) (fun q e => by have := HS.out.2.2.2.1.bl.size; omega) hm.bl.size), hm.bf0, hm.mi, hm.wa.chg hl1 (by decide) hcx, hcx.blk hm.kw (hne hm.kw (by decide)), hcx.blk hm.kl (hne hm.kl (by decide)), hcx.blk hm.kv (hne hm.kv (by decide)), lq, hcx.blk hlq (fun e => by have := HS.out.2.2.2.2.lt; omega)⟩
        have H5 := hid (And.intro h5 (And.intro hc5 hm5))
        have HFS := hid (fun (x : Option (Nat → Int)) (hx : mvF m lo hi f l s many k = x) => show (List.range (k + 1)).findSome? (mvF m lo hi f l s many) = x by rw [findSome_succ, hfs, hx]; rfl)
        have HFM := hid (fun (x : Nat → Int) (hx : mvF m lo hi f l s many k = some x) => show (List.range N).findSome? (mvF m lo hi f l s many) = some x from findSome_more _ (by omega : k + 1 ≤ N) (by rw [findSome_succ, hfs, hx]; rfl))
        clear hset h5 hc5 hm5 hfs hm hc hoff hl1
        by_cases heq : (k : Int) = o
        · have hoB : ((k : Int) != o) = false := by simp [heq]
          have hoC : ((k : Int) == o) = true := by simp [heq]
          have hmc : mc m s (k : Int) = 0 := by unfold mc; rw [HO.out, if_pos heq]
          have HFK := hid (show mvF m lo hi f l s many k = mv m lo hi f (setL l s (k : Int)) (s + 1) many by unfold mvF; rw [hmc, Int.sub_zero, if_pos h0])
          clear heq hmc
          go_upto_region 14 with (fail)
          refine gen (p := Code.wp _ _ _ _) (fun W' => Blk W' W.heap.size 103 (liC (setL l s (k : Int))) ∧ Chg (fun q => q = Bf) W W' ∧ BMem w0 m A c (some aq) c2 A3 c3 g b Bw Bf Bl Bv lo hi W') ⟨H5.out.1, H5.out.2.1, H5.out.2.2⟩ ?_
          rintro w5 ⟨hx1, hx2, hx3⟩
          clear H5 d0 d1 d2 d3 d4 d5 d6 d7 dc df dl HR
          obtain ⟨d0, d1, d2, d3, d4, d5, d6, d7⟩ := Blk.c8 (show Blk w5 W.heap.size 103 #[_, _, _, _, _, _, _, _] from hx1)
          have kv0 := hx3.kv.c1
          have KI := hid (HIH.out (setL l s (k : Int)) (many) w5 (by omega) (by omega) hx3)
          have H5 := hid (And.intro hx1 (And.intro hx2 hx3))
          clear hx1 hx2 hx3
          generalize hR : mv m lo hi f (setL l s (k : Int)) (s + 1) (many) = R at *
          clear hR
          cases R with
          | none =>
            have HNN2 := hid (HFS.out none HFK.out)
            go_wp2_with fail
            refine KI.out.mono ?_
            rintro e w6 ⟨rfl, hc6, l6, hl6, _⟩
            have hl7 := hc6.blk H5.out.1 (fun e => by omega)
            have HNX := hid (show MvI w0 m A c (some aq) c2 A3 c3 g b Bw Bf Bl Bv lo hi W f s l many (k + 1) w6 from ⟨HNN2.out, H5.out.2.2.chg hc6 ⟨l6, hl6⟩, H5.out.2.1.trans hc6, _, hl7, setL_off⟩)
            clear hc6 hl6 hl7 d0 d1 d2 d3 d4 d5 d6 d7 kv0 KI
            go_wp2
            go_roundw
            case rel => exact ⟨k + 1, by omega, by go_num, HNX.out⟩
            case measure => first | (simp [intOf]; done) | (simp [intOf]; omega)
          | some x =>
            have HSX := hid (show mv m lo hi (f + 1) l s many = some x by rw [HMV.out]; exact HFM.out x HFK.out)
            go_wp2_with fail
            refine KI.out.mono ?_
            rintro e w6 ⟨rfl, hc6, l6, hl6, hx6⟩
            have HF := hid (And.intro (H5.out.2.1.trans hc6) (And.intro hl6 (hx6 x rfl)))
            clear hc6 hl6 hx6 d0 d1 d2 d3 d4 d5 d6 d7 kv0 KI
            go_wp2
            rw [HSX.out]
            go_ret
            exact ⟨rfl, HF.out.1, l6, HF.out.2.1, fun l'' e => by cases e; exact HF.out.2.2⟩
        · have hoB : ((k : Int) != o) = true := by simp [heq]
          have hoC : ((k : Int) == o) = false := by simp [heq]
          have hmc : mc m s (k : Int) = 1 := by unfold mc; rw [HO.out, if_neg heq]
          by_cases hm1 : 1 ≤ many
          · have HFK := hid (show mvF m lo hi f l s many k = mv m lo hi f (setL l s (k : Int)) (s + 1) (many - 1) by unfold mvF; rw [hmc, if_pos (by omega)])
            have hm2 : 0 ≤ many - 1 := by omega
            clear heq hmc
            go_upto_region 14 with (fail)
            refine gen (p := Code.wp _ _ _ _) (fun W' => Blk W' W.heap.size 103 (liC (setL l s (k : Int))) ∧ Chg (fun q => q = Bf) W W' ∧ BMem w0 m A c (some aq) c2 A3 c3 g b Bw Bf Bl Bv lo hi W') ⟨H5.out.1, H5.out.2.1, H5.out.2.2⟩ ?_
            rintro w5 ⟨hx1, hx2, hx3⟩
            clear H5 d0 d1 d2 d3 d4 d5 d6 d7 dc df dl HR
            obtain ⟨d0, d1, d2, d3, d4, d5, d6, d7⟩ := Blk.c8 (show Blk w5 W.heap.size 103 #[_, _, _, _, _, _, _, _] from hx1)
            have kv0 := hx3.kv.c1
            have KI := hid (HIH.out (setL l s (k : Int)) (many - 1) w5 (by omega) (by omega) hx3)
            have H5 := hid (And.intro hx1 (And.intro hx2 hx3))
            clear hx1 hx2 hx3
            generalize hR : mv m lo hi f (setL l s (k : Int)) (s + 1) (many - 1) = R at *
            clear hR
            cases R with
            | none =>
              have HNN2 := hid (HFS.out none HFK.out)
              go_wp2_with fail
              refine KI.out.mono ?_
              rintro e w6 ⟨rfl, hc6, l6, hl6, _⟩
              have hl7 := hc6.blk H5.out.1 (fun e => by omega)
              have HNX := hid (show MvI w0 m A c (some aq) c2 A3 c3 g b Bw Bf Bl Bv lo hi W f s l many (k + 1) w6 from ⟨HNN2.out, H5.out.2.2.chg hc6 ⟨l6, hl6⟩, H5.out.2.1.trans hc6, _, hl7, setL_off⟩)
              clear hc6 hl6 hl7 d0 d1 d2 d3 d4 d5 d6 d7 kv0 KI
              go_wp2
              go_roundw
              case rel => exact ⟨k + 1, by omega, by go_num, HNX.out⟩
              case measure => first | (simp [intOf]; done) | (simp [intOf]; omega)
            | some x =>
              have HSX := hid (show mv m lo hi (f + 1) l s many = some x by rw [HMV.out]; exact HFM.out x HFK.out)
              go_wp2_with fail
              refine KI.out.mono ?_
              rintro e w6 ⟨rfl, hc6, l6, hl6, hx6⟩
              have HF := hid (And.intro (H5.out.2.1.trans hc6) (And.intro hl6 (hx6 x rfl)))
              clear hc6 hl6 hx6 d0 d1 d2 d3 d4 d5 d6 d7 kv0 KI
              go_wp2
              rw [HSX.out]
              go_ret
              exact ⟨rfl, HF.out.1, l6, HF.out.2.1, fun l'' e => by cases e; exact HF.out.2.2⟩
          · have HNN2 := hid (HFS.out none (by unfold mvF; rw [hmc, if_neg (by omega)]))
            obtain rfl : many = 0 := by omega
            clear heq hmc
            go_wp2
            have HNX := hid (show MvI w0 m A c (some aq) c2 A3 c3 g b Bw Bf Bl Bv lo hi W f s l 0 (k + 1) (wr.setCell ⟨W.heap.size, s, none⟩ (.int .i64 (k : Int))) from ⟨HNN2.out, H5.out.2.2, H5.out.2.1, _, H5.out.1, setL_off⟩)
            go_roundw
            case rel => exact ⟨k + 1, by omega, by go_num, HNX.out⟩
            case measure => first | (simp [intOf]; done) | (simp [intOf]; omega)
      · have hkI : decide ((k : Int) < (N : Int)) = false := by simp; omega
        obtain rfl : k = N := by omega
        obtain ⟨lq, hlq⟩ := hm.kf
        have HF := hid (And.intro hc hlq)
        have hmv : mv m lo hi (f + 1) l s many = none := by rw [HMV.out]; exact hfs
        have HMX := hid hmv
        clear hfs hm hc hoff hl1 hlq d0 d1 d2 d3 d4 d5 d6 d7 dc df dl hmv
        go_wp2
        rw [HMX.out]
        go_ret
        exact ⟨rfl, HF.out.1, lq, HF.out.2, fun _ e => by cases e⟩

theorem move_any (w0 : World) (m : MapD) (A : Option Addr) (c : Nat) (A2 : Option Addr) (c2 : Nat) (A3 : Option Addr) (c3 : Nat) (g b Bw Bf Bl Bv : Nat) (lo hi : Int) (ok : OkM m) : ∀ (f s : Nat), s + f = m.ss.length → ∀ (l : Nat → Int) (many : Int) (W : World), 0 ≤ many → many ≤ 9 → BMem w0 m A c A2 c2 A3 c3 g b Bw Bf Bl Bv lo hi W →
    Calls Try.prog 71 #[.agg (liC l), .int .i64 (s : Int), .int .i64 many, .pointer (some ⟨Bw, 0, none⟩), .pointer (some ⟨Bf, 0, none⟩), .pointer (some ⟨Bl, 0, none⟩), .pointer (some ⟨Bv, 0, none⟩)] W (GivesMv Bf (mv m lo hi f l s many) W)
  | 0, s, hs, l, many, W, h0, h9, h => by
    obtain rfl : s = m.ss.length := by omega
    exact move_zero w0 m A c A2 c2 A3 c3 g b Bw Bf Bl Bv lo hi l many W h ok h0 h9
  | f + 1, s, hs, l, many, W, h0, h9, h => move_step w0 m A c A2 c2 A3 c3 g b Bw Bf Bl Bv lo hi f s hs l many W h ok h0 h9 fun l' many' W' h0' h9' h' => by
    have := move_any w0 m A c A2 c2 A3 c3 g b Bw Bf Bl Bv lo hi ok f (s + 1) (by omega) l' many' W' h0' h9' h'
    rwa [show (((s + 1 : Nat) : Nat) : Int) = (s : Int) + 1 by omega] at this
end Go.Proofs.Ytoeabajigfdkaaa
