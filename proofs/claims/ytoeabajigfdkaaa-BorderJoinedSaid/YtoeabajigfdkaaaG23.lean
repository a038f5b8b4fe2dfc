/- The walks and the plain laws of this part of the program, part 23: what each computes. Conditions stand at each theorem. -/
import Derived.SizedLaws
import Derived.Test.YtoeabajigfdkaaaG9
import Derived.Test.YtoeabajigfdkaaaG13
import Derived.Test.YtoeabajigfdkaaaG18
/- A copy of a map's joins, with one more; a map as an argument, with the reach of its joins. Conditions stand at each theorem. -/
namespace Go.Proofs.Ytoeabajigfdkaaa
open Go.RowKit Go.Shelf

def jnC (j : Jn) : List Value := [.int .i64 j.a, .int .i64 j.b]
def jnsC (js : List Jn) : List Value := js.flatMap jnC
theorem jnsC_snoc (js : List Jn) (j : Jn) : jnsC (js ++ [j]) = jnsC js ++ jnC j := by simp [jnsC]
theorem jnsC_at : ∀ {js : List Jn} {c : Nat} {j : Jn}, js[c]? = some j → (jnsC js)[c * 2]? = some (.int .i64 j.a) ∧ (jnsC js)[c * 2 + 1]? = some (.int .i64 j.b)
  | [], c, j, h => by simp at h
  | x :: js, 0, j, h => by
    simp at h
    subst h
    exact ⟨rfl, rfl⟩
  | x :: js, c + 1, j, h => by
    have ih := jnsC_at (js := js) (c := c) (j := j) (by simpa using h)
    have e : jnsC (x :: js) = .int .i64 x.a :: .int .i64 x.b :: jnsC js := rfl
    rw [e, show (c + 1) * 2 = c * 2 + 1 + 1 by omega, List.getElem?_cons_succ, List.getElem?_cons_succ, List.getElem?_cons_succ, List.getElem?_cons_succ]
    exact ih
theorem jnsC_len (js : List Jn) : (jnsC js).length = js.length * 2 := by
  induction js with
  | nil => rfl
  | cons x l ih =>
    have e : jnsC (x :: l) = .int .i64 x.a :: .int .i64 x.b :: jnsC l := rfl
    rw [e, List.length_cons, List.length_cons, ih, List.length_cons]
    omega
theorem jns_cells {W : World} {n : Nat} {a : Addr} {js : List Jn} (h : IsJns W n (some a) js) : ∀ (j : Nat) (u : Value), (jnsC js)[j]? = some u → W.cell? (a.add j) = some u := by
  intro j u hj
  obtain ⟨k, r, hk, hr⟩ : ∃ k r, j = k * 2 + r ∧ r < 2 := ⟨j / 2, j % 2, by omega, by omega⟩
  subst hk
  have hlt : k < js.length := by
    have := (List.getElem?_eq_some_iff.1 hj).1
    rw [jnsC_len] at this
    omega
  have hf := List.getElem?_eq_getElem hlt
  obtain ⟨a', e, _, c0, c1⟩ := h k _ hf
  injection e with e
  subst e
  obtain ⟨d0, d1⟩ := jnsC_at hf
  have hr2 : r = 0 ∨ r = 1 := by omega
  rcases hr2 with rfl | rfl
  · rw [Nat.add_zero, d0] at hj
    injection hj with hj
    subst hj
    exact c0
  · rw [d1] at hj
    injection hj with hj
    subst hj
    rw [add_next a (k * 2) 1 (by decide)]; exact c1
theorem jnC_one (j : Jn) : ∀ u ∈ jnC j, u.oneCell' = true := fun u hu => by
  simp only [jnC, List.mem_cons, List.not_mem_nil, or_false] at hu
  rcases hu with rfl | rfl <;> rfl
theorem jns_one (js : List Jn) : ∀ u ∈ jnsC js, u.oneCell' = true := fun u hu => by
  obtain ⟨f, _, hf⟩ := List.mem_flatMap.1 hu
  exact jnC_one f u hf
theorem qjn_info : (Try.prog.info? 63).map (fun i => (i.zero, i.size, i.bytes)) = some (some (.agg #[.int .i64 0, .int .i64 0]), 2, 16) := by kernel_rfl
/-- the joins behind an empty list of the call's own: only new memory -/
theorem copy_joins {W : World} {base g0 : Nat} {A3 : Option Addr} {c3 : Nat} {js : List Jn} (hx : IsJns W W.heap.size A3 js) (hg : Blk W g0 63 #[]) (h0 : base ≤ g0) (hs : js.length * 16 ≤ 140737488351232) :
    ∃ v' w', (Builtin.append_ #[24, 24] 24 #[.slice (some ⟨g0, 0, none⟩) 0 0, .slice A3 js.length c3]).run Try.prog W = .ok v' w' ∧ w'.ownsRow base 63 2 v' js.length (jnsC js) ∧ Below W.heap.size W w' := by
  obtain ⟨i0, hi0, hz0, hz1, hz2⟩ := info_parts qjn_info
  have hown : W.ownsRow base 63 2 (.slice (some ⟨g0, 0, none⟩) 0 0) 0 [] := ⟨rfl, .inr ⟨g0, 0, #[], rfl, h0, hg, Nat.le_refl _, Nat.zero_le _, rfl, rfl⟩⟩
  cases A3 with
  | none =>
    have hfs : js = [] := by
      cases js with
      | nil => rfl
      | cons f l => obtain ⟨a, e, _⟩ := hx 0 f rfl; cases e
    subst hfs
    exact ⟨_, _, run_append_nothing (P := Try.prog) W 24 24 24 63 i0 Try.underlying24 hi0 (some ⟨g0, 0, none⟩) 0 0 (Nat.le_refl _) _ (Src.ofNil W Try.underlying24 c3), hown, Below.refl _ _⟩
  | some a =>
    have hcells := jns_cells hx
    have hlen : (jnsC js).length = js.length * i0.size := by rw [hz1]; exact jnsC_len js
    by_cases hn : js.length = 0
    · have hfs : js = [] := List.eq_nil_of_length_eq_zero hn
      subst hfs
      exact ⟨_, _, run_append_nothing (P := Try.prog) W 24 24 24 63 i0 Try.underlying24 hi0 (some ⟨g0, 0, none⟩) 0 0 (Nat.le_refl _) _ (Src.ofSlice W Try.underlying24 a 0 c3 [] (by simp) (fun j u h => by simp at h) (fun u h => by simp at h)), hown, Below.refl _ _⟩
    · obtain ⟨v', w', hrun, hown', _, _, _⟩ := run_append_own_at (P := Try.prog) W base 24 24 63 i0 (.agg #[.int .i64 0, .int .i64 0]) 2 16 Try.underlying24 hi0 hz0 hz1 hz2 rfl (by decide) _ 0 [] hown a js.length c3 (jnsC js) (jnsC_len js) hcells (jns_one js) (by simp only [maxLen]; omega) (by omega) (by have := hg.lt; omega)
      have hr2 := run_append_grow (P := Try.prog) W 24 24 63 i0 (.agg #[.int .i64 0, .int .i64 0]) Try.underlying24 hi0 hz0 ⟨g0, 0, none⟩ 0 0 [] (by simp) (fun j v h => by simp at h) a js.length c3 (jnsC js) hlen hcells (by omega) (by omega) (by
        rw [hz2, nextslicecap_zero (by omega)]
        omega)
      rw [hrun] at hr2
      injection hr2 with e1 e2
      rw [Nat.zero_add, List.nil_append] at hown'
      refine ⟨v', w', hrun, hown', ?_⟩
      rw [e2]
      exact ((Below.refl _ _).drew).alloc (Nat.le_refl _) _
/-- a row of joins that is there reads as joins -/
theorem row_jns {W : World} {base n : Nat} {v : Value} {js : List Jn} (h : W.ownsRow base 63 2 v n (jnsC js)) (hn : n = js.length) (h1 : 1 ≤ n) : ∃ g cap, v = .slice (some ⟨g, 0, none⟩) js.length cap ∧ IsJns W W.heap.size (some ⟨g, 0, none⟩) js ∧ js.length ≤ cap ∧ cap ≤ maxLen ∧ base ≤ g ∧ g < W.heap.size := by
  subst hn
  rcases h.2 with ⟨e, h0⟩ | ⟨z, cap, cur, e, hb, hg, hl, hm, _⟩
  · omega
  · refine ⟨z, cap, e, fun k p hk => ?_, hl, hm, hb, (show Blk W z 63 cur from hg).lt⟩
    obtain ⟨q1, q2⟩ := jnsC_at hk
    have c1 := h.cells (g := z) (by rw [e]; rfl) _ _ q1
    have c2 := h.cells (g := z) (by rw [e]; rfl) _ _ q2
    rw [add_blk] at c1 c2
    refine ⟨⟨z, 0, none⟩, rfl, ?_, ?_, ?_⟩
    · exact (show Blk W z 63 cur from hg).lt
    · rw [add_blk]; exact c1
    · rw [add_blk]; exact c2
theorem apL_mem {m : MapD} {v : Int} : v ∈ apL m ↔ ∃ d : Nat, d < m.nw.toNat ∧ conB m (ownL m) (d : Int) = false ∧ v = (d : Int) := by
  unfold apL apTo
  simp only [List.mem_map, List.mem_filter, List.mem_range, Bool.not_eq_true']
  exact ⟨fun ⟨d, ⟨h1, h2⟩, h3⟩ => ⟨d, h1, h2, h3.symm⟩, fun ⟨d, h1, h2, h3⟩ => ⟨d, ⟨h1, h2⟩, h3.symm⟩⟩
/-- with a further join no more districts are not connected -/
theorem join_apart {m : MapD} {j : Jn} {v : Int} (h : v ∈ apL (joinM m j)) : v ∈ apL m := by
  obtain ⟨d, h1, h2, h3⟩ := apL_mem.1 h
  refine apL_mem.2 ⟨d, h1, ?_, h3⟩
  cases hc : conB m (ownL m) (d : Int) with
  | false => rfl
  | true =>
    have h4 : conB (joinM m j) (ownL m) (d : Int) = true := conB_more (m := m) (x := joinM m j) rfl (fun _ _ => join_meet) hc
    have h5 : conB (joinM m j) (ownL (joinM m j)) (d : Int) = false := h2
    have e : ownL (joinM m j) = ownL m := rfl
    rw [e, h4] at h5
    cases h5
theorem take_has {l : List Int} {j : Nat} {x v : Int} (h : l[j]? = some x) : (l.take (j + 1)).contains v = ((l.take j).contains v || (x == v)) := by
  obtain ⟨hj, hx⟩ := List.getElem?_eq_some_iff.1 h
  rw [List.take_succ_eq_append_getElem hj, hx, Bool.eq_iff_iff]
  simp only [List.contains_iff_mem, List.mem_append, List.mem_singleton, Bool.or_eq_true, beq_iff_eq]
  exact ⟨fun h => h.imp id Eq.symm, fun h => h.imp id Eq.symm⟩
section
open Go.Deep Go.Joins Go.ChangeShapes Go.WideShapes
variable {H : Type} {enc : TypeId × Value → H} {W : World} {n : Nat} {v : Value} {y : DataW H × List MemPlace}
set_option maxRecDepth 100000 in
theorem trod_jns_w (h : DataW.trod enc Try.prog W 0 (fun _ => true) true n 24 [v] = some y) (hw : (y.1.weights Try.prog 24).all (· ≤ reachBytes) = true) :
    ∃ A c js, v = .slice A (js : List Jn).length c ∧ IsJns W W.heap.size A js ∧ js.length ≤ c ∧ c ≤ maxLen ∧ (A = none → c = 0) ∧ js.length * 16 ≤ 140737488351232 := by
  obtain ⟨A, c, js, e, r1, r2, r3, r4⟩ := trod_jns h
  refine ⟨A, c, js, e, r1, r2, r3, r4, ?_⟩
  rcases open_slice Try.underlying24 h with ⟨e', _⟩ | ⟨a, len, cap, m, n', D, Pl, e', _, hl, hm, hmm, hy, hr⟩
  · injection e' with e'
    rw [e] at e'
    injection e' with _ e' _
    omega
  · injection e' with e'
    rw [e] at e'
    injection e' with _ e' _
    rw [hy] at hw
    simp only [DataW.weights, Try.underlying24, List.all_cons, Bool.and_eq_true, decide_eq_true_eq, List.length_map, List.length_range] at hw
    have hb : Try.prog.bytesOf 63 = 16 := by kernel_rfl
    rw [hb] at hw
    have h1 := hw.1
    simp only [reachBytes] at h1
    rw [e']
    omega
set_option maxRecDepth 100000 in
theorem open_map_w {r : Go.Reach} {b0 : Nat} {d : DataW H} {ps : List MemPlace} (hval : Value.okWide Try.prog W r b0 26 v) (hd : DataW.Trod enc Try.prog W 0 (fun _ => true) true 26 v d ps) (hw : (d.weights Try.prog 26).all (· ≤ reachBytes) = true) :
    ∃ (m : MapD) (A : Option Addr) (c : Nat) (A2 : Option Addr) (c2 : Nat) (A3 : Option Addr) (c3 : Nat), v = .agg #[.slice A m.old.length c, .int .i64 m.nw, .slice A2 m.ss.length c2, .slice A3 m.js.length c3] ∧ MArg m A c A2 c2 A3 c3 W ∧ m.js.length * 16 ≤ 140737488351232 := by
  obtain ⟨v0, v1, v2, v3, y0, y1, y2, y3, m, rfl, rfl, _, h0, h1, h2, h3⟩ := open_agg4 Try.underlying26 (by kernel_rfl) (by kernel_rfl) hval hd
  obtain ⟨A, c, xs, rfl, r1, r2, r3, r4⟩ := trod_ints h0
  obtain ⟨b, e0, _, _⟩ := DataW.trod_int Try.underlying3 h1
  injection e0 with e0
  subst e0
  obtain ⟨A2, c2, ss, rfl, s1, s2, s3, s4⟩ := trod_stts h2
  have hw2 : (y3.1.weights Try.prog 24).all (· ≤ reachBytes) = true := by
    simp only [DataW.weights, Try.underlying26, List.map_cons, List.map_nil, DataW.weightsEach, List.all_append, Bool.and_eq_true] at hw
    exact hw.2.2.2.1
  obtain ⟨A3, c3, js, rfl, f1, f2, f3, f4, f5⟩ := trod_jns_w h3 hw2
  exact ⟨⟨xs, b, ss, js⟩, A, c, A2, c2, A3, c3, rfl, ⟨⟨r1, s1, f1, r2, r3, s2, s3, f2, f3⟩, r4, s4, f4⟩, f5⟩
set_option maxRecDepth 100000 in
theorem open_join {r : Go.Reach} {b0 : Nat} {d : DataW H} {ps : List MemPlace} (hval : Value.okWide Try.prog W r b0 63 v) (hd : DataW.Trod enc Try.prog W 0 (fun _ => true) true 63 v d ps) :
    ∃ a b : Int, v = .agg #[.int .i64 a, .int .i64 b] := by
  obtain ⟨v0, v1, y0, y1, m, rfl, _, _, h0, h1⟩ := open_agg2 Try.underlying63 (by kernel_rfl) (by kernel_rfl) hval hd
  obtain ⟨n0, e0, _, _⟩ := DataW.trod_int Try.underlying3 h0
  obtain ⟨n1, e1, _, _⟩ := DataW.trod_int Try.underlying3 h1
  injection e0 with e0
  injection e1 with e1
  subst e0 e1
  exact ⟨n0, n1, rfl⟩
end
end Go.Proofs.Ytoeabajigfdkaaa
