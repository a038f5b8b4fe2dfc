/- The walks and the plain laws of this part of the program, part 15: what each computes. Conditions stand at each theorem. -/
import Derived.Test.YtlnamjhgbdacbaaGreatK1
import Derived.Test.YtlnamjhgbdacbaaGreatK6
import Derived.Test.YtlnamjhgbdacbaaGreatK14
/- The carried counts in plain words: the parts of each old district add up to its count; sums by districts; what the counts depend on. Conditions stand at each theorem. -/
namespace Go.Proofs.YtlnamjhgbdacbaaGreat

theorem atTo_inc (m : MapD) (d : Nat) : ∀ k, (atTo m d k).Pairwise (· < ·)
  | 0 => List.Pairwise.nil
  | k + 1 => by
    rw [atTo]
    refine List.pairwise_append.2 ⟨atTo_inc m d k, ?_, fun a ha b hb => ?_⟩
    · split
      · exact List.pairwise_singleton _ _
      · exact List.Pairwise.nil
    · have h1 := (atTo_mem.1 ha).1
      split at hb
      · rw [List.mem_singleton] at hb; omega
      · simp at hb
theorem atTo_sum (m : MapD) (d : Nat) (f : Nat → Int) : ∀ k, sumN (fun i => if (m.S i).o = (d : Int) then f i else 0) k = ((atTo m d k).map f).sum
  | 0 => rfl
  | k + 1 => by
    rw [sumN_succ, atTo_sum m d f k, atTo, List.map_append, List.sum_append]
    split <;> simp
theorem set_getD_ne {xs : List Int} {i j : Nat} {v : Int} (h : i ≠ j) : (xs.set i v).getD j 0 = xs.getD j 0 := by
  rw [List.getD, List.getD, List.getElem?_set_ne h]
theorem set_getD_eq {xs : List Int} {i : Nat} {v : Int} (h : i < xs.length) : (xs.set i v).getD i 0 = v := by
  rw [List.getD, List.getElem?_set_self h]; rfl
theorem putTo_miss {out : List Int} {at_ : List Nat} {ps : List Int} {i : Nat} (hi : i ∉ at_) : ∀ j, j ≤ at_.length → (putTo out at_ ps j).getD i 0 = out.getD i 0
  | 0, _ => rfl
  | j + 1, hj => by
    rw [putTo, set_getD_ne, putTo_miss hi j (by omega)]
    intro e
    refine hi (e ▸ ?_)
    rw [List.getD, List.getElem?_eq_getElem (by omega)]
    exact List.getElem_mem _
theorem putTo_hit {out : List Int} {at_ : List Nat} {ps : List Int} (hp : at_.Pairwise (· < ·)) (ho : ∀ i ∈ at_, i < out.length) {t : Nat} : ∀ j, t < j → j ≤ at_.length → (putTo out at_ ps j).getD (at_.getD t 0) 0 = ps.getD t 0
  | 0, h, _ => by omega
  | j + 1, h, hj => by
    rw [putTo]
    by_cases e : t = j
    · subst e
      refine set_getD_eq ?_
      rw [putTo_len]
      refine ho _ ?_
      rw [List.getD, List.getElem?_eq_getElem (by omega)]
      exact List.getElem_mem _
    · rw [set_getD_ne, putTo_hit hp ho j (by omega) (by omega)]
      rw [List.getD, List.getD, List.getElem?_eq_getElem (by omega), List.getElem?_eq_getElem (show t < at_.length by omega)]
      have := List.pairwise_iff_getElem.1 hp t j (by omega) (by omega) (by omega)
      simp only [Option.getD_some]
      omega
theorem carTo_parts {m : MapD} {d : Nat} : ∀ D, d < D → (atTo m d m.ss.length).map (fun i => (carTo m D).getD i 0) = parts m d
  | 0, h => by omega
  | D + 1, h => by
    rw [carTo]
    by_cases e : d = D
    · subst e
      refine List.ext_getElem? fun t => ?_
      rw [List.getElem?_map]
      by_cases ht : t < (atTo m d m.ss.length).length
      · have h1 := putTo_hit (out := carTo m d) (ps := parts m d) (atTo_inc m d m.ss.length) (fun i hi => by rw [carTo_len]; exact (atTo_mem.1 hi).1) _ ht (Nat.le_refl _)
        rw [List.getElem?_eq_getElem ht, List.getElem?_eq_getElem (by rw [parts_len]; exact ht)]
        rw [List.getD_eq_getElem?_getD (l := atTo m d m.ss.length), List.getElem?_eq_getElem ht, List.getD_eq_getElem?_getD (l := parts m d), List.getElem?_eq_getElem (by rw [parts_len]; exact ht)] at h1
        exact congrArg some h1
      · rw [List.getElem?_eq_none (by omega), List.getElem?_eq_none (by rw [parts_len]; omega)]; rfl
    · refine Eq.trans ?_ (carTo_parts (d := d) D (by omega))
      refine List.map_congr_left fun i hi => ?_
      refine putTo_miss (fun h' => ?_) _ (Nat.le_refl _)
      have h1 := (atTo_mem.1 hi).2
      have h2 := (atTo_mem.1 h').2
      omega
theorem car_parts {m : MapD} {d : Nat} (hd : d < m.old.length) : (atTo m d m.ss.length).map (fun i => (car m).getD i 0) = parts m d := carTo_parts _ hd
theorem parts_sum {m : MapD} (ok : OkM m) {d : Nat} (hd : d < m.old.length) : (parts m d).sum = m.at_ d := by
  obtain ⟨dok, hne, _, _⟩ := div_ok (ok.divE hd)
  exact div_sum dok hne
/-- the carried counts of an old district add up to its count -/
theorem car_sum {m : MapD} (ok : OkM m) {d : Nat} (hd : d < m.old.length) : sumN (fun i => if (m.S i).o = (d : Int) then (car m).getD i 0 else 0) m.ss.length = m.at_ d := by
  rw [atTo_sum, car_parts hd, parts_sum ok hd]
/-- sums by districts are sums -/
theorem smTo_get {nw : Nat} {l : Nat → Int} {xs : List Int} {q : Nat} (hq : q < nw) : ∀ {k : Nat}, (∀ i, i < k → 0 ≤ l i) → (smTo nw l xs k).getD q 0 = sumN (fun i => if l i = (q : Int) then xs.getD i 0 else 0) k
  | 0, _ => by simp [smTo, sumN, List.getD, hq]
  | k + 1, hl => by
    have ih := smTo_get hq (l := l) (xs := xs) (k := k) fun i hi => hl i (by omega)
    have h0 := hl k (by omega)
    rw [smTo, sumN_succ]
    by_cases e : l k = (q : Int)
    · rw [if_pos e, ← ih, e, Int.toNat_natCast]
      exact set_getD_eq (by rw [smTo_len]; exact hq)
    · rw [if_neg e, set_getD_ne (by omega), ih, Int.add_zero]
theorem smD_get {m : MapD} {l : Nat → Int} {xs : List Int} {q : Nat} (hq : q < m.nw.toNat) (hl : ∀ i, i < xs.length → 0 ≤ l i) : (smD m l xs).getD q 0 = sumN (fun i => if l i = (q : Int) then xs.getD i 0 else 0) xs.length := smTo_get hq hl
/-- the counts depend on the old districts, their counts, and the parts by the weights -/
theorem atTo_congr {m x : MapD} {d : Nat} : ∀ {k : Nat}, (∀ i, i < k → (m.S i).o = (x.S i).o) → atTo m d k = atTo x d k
  | 0, _ => rfl
  | k + 1, h => by rw [atTo, atTo, atTo_congr (k := k) fun i hi => h i (by omega), h k (by omega)]
theorem wsTo_congr {m x : MapD} {d : Nat} : ∀ {k : Nat}, (∀ i, i < k → (m.S i).o = (x.S i).o ∧ (m.S i).wt = (x.S i).wt) → wsTo m d k = wsTo x d k
  | 0, _ => rfl
  | k + 1, h => by rw [wsTo, wsTo, wsTo_congr (k := k) fun i hi => h i (by omega), (h k (by omega)).1, (h k (by omega)).2]
theorem wsTo_times {m x : MapD} {d : Nat} {n : Int} : ∀ {k : Nat}, (∀ i, i < k → (m.S i).o = (x.S i).o ∧ (x.S i).wt = n * (m.S i).wt) → wsTo x d k = (wsTo m d k).map fun w => n * w
  | 0, _ => rfl
  | k + 1, h => by
    rw [wsTo, wsTo, wsTo_times (k := k) fun i hi => h i (by omega), ← (h k (by omega)).1, (h k (by omega)).2, List.map_append]
    split <;> rfl
theorem carTo_congr {m x : MapD} (hs : m.ss.length = x.ss.length) (ho : ∀ i, i < m.ss.length → (m.S i).o = (x.S i).o) (hp : ∀ d, parts m d = parts x d) : ∀ d, carTo m d = carTo x d
  | 0 => by rw [carTo, carTo, hs]
  | d + 1 => by rw [carTo, carTo, carTo_congr hs ho hp d, hp, ← hs, atTo_congr ho]
theorem car_congr {m x : MapD} (hd : m.old = x.old) (hs : m.ss.length = x.ss.length) (ho : ∀ i, i < m.ss.length → (m.S i).o = (x.S i).o ∧ (m.S i).wt = (x.S i).wt) : car m = car x := by
  unfold car
  rw [hd]
  refine carTo_congr hs (fun i hi => (ho i hi).1) (fun d => ?_) _
  unfold parts MapD.at_
  rw [hd, ← hs, wsTo_congr ho]
theorem car_times {m x : MapD} {n : Int} (hn : 1 ≤ n) (hd : m.old = x.old) (hs : m.ss.length = x.ss.length) (ho : ∀ i, i < m.ss.length → (m.S i).o = (x.S i).o ∧ (x.S i).wt = n * (m.S i).wt) : car m = car x := by
  unfold car
  rw [hd]
  refine carTo_congr hs (fun i hi => (ho i hi).1) (fun d => ?_) _
  unfold parts MapD.at_
  rw [hd, ← hs, wsTo_times ho, div_times hn]
end Go.Proofs.YtlnamjhgbdacbaaGreat
/- Words for carried counts and districts that are apart, with few imports. Conditions stand at each theorem. -/
namespace Go.Proofs.YtlnamjhgbdacbaaGreat
open Go.RowKit Go.Shelf

theorem zstts_of {w : World} {g : Nat} {ss : List Stt} {cs : Array Value} (h : Blk w g 70 cs) (hc : ∀ k s, ss[k]? = some s → cs[k * 5]? = some (.int .i64 s.o) ∧ cs[k * 5 + 1]? = some (.int .i64 s.n) ∧ cs[k * 5 + 2]? = some (.int .i64 s.wt) ∧ cs[k * 5 + 3]? = some (.int .i64 s.lo) ∧ cs[k * 5 + 4]? = some (.int .i64 s.hi)) : IsStts w w.heap.size (some ⟨g, 0, none⟩) ss := fun k s hk => by
  obtain ⟨h0, h1, h2, h3, h4⟩ := hc k s hk
  refine ⟨_, rfl, h.lt, ?_⟩
  rw [add_blk]
  exact ⟨by rw [h.cell]; exact h0, by rw [h.cell]; exact h1, by rw [h.cell]; exact h2, by rw [h.cell]; exact h3, by rw [h.cell]; exact h4⟩
theorem zints_of {w : World} {g : Nat} {xs : List Int} {cs : Array Value} (h : Blk w g 3 cs) (hc : ∀ (k : Nat) x, xs[k]? = some x → cs[k]? = some (.int .i64 x)) : IsInts w w.heap.size (some ⟨g, 0, none⟩) xs := fun k x hk => by
  refine ⟨_, rfl, h.lt, ?_⟩
  rw [add_blk, h.cell]
  exact hc k x hk
def zIntsAt (y : Option Addr × Nat) (xs : List Int) (W : World) : Prop := IsInts W W.heap.size y.1 xs ∧ xs.length ≤ y.2 ∧ y.2 ≤ maxLen
theorem zIntsAt.at_ {y : Option Addr × Nat} {xs : List Int} {W W' : World} (h : zIntsAt y xs W) (hb : Below W.heap.size W W') : zIntsAt y xs W' := ⟨h.1.at_ hb, h.2⟩
section
variable {m : MapD} {A : Option Addr} {c : Nat} {A2 : Option Addr} {c2 : Nat} {A3 : Option Addr} {c3 : Nat} {w : World}
def zGivesCar (m : MapD) (w : World) (e : Ending) (w' : World) : Prop := ∃ p q : Option Addr × Nat, e = .returned (.tuple #[.slice p.1 (car m).length p.2, .slice q.1 (smD m (ownL m) (car m)).length q.2, .int .i64 0]) ∧ zIntsAt p (car m) w' ∧ zIntsAt q (smD m (ownL m) (car m)) w' ∧ Below w.heap.size w w'
theorem zcarry_good (h : MIn m A c A2 c2 A3 c3 w) (hc : chkM m = 0) : Calls Tryz.prog 8 #[.agg #[.slice A m.old.length c, .int .i64 m.nw, .slice A2 m.ss.length c2, .slice A3 m.js.length c3]] w (zGivesCar m w) := by
  have := carry_any m A c A2 c2 A3 c3 w h
  simp only [if_neg (show ¬ chkM m ≠ 0 by simp [hc])] at this
  exact this.mono fun e w' ⟨p, q, h1, h2, h3, h4, h5, h6, h7, h8⟩ => ⟨p, q, h1, ⟨h2, h3, h4⟩, ⟨h5, h6, h7⟩, h8⟩
def zGivesI0 (xs : List Int) (w : World) (e : Ending) (w' : World) : Prop := ∃ y : Option Addr × Nat, e = .returned (.tuple #[.slice y.1 xs.length y.2, .int .i64 0]) ∧ zIntsAt y xs w' ∧ Below w.heap.size w w'
theorem zapart_good (h : MIn m A c A2 c2 A3 c3 w) (hc : chkM m = 0) : Calls Tryz.prog 17 #[.agg #[.slice A m.old.length c, .int .i64 m.nw, .slice A2 m.ss.length c2, .slice A3 m.js.length c3]] w (zGivesI0 (apL m) w) := by
  have := apart_any m A c A2 c2 A3 c3 w h
  simp only [if_neg (show ¬ chkM m ≠ 0 by simp [hc])] at this
  exact this.mono fun e w' ⟨A, c, h1, h2, h3, h4, h5⟩ => ⟨(A, c), h1, ⟨h2, h3, h4⟩, h5⟩
end
theorem zapL_mem {m : MapD} {v : Int} : v ∈ apL m ↔ ∃ d : Nat, d < m.nw.toNat ∧ conB m (ownL m) (d : Int) = false ∧ v = (d : Int) := by
  unfold apL apTo
  simp only [List.mem_map, List.mem_filter, List.mem_range, Bool.not_eq_true']
  exact ⟨fun ⟨d, ⟨h1, h2⟩, h3⟩ => ⟨d, h1, h2, h3.symm⟩, fun ⟨d, h1, h2, h3⟩ => ⟨d, ⟨h1, h2⟩, h3.symm⟩⟩
theorem zsmD_len {m : MapD} (l : Nat → Int) (xs : List Int) : (smD m l xs).length = m.nw.toNat := smTo_len _ _ _ _
def zsumX (m : MapD) (d : Nat) (xs : List Int) (k : Nat) : Int := sumN (fun i => if (m.S i).o = (d : Int) then xs.getD i 0 else 0) k
theorem zat_sum (m : MapD) : m.old.sum = sumN m.at_ m.old.length := sum_eq_sumN m.old
/-- numbers that add up to the count in each old district add up to all -/
theorem zall_sum {m : MapD} (ok : OkM m) {xs : List Int} (hl : xs.length = m.ss.length) (h : ∀ d, d < m.old.length → zsumX m d xs m.ss.length = m.at_ d) : xs.sum = m.old.sum := by
  rw [zat_sum, sum_eq_sumN, hl, ← sumN_class (fun i => xs.getD i 0) (fun i => (m.S i).o.toNat) m.ss.length m.old.length fun i hi => by have := ok.sAt hi; omega]
  refine sumN_congr fun d hd => ?_
  rw [← h d hd]
  refine sumN_congr fun i hi => ?_
  have := ok.sAt hi
  by_cases e : (m.S i).o = (d : Int)
  · rw [if_pos e, if_pos (by omega)]
  · rw [if_neg e, if_neg (by omega)]
theorem zcar_all {m : MapD} (ok : OkM m) : (car m).sum = m.old.sum := zall_sum ok (car_len m) fun _ hd => car_sum ok hd
/-- the sums by districts add up to the whole -/
theorem zsmD_all {m : MapD} {l : Nat → Int} {xs : List Int} (hl : ∀ i, i < xs.length → 0 ≤ l i ∧ l i < m.nw) : (smD m l xs).sum = xs.sum := by
  rw [sum_eq_sumN, sum_eq_sumN xs, zsmD_len, ← sumN_class (fun i => xs.getD i 0) (fun i => (l i).toNat) xs.length m.nw.toNat fun i hi => by have := hl i hi; omega]
  refine sumN_congr fun d hd => ?_
  rw [smD_get hd fun i hi => (hl i hi).1]
  refine sumN_congr fun i hi => ?_
  have := hl i hi
  by_cases e : l i = (d : Int)
  · rw [if_pos e, if_pos (by omega)]
  · rw [if_neg e, if_neg (by omega)]
end Go.Proofs.YtlnamjhgbdacbaaGreat
/- Plain: the walks of a plan are new districts of places. Conditions stand at each theorem. -/
namespace Go.Proofs.YtlnamjhgbdacbaaGreat
open Go.RowKit Go.Shelf

/-- a plan in plain words: of each walk the route and the places that are counted -/
structure OkP (m : WMD) (ps : List (List Nat × List Nat)) : Prop where
  ne : ps ≠ []
  len : ps.length ≤ 256
  walk : ∀ p : List Nat × List Nat, p ∈ ps → Pth m 0 0 p.1 ∧ (∀ k ∈ p.2, k ∈ p.1) ∧ p.2 ≠ [] ∧ (∀ k ∈ p.2, k < m.N)
  all : ∀ n, n < m.N → ∃ (k : Nat) (p : List Nat × List Nat), ps[k]? = some p ∧ n ∈ p.2
  uniq : ∀ (k j : Nat) (p q : List Nat × List Nat) (n : Nat), ps[k]? = some p → ps[j]? = some q → n ∈ p.2 → n ∈ q.2 → k = j
/-- the last of the first k walks that counts a place -/
def nwTo (ps : List (List Nat × List Nat)) (n : Nat) : Nat → Int
  | 0 => 0
  | k + 1 => if n ∈ (ps.getD k ([], [])).2 then (k : Int) else nwTo ps n k
theorem nwTo_bound (ps : List (List Nat × List Nat)) (n : Nat) : ∀ k, 0 ≤ nwTo ps n k ∧ nwTo ps n k < max 1 (k : Int)
  | 0 => ⟨Int.le_refl _, by show (0 : Int) < max 1 ((0 : Nat) : Int); omega⟩
  | k + 1 => by
    have := nwTo_bound ps n k
    unfold nwTo
    split <;> omega
theorem nwTo_hit {ps : List (List Nat × List Nat)} {n k : Nat} {p : List Nat × List Nat} (hk : ps[k]? = some p) (hn : n ∈ p.2) : nwTo ps n (k + 1) = (k : Int) := by
  unfold nwTo
  rw [List.getD, hk]
  exact if_pos hn
theorem nwTo_miss {ps : List (List Nat × List Nat)} {n k : Nat} {p : List Nat × List Nat} (hk : ps[k]? = some p) (hn : n ∉ p.2) : nwTo ps n (k + 1) = nwTo ps n k := by
  rw [nwTo, List.getD, hk]
  exact if_neg hn
theorem OkP.nw {m : WMD} {ps : List (List Nat × List Nat)} (h : OkP m ps) {k n : Nat} {p : List Nat × List Nat} (hk : ps[k]? = some p) (hn : n ∈ p.2) : ∀ j, k < j → j ≤ ps.length → nwTo ps n j = (k : Int)
  | 0, h1, _ => absurd h1 (Nat.not_lt_zero _)
  | j + 1, h1, h2 => by
    obtain ⟨q, hq⟩ : ∃ q, ps[j]? = some q := ⟨_, List.getElem?_eq_getElem (by omega)⟩
    by_cases e : n ∈ q.2
    · rw [nwTo_hit hq e, h.uniq k j p q n hk hq hn e]
    · rw [nwTo_miss hq e]
      refine h.nw hk hn j ?_ (by omega)
      by_cases e2 : k = j
      · subst e2
        rw [hk] at hq
        cases hq
        exact absurd hn e
      · omega
/-- the map of streets that is made from a map of places -/
def trvM (m : WMD) (cnt : Int) (ps : List (List Nat × List Nat)) : MapD :=
  ⟨[cnt], max 1 (ps.length : Int), (List.range m.N).map fun n => ⟨0, nwTo ps n ps.length, 1 + (m.work.getD n ⟨0, 0⟩).b, 0, 10000⟩, m.roads.map fun r => ⟨r.a, r.b⟩⟩
section
variable {m : WMD} {cnt : Int} {ps : List (List Nat × List Nat)}
theorem trv_len : (trvM m cnt ps).ss.length = m.N := by simp [trvM]
theorem trv_at {n : Nat} (hn : n < m.N) : (trvM m cnt ps).ss[n]? = some ⟨0, nwTo ps n ps.length, 1 + (m.work.getD n ⟨0, 0⟩).b, 0, 10000⟩ := by simp [trvM, hn]
theorem trv_own {n : Nat} (hn : n < m.N) : ownL (trvM m cnt ps) n = nwTo ps n ps.length := by
  unfold ownL
  rw [MapD.S_eq (trv_at hn)]
theorem trv_wk (ok : OkW m) (n : Nat) : 0 ≤ (m.work.getD n ⟨0, 0⟩).b ∧ (m.work.getD n ⟨0, 0⟩).b ≤ 50 := by
  rw [List.getD]
  cases h : m.work[n]? with
  | none => simp
  | some x => have := ok.wk x (List.mem_of_getElem? h); simp only [Option.getD_some]; omega
theorem trv_ok (ok : OkW m) (h1 : 0 ≤ cnt) (h2 : cnt ≤ 10000) (h4 : ps.length ≤ 4) : OkM (trvM m cnt ps) := by
  have hl : (trvM m cnt ps).ss.length = m.N := trv_len
  have hN1 : 1 ≤ m.N := ok.w1
  have hN8 : m.N ≤ 8 := ok.w8
  have hst : ∀ s ∈ (trvM m cnt ps).ss, ∃ n, n < m.N ∧ s = ⟨0, nwTo ps n ps.length, 1 + (m.work.getD n ⟨0, 0⟩).b, 0, 10000⟩ := fun s hs => by
    obtain ⟨n, hn, e⟩ := List.mem_map.1 hs
    exact ⟨n, List.mem_range.1 hn, e.symm⟩
  refine ⟨Nat.le_refl _, (by show 1 ≤ 4; omega), (by omega), (by omega), ?_, ?_, ?_, ?_, ?_, ?_, ?_⟩
  · show (m.roads.map _).length ≤ 20
    rw [List.length_map]; exact ok.r20
  · intro x hx
    have : x = cnt := by simpa [trvM] using hx
    omega
  · show 1 ≤ max 1 (ps.length : Int); omega
  · show max 1 (ps.length : Int) ≤ 4; omega
  · intro s hs
    obtain ⟨n, hn, rfl⟩ := hst s hs
    have b1 := nwTo_bound ps n ps.length
    have b2 := trv_wk ok n
    refine ⟨Int.le_refl _, (by show (0 : Int) < ((1 : Nat) : Int); omega), b1.1, b1.2, ?_, ?_, ?_, ?_, ?_⟩ <;> (simp only; omega)
  · intro d hd
    have hd0 : d = 0 := by
      have : (trvM m cnt ps).old.length = 1 := rfl
      omega
    subst hd0
    have hpos : sumN (fun i => if i = 0 then (1 : Int) else 0) m.N ≤ sumO (trvM m cnt ps) 0 tt Stt.wt (trvM m cnt ps).ss.length := by
      rw [hl]
      unfold sumO
      refine sumN_le fun i hi => ?_
      rw [MapD.S_eq (trv_at hi)]
      refine Int.le_trans ?_ (Int.le_of_eq (if_pos ⟨rfl, rfl⟩).symm)
      have := trv_wk ok i
      simp only
      split <;> omega
    have h1 : sumN (fun i => if i = 0 then (1 : Int) else 0) m.N = sumN (fun _ => 0) m.N + ((if 0 = 0 then 1 else 0) - 0) := sumN_set (by omega) fun k hk hne => if_neg hne
    rw [sumN_const] at h1
    simp at h1
    omega
  · intro j hj
    obtain ⟨r, hr, rfl⟩ := List.mem_map.1 hj
    have := ok.rd r hr
    have e : ((trvM m cnt ps).ss.length : Int) = (m.work.length : Int) := by rw [hl]; rfl
    rw [e]
    exact ⟨this.1, this.2.1, this.2.2.1, this.2.2.2.1, this.2.2.2.2.1⟩
theorem trv_meet {a b : Nat} : meet (trvM m cnt ps) (a : Int) (b : Int) = true ↔ Jnd m a b := by
  rw [meet_iff]
  constructor
  · rintro ⟨j, hj, h⟩
    obtain ⟨r, hr, rfl⟩ := List.mem_map.1 hj
    exact ⟨r, hr, joinsB_iff.2 h⟩
  · rintro ⟨r, hr, h⟩
    exact ⟨⟨r.a, r.b⟩, List.mem_map.2 ⟨r, hr, rfl⟩, joinsB_iff.1 h⟩
theorem mem_head {l : Nat → Int} {d : Int} {k : Nat} (h0 : l 0 = d) (hk : 0 < k) : ∃ t, mem l d k = 0 :: t := by
  obtain ⟨j, rfl⟩ : ∃ j, k = j + 1 := ⟨k - 1, by omega⟩
  refine ⟨(((List.range j).map Nat.succ).filter (inD l d)).map fun i : Nat => (i : Int), ?_⟩
  unfold mem
  rw [List.range_succ_eq_map, List.filter_cons, if_pos (by simp [inD, h0])]
  rfl
/-- a walk that counts all places of its route is a district that is connected -/
theorem trv_con (ok : OkW m) (hp : OkP m ps) {k : Nat} {p : List Nat × List Nat} (hk : ps[k]? = some p) (hr : ∀ n ∈ p.1, n ∈ p.2) : conB (trvM m cnt ps) (ownL (trvM m cnt ps)) (k : Int) = true := by
  have hN1 : 0 < m.N := ok.w1
  have hkl : k < ps.length := (List.getElem?_eq_some_iff.1 hk).1
  obtain ⟨w1, w2, w3, w4⟩ := hp.walk p (List.mem_of_getElem? hk)
  have hown : ∀ n, n ∈ p.2 → ownL (trvM m cnt ps) n = (k : Int) := fun n hn => by
    rw [trv_own (w4 n hn)]
    exact hp.nw hk hn _ hkl (Nat.le_refl _)
  have hof : ∀ n, n < m.N → ownL (trvM m cnt ps) n = (k : Int) → n ∈ p.2 := fun n hn e => by
    obtain ⟨j, q, hj, hq⟩ := hp.all n hn
    rw [trv_own hn, hp.nw hj hq _ (List.getElem?_eq_some_iff.1 hj).1 (Nat.le_refl _)] at e
    have : j = k := by omega
    subst this
    rw [hk] at hj
    cases hj
    exact hq
  obtain ⟨t0, e0⟩ := w1.head
  have h0 : 0 ∈ p.2 := hr 0 (by rw [e0]; simp)
  obtain ⟨t, et⟩ := mem_head (k := m.N) (hown 0 h0) hN1
  unfold conB
  rw [trv_len]
  refine conL_iff.2 ⟨0, t, et, ?_⟩
  have hin : ∀ n, n ∈ p.1 → (n : Int) ∈ mem (ownL (trvM m cnt ps)) (k : Int) m.N := fun n hn => mem_iff.2 ⟨n, w4 n (hr n hn), hown n (hr n hn), rfl⟩
  have hreach := w1.reach (S := fun x => Rch (trvM m cnt ps) (mem (ownL (trvM m cnt ps)) (k : Int) m.N) 0 (x : Int)) .base fun x y hx hy hs hj => hs.step (hin y hy) (trv_meet.2 hj)
  intro y hy
  obtain ⟨i, hi, e1, rfl⟩ := mem_iff.1 hy
  exact hreach i (w2 i (hof i hi e1))
theorem Pth.rev {a b : Nat} {l : List Nat} (h : Pth m a b l) : ∃ k, Pth m b a k := by
  induction h with
  | one => exact ⟨_, .one _⟩
  | @snoc b c l h1 h2 ih =>
    obtain ⟨k, hk⟩ := ih
    exact ⟨_, ((Pth.one c).snoc h2.symm).append hk⟩
/-- with one district: it is apart just if a place cannot be reached -/
theorem trv_one (ok : OkW m) : conB (trvM m cnt []) (ownL (trvM m cnt [])) 0 = true ↔ ∀ n, n < m.N → ∃ l, Pth m 0 n l := by
  have hN1 : 0 < m.N := ok.w1
  have hown : ∀ n, n < m.N → ownL (trvM m cnt []) n = 0 := fun n hn => by rw [trv_own hn]; rfl
  obtain ⟨t, et⟩ := mem_head (k := m.N) (hown 0 hN1) hN1
  unfold conB
  rw [trv_len]
  have hin : ∀ n, n < m.N → (n : Int) ∈ mem (ownL (trvM m cnt [])) 0 m.N := fun n hn => mem_iff.2 ⟨n, hn, hown n hn, rfl⟩
  constructor
  · intro h n hn
    obtain ⟨f, t', e1, h1⟩ := conL_iff.1 h
    have hf : f = 0 := by rw [et] at e1; cases e1; rfl
    subst hf
    obtain ⟨x, hx, _, hp⟩ := rch_in (fun y => ∃ x : Nat, y = (x : Int) ∧ x < m.N ∧ ∃ l, Pth m 0 x l) ⟨0, rfl, hN1, _, .one 0⟩ (fun x y hx hy hm => by
      obtain ⟨a, rfl, ha, l, hl⟩ := hx
      obtain ⟨i, hi, _, rfl⟩ := mem_iff.1 hy
      exact ⟨i, rfl, hi, _, hl.snoc (trv_meet.1 hm)⟩) (h1 n (hin n hn))
    have : n = x := by omega
    rw [this]; exact hp
  · intro h
    refine conL_iff.2 ⟨0, t, et, fun y hy => ?_⟩
    obtain ⟨n, hn, _, rfl⟩ := mem_iff.1 hy
    obtain ⟨l, hl⟩ := h n hn
    have hreach := hl.reach (S := fun x => x < m.N ∧ Rch (trvM m cnt []) (mem (ownL (trvM m cnt [])) 0 m.N) 0 (x : Int)) ⟨hN1, .base⟩ fun x y hx hy hs hj => by
      have hyN := ok.jnd x hs.1 y hj
      exact ⟨hyN, hs.2.step (hin y hyN) (trv_meet.2 hj)⟩
    exact (hreach n hl.last).2
theorem trv_apart0 (ok : OkW m) : apL (trvM m cnt []) = [] ↔ ∀ n, n < m.N → ∃ l, Pth m 0 n l := by
  rw [← trv_one (cnt := cnt) ok]
  have hnw : (trvM m cnt []).nw.toNat = 1 := rfl
  constructor
  · intro h
    cases hc : conB (trvM m cnt []) (ownL (trvM m cnt [])) 0 with
    | true => rfl
    | false =>
      have : (0 : Int) ∈ apL (trvM m cnt []) := zapL_mem.2 ⟨0, by omega, hc, rfl⟩
      rw [h] at this
      cases this
  · intro h
    refine List.eq_nil_iff_forall_not_mem.2 fun v hv => ?_
    obtain ⟨d, h1, h2, _⟩ := zapL_mem.1 hv
    have : d = 0 := by omega
    subst this
    rw [show ((0 : Nat) : Int) = 0 from rfl, h] at h2
    cases h2
theorem trv_apart (ok : OkW m) (hp : OkP m ps) {k : Nat} {p : List Nat × List Nat} (hk : ps[k]? = some p) (hr : ∀ n ∈ p.1, n ∈ p.2) : (k : Int) ∉ apL (trvM m cnt ps) := fun h => by
  obtain ⟨d, h1, h2, h3⟩ := zapL_mem.1 h
  have : d = k := by omega
  subst this
  rw [trv_con ok hp hk hr] at h2
  cases h2
theorem trv_sum (ok : OkM (trvM m cnt ps)) : (smD (trvM m cnt ps) (ownL (trvM m cnt ps)) (car (trvM m cnt ps))).sum = cnt := by
  rw [zsmD_all, zcar_all ok]
  · show [cnt].sum = cnt
    simp
  · intro i hi
    rw [car_len] at hi
    have := ok.sAt hi
    exact ⟨this.2.2.1, this.2.2.2.1⟩
end
end Go.Proofs.YtlnamjhgbdacbaaGreat
/- Plan: a plan of walks, or the error. Conditions stand at each theorem. -/
namespace Go.Proofs.YtlnamjhgbdacbaaGreat
open Go.RowKit Go.Shelf

def wkL (x : Value × Value) : List Value := [x.1, x.2]
theorem wkL_at : ∀ {ws : List (Value × Value)} {k : Nat} {x : Value × Value}, ws[k]? = some x → (ws.flatMap wkL)[k * 2]? = some x.1 ∧ (ws.flatMap wkL)[k * 2 + 1]? = some x.2
  | [], k, s, h => by simp at h
  | q :: l, 0, s, h => by
    simp at h; subst h
    exact ⟨rfl, rfl⟩
  | q :: l, k + 1, s, h => by
    have : (q :: l).flatMap wkL = q.1 :: q.2 :: l.flatMap wkL := rfl
    have ih := wkL_at (ws := l) (k := k) (x := s) (by simpa using h)
    rw [this, show (k + 1) * 2 = k * 2 + 1 + 1 by omega]
    exact ih
/-- the two lists of a walk, in blocks of numbers -/
def WkV (W : World) (x : Value × Value) (p : List Nat × List Nat) : Prop := ∃ B b B2 b2, x = (.slice B p.1.length b, .slice B2 p.2.length b2) ∧ IntsB B (intsN p.1) W ∧ p.1.length ≤ b ∧ b ≤ maxLen ∧ p.1.length ≤ 100000 ∧ IntsB B2 (intsN p.2) W ∧ p.2.length ≤ b2 ∧ b2 ≤ maxLen
theorem WkV.to {W W' : World} {x : Value × Value} {p : List Nat × List Nat} (h : WkV W x p) (hs : W.heap.size ≤ W'.heap.size) (hb : ∀ (g : Nat) (cs : Array Value), Blk W g 3 cs → Blk W' g 3 cs) : WkV W' x p := by
  obtain ⟨B, b, B2, b2, e, h1, h2, h3, h4, h5, h6⟩ := h
  exact ⟨B, b, B2, b2, e, h1.to hs hb, h2, h3, h4, h5.to hs hb, h6⟩
/-- walks in memory -/
def IsWks (w : World) (n : Nat) (A : Option Addr) (ps : List (List Nat × List Nat)) : Prop :=
  ∀ (k : Nat) (p : List Nat × List Nat), ps[k]? = some p → ∃ a B b B2 b2, A = some a ∧ a.block < n ∧ w.cell? (a.add (k * 2)) = some (.slice B p.1.length b) ∧ w.cell? ⟨(a.add (k * 2)).block, (a.add (k * 2)).off + 1, none⟩ = some (.slice B2 p.2.length b2) ∧ IsInts w n B (intsN p.1) ∧ p.1.length ≤ b ∧ b ≤ maxLen ∧ p.1.length ≤ 100000 ∧ IsInts w n B2 (intsN p.2) ∧ p.2.length ≤ b2 ∧ b2 ≤ maxLen
section
variable {w w' : World} {n k : Nat} {A : Option Addr} {ps : List (List Nat × List Nat)}
theorem IsWks.below (h : IsWks w n A ps) (hb : Below n w w') : IsWks w' n A ps := fun k p hk => by
  obtain ⟨a, B, b, B2, b2, e, hl, h0, h1, h2, h3, h4, h5, h6, h7, h8⟩ := h k p hk
  have hb0 : (a.add (k * 2)).block < n := by rw [block_of_add]; exact hl
  exact ⟨a, B, b, B2, b2, e, hl, (hb.cell hb0).trans h0, (hb.cell (p := ⟨(a.add (k * 2)).block, (a.add (k * 2)).off + 1, none⟩) hb0).trans h1, h2.below hb, h3, h4, h5, h6.below hb, h7, h8⟩
theorem IsWks.more {m : Nat} (h : IsWks w n A ps) (hm : n ≤ m) : IsWks w m A ps := fun k p hk => by
  obtain ⟨a, B, b, B2, b2, e, hl, h0, h1, h2, h3, h4, h5, h6, h7, h8⟩ := h k p hk
  exact ⟨a, B, b, B2, b2, e, by omega, h0, h1, h2.more hm, h3, h4, h5, h6.more hm, h7, h8⟩
theorem IsWks.at_ (h : IsWks w w.heap.size A ps) (hb : Below w.heap.size w w') : IsWks w' w'.heap.size A ps := (h.below hb).more hb.size
end
/-- the row of a plan's walks under construction -/
def RowW (b : Nat) (v : Value) (ps : List (List Nat × List Nat)) (W : World) : Prop := ∃ ws : List (Value × Value), ws.length = ps.length ∧ W.ownsRow b 73 2 v ps.length (ws.flatMap wkL) ∧ ∀ (i : Nat) (x : Value × Value), ws[i]? = some x → ∃ p, ps[i]? = some p ∧ WkV W x p
structure PlI (w : World) (g mp : Nat) (m : WMD) (A : Option Addr) (c : Nat) (A2 : Option Addr) (c2 : Nat) (T F : Nat → Nat → Int) (A0 : Addr) (L : List Nat) (c0 : Nat) (v : Value) (ps : List (List Nat × List Nat)) (W : World) : Prop where
  av : AtlV w.heap.size g mp m A c A2 c2 T F W
  ss : SetsAt W (some A0) L c0
  row : RowW w.heap.size v ps W
  bl : Below w.heap.size w W
section
variable {w : World} {g mp : Nat} {m : WMD} {A A2 : Option Addr} {c c2 : Nat} {T F : Nat → Nat → Int} {A0 : Addr} {L : List Nat} {c0 : Nat} {v v' : Value} {ps : List (List Nat × List Nat)} {W W' : World} {b : Nat}
theorem PlI.chg (h : PlI w g mp m A c A2 c2 T F A0 L c0 v ps W) (hc : MChg (fun q => q = mp) W W') (ht : TMem T mp W') : PlI w g mp m A c A2 c2 T F A0 L c0 v ps W' := by
  have hne : ∀ {q ty : Nat} {cs : Array Value}, Blk W q ty cs → ¬ q = mp := fun hb => h.av.tm.ne hb
  refine ⟨⟨h.av.at_.chg hc h.av.ne, ht, h.av.pd, h.av.ne, h.av.lo⟩, h.ss.chg hc fun q cs hb => hne hb, ?_, h.bl.trans (hc.below (fun k e => by rw [e]; exact h.av.lo.1) h.bl.size)⟩
  obtain ⟨ws, h1, h2, h3⟩ := h.row
  obtain ⟨es, ck, hmp, _⟩ := h.av.tm
  refine ⟨ws, h1, h2.kept hc.grown_ (mown_ne h2 fun cs hcs => by rw [hmp] at hcs; cases hcs), fun i x hx => ?_⟩
  obtain ⟨p, hp, hv⟩ := h3 i x hx
  exact ⟨p, hp, hv.to hc.size fun q cs hb => hc.blk hb (hne hb)⟩
theorem PlI.keep (h : PlI w g mp m A c A2 c2 T F A0 L c0 v ps W) (hb : Below W.heap.size W W') : PlI w g mp m A c A2 c2 T F A0 L c0 v ps W' := h.chg (MChg.of_below hb) (h.av.tm.keep hb)
theorem PlI.app {x : Value × Value} {p : List Nat × List Nat} (h : PlI w g mp m A c A2 c2 T F A0 L c0 v ps W) (hx : WkV W x p) {ws : List (Value × Value)} (h1 : ws.length = ps.length) (h2 : W.ownsRow w.heap.size 73 2 v ps.length (ws.flatMap wkL)) (h3 : ∀ (i : Nat) (x : Value × Value), ws[i]? = some x → ∃ p, ps[i]? = some p ∧ WkV W x p)
    (hg : W.grownBy W' v.ownBlock) (ho : W'.ownsRow w.heap.size 73 2 v' (ps.length + 1) (ws.flatMap wkL ++ wkL x)) : PlI w g mp m A c A2 c2 T F A0 L c0 v' (ps ++ [p]) W' := by
  have key : ∀ {q ty : Nat} {cs : Array Value}, Blk W q ty cs → ty ≠ 73 → Blk W' q ty cs := fun hb hne => blk_grown h2 hg hb hne
  obtain ⟨es, ck, hmp, hes⟩ := h.av.tm
  have hmpo : v.ownBlock ≠ some mp := fun e => by
    rcases mown_ne h2 (z := mp) (fun cs hc => by rw [hmp] at hc; cases hc) with h3 | h3
    · rw [h3] at e; cases e
    · exact h3 e
  have hch : MChg (fun q => v.ownBlock = some q) W W' := ⟨hg.os, hg.tape, hg.output, hg.size, fun k hk hn => hg.block k hk (fun e => hn e.symm)⟩
  refine ⟨⟨?_, ⟨es, ck, (hg.block mp (Array.getElem?_eq_some_iff.1 hmp).1 (fun e => hmpo e.symm)).trans hmp, hes⟩, h.av.pd, h.av.ne, h.av.lo⟩, h.ss.chg hch fun q cs hb e => ?_, ⟨ws ++ [x], by simp [h1], by rw [List.length_append, List.flatMap_append]; simpa using ho, fun i y hy => ?_⟩, below_row' h.bl h2 (Nat.le_refl _) hg h.bl.size⟩
  · obtain ⟨cs, hc, hr⟩ := h.av.at_.blk
    exact ⟨cs, key hc (by decide), hr⟩
  · rcases mown_ne h2 (mblk_not hb (by decide)) with h4 | h4
    · rw [h4] at e; cases e
    · exact h4 e
  · by_cases hi : i < ws.length
    · rw [List.getElem?_append_left hi] at hy
      obtain ⟨q, hq, hv⟩ := h3 i y hy
      exact ⟨q, by rw [List.getElem?_append_left (by omega)]; exact hq, hv.to hg.size fun g cs hb => key hb (by decide)⟩
    · rw [List.getElem?_append_right (by omega)] at hy
      have hi0 : i - ws.length = 0 := by
        have := (List.getElem?_eq_some_iff.1 hy).1
        simp at this
        omega
      rw [hi0] at hy
      simp at hy
      subst hy
      exact ⟨p, by rw [List.getElem?_append_right (by omega), show i - ps.length = 0 by omega]; rfl, hx.to hg.size fun g cs hb => key hb (by decide)⟩
theorem RowW.is (h : RowW b v ps W) : ∃ A c, v = .slice A ps.length c ∧ IsWks W W.heap.size A ps ∧ ps.length ≤ c ∧ c ≤ maxLen := by
  obtain ⟨ws, h1, h2, h3⟩ := h
  rcases h2.2 with ⟨e, h0⟩ | ⟨z, cap, cur, e, hb, _, hl, hm, _⟩
  · have : ps = [] := List.eq_nil_of_length_eq_zero h0
    subst this
    exact ⟨none, 0, e, fun k p hk => by simp at hk, Nat.le_refl _, Nat.zero_le _⟩
  · refine ⟨some ⟨z, 0, none⟩, cap, e, fun k p hk => ?_, hl, hm⟩
    obtain ⟨x, hx⟩ : ∃ x, ws[k]? = some x := ⟨_, List.getElem?_eq_getElem (by rw [h1]; exact (List.getElem?_eq_some_iff.1 hk).1)⟩
    obtain ⟨p', hp', B, b, B2, b2, ex, g1, g2, g3, g4, g5, g6, g7⟩ := h3 k x hx
    rw [hk] at hp'
    cases hp'
    obtain ⟨q1, q2⟩ := wkL_at hx
    have c1 := h2.cells (g := z) (by rw [e]; rfl) _ _ q1
    have c2 := h2.cells (g := z) (by rw [e]; rfl) _ _ q2
    rw [add_blk] at c1 c2
    have hz := World.block_lt_of_cell? W _ c1
    refine ⟨⟨z, 0, none⟩, B, b, B2, b2, rfl, hz, ?_⟩
    rw [add_blk]
    rw [ex] at c1 c2
    exact ⟨c1, c2, g1.1, g2, g3, g4, g5.1, g6, g7⟩
end
theorem walk_info : (Tryz.prog.info? 73).map (fun i => (i.zero, i.size, i.bytes)) = some (some (.agg #[.slice none 0 0, .slice none 0 0]), 2, 48) := by kernel_rfl
/-- the walks so far: of each set the tour -/
def PsOk (m : WMD) (L : List Nat) (ps : List (List Nat × List Nat)) : Prop := ∀ (i : Nat) (p : List Nat × List Nat), ps[i]? = some p → ∃ s, L[i]? = some s ∧ p.2 = bl s ∧ Pth m 0 0 p.1 ∧ ∀ x ∈ p.2, x ∈ p.1
theorem PsOk.snoc {m : WMD} {L : List Nat} {ps : List (List Nat × List Nat)} (h : PsOk m L ps) {s : Nat} {p : List Nat × List Nat} (hs : L[ps.length]? = some s) (h1 : p.2 = bl s) (h2 : Pth m 0 0 p.1) (h3 : ∀ x ∈ p.2, x ∈ p.1) : PsOk m L (ps ++ [p]) := fun i q hq => by
  by_cases hi : i < ps.length
  · rw [List.getElem?_append_left hi] at hq
    exact h i q hq
  · rw [List.getElem?_append_right (by omega)] at hq
    have hi0 : i - ps.length = 0 := by
      have := (List.getElem?_eq_some_iff.1 hq).1
      simp at this
      omega
    rw [hi0] at hq
    simp at hq
    subst hq
    exact ⟨s, by rw [show i = ps.length by omega]; exact hs, h1, h2, h3⟩
theorem ps_okp {m : WMD} (ok : OkW m) {T : Nat → Nat → Int} {lim : Int} {L : List Nat} {ps : List (List Nat × List Nat)} (hd : Div m T lim (whN m.N) L) (hp : PsOk m L ps) (hl : ps.length = L.length) : OkP m ps := by
  have hN8 : m.N ≤ 8 := ok.w8
  have hN1 : 0 < m.N := ok.w1
  obtain ⟨_, _, _, hw256, hw0⟩ := whN_facts m.N hN8
  have hw0 := hw0 hN1
  have hLN : L ≠ [] := fun e => by
    subst e
    obtain ⟨i, hi⟩ := Nat.exists_testBit_of_ne_zero hw0
    obtain ⟨p, hp, _⟩ := (hd.has i).1 hi
    cases hp
  have hbit : ∀ {s : Nat}, s ∈ L → ∀ k ∈ bl s, k < m.N := fun {s} hs k hk => by
    obtain ⟨h8, hb⟩ := bl_mem.1 hk
    have := (hd.has k).2 ⟨s, hs, hb⟩
    rw [whN_bit m.N hN8 k h8] at this
    exact of_decide_eq_true this
  refine ⟨fun e => ?_, ?_, fun p hpm => ?_, fun n hn => ?_, fun k j p q n hk hj hpn hqn => ?_⟩
  · rw [e] at hl
    exact hLN (List.eq_nil_of_length_eq_zero hl.symm)
  · have := hd.len hw256
    omega
  · obtain ⟨i, hi⟩ := List.getElem?_of_mem hpm
    obtain ⟨s, hs, h1, h2, h3⟩ := hp i p hi
    have hsL := List.mem_of_getElem? hs
    obtain ⟨p1, p2, _⟩ := hd.part s hsL
    exact ⟨h2, h3, by rw [h1]; exact bl_ne s p2 p1, by rw [h1]; exact hbit hsL⟩
  · obtain ⟨s, hs, hb⟩ := (hd.has n).1 (by rw [whN_bit m.N hN8 n (by omega)]; exact decide_eq_true hn)
    obtain ⟨i, hi⟩ := List.getElem?_of_mem hs
    obtain ⟨p, hpi⟩ : ∃ p, ps[i]? = some p := ⟨_, List.getElem?_eq_getElem (by rw [hl]; exact (List.getElem?_eq_some_iff.1 hi).1)⟩
    obtain ⟨s', hs', h1, _⟩ := hp i p hpi
    rw [hi] at hs'
    cases hs'
    exact ⟨i, p, hpi, by rw [h1]; exact bl_mem.2 ⟨by omega, hb⟩⟩
  · obtain ⟨s, hs, h1, _⟩ := hp k p hk
    obtain ⟨t, ht, g1, _⟩ := hp j q hj
    rw [h1] at hpn
    rw [g1] at hqn
    exact hd.uniq k j s t n hs ht (bl_mem.1 hpn).2 (bl_mem.1 hqn).2
/-- what Plan hands back -/
def GivesPlan (m : WMD) (w : World) (e : Ending) (w' : World) : Prop :=
  (e = .returned (.tuple #[.slice none 0 0, .int .i64 9]) ∧ Below w.heap.size w w') ∨
  ∃ ps A c, OkP m ps ∧ e = .returned (.tuple #[.slice A ps.length c, .int .i64 0]) ∧ IsWks w' w'.heap.size A ps ∧ ps.length ≤ c ∧ c ≤ maxLen ∧ Below w.heap.size w w'
set_option maxRecDepth 100000 in
set_option maxHeartbeats 4000000 in
theorem wplan_any (m : WMD) (A : Option Addr) (c : Nat) (A2 : Option Addr) (c2 : Nat) (lim : Int) (w : World) (h : WIn m A c A2 c2 w) (ok : OkW m) (h0 : 0 ≤ lim) (h1 : lim ≤ 10000) :
    Calls Tryz.prog 14 #[.agg #[.slice A m.work.length c, .slice A2 m.roads.length c2], .int .i64 lim] w (GivesPlan m w) := by
  have hB := below_box (w := w) #[.slice A m.work.length c, .slice A2 m.roads.length c2] 65
  have hT := Blk.new w 65 #[.slice A m.work.length c, .slice A2 m.roads.length c2]
  have KD := hid (wdivided_any m A c A2 c2 lim _ (h.at_ hB) ok h0 h1)
  have HS := hid hB
  have OK := hid ok
  obtain ⟨t0, t1⟩ := hT.c2
  clear hB hT h ok
  go_enter Tryz.func14, Tryz.ntmps14
  go_wp2_with fail
  refine KD.out.mono ?_
  rintro e W1 (⟨rfl, hb⟩ | ⟨g, mp, T, F, A0, L, c0, rfl, hav, hss, hdv, hb⟩)
  · have H1 := hid (HS.out.trans (hb.mono HS.out.size))
    clear KD HS hb t0 t1
    go_wp2
    go_ret2
    exact .inl ⟨rfl, H1.out⟩
  · have hbw := HS.out.trans (hb.mono HS.out.size)
    have hws := HS.out.size
    have HI := hid (show PlI w g mp m A c A2 c2 T F A0 L c0 (.slice none 0 0) [] W1 from ⟨⟨hav.at_, hav.tm, hav.pd, hav.ne, Nat.le_trans hws hav.lo.1, Nat.le_trans hws hav.lo.2⟩, hss, ⟨[], rfl, ⟨rfl, .inl ⟨rfl, rfl⟩⟩, fun i x hx => by simp at hx⟩, hbw⟩)
    have HD := hid hdv
    obtain ⟨M, hM⟩ : ∃ M, L.length = M := ⟨_, rfl⟩
    have hM256 : M ≤ 256 := by have := hdv.len (whN_facts m.N OK.out.w8).2.2.2.1; have := (whN_facts m.N OK.out.w8).2.2.2.1; omega
    rw [hM]
    have HM := hid hM
    have hMc : M ≤ c0 := by rw [← hM]; exact hss.cap
    have hc0m := hss.cm
    unfold maxLen at hc0m
    clear KD HS hb t0 t1 hav hss hdv hbw hM hws
    go_wp2
    go_loopw [9, 24] (fun v i W => ∃ ps, i = .int .i64 (ps.length : Int) ∧ ps.length ≤ M ∧ PsOk m L ps ∧ PlI w g mp m A c A2 c2 T F A0 L c0 v ps W) (fun _ i _ => M - (intOf i).toNat)
    case atStart => exact ⟨[], rfl, Nat.zero_le _, (fun i p hp => by simp at hp), HI.out⟩
    case round =>
      clear HI
      obtain ⟨ps, rfl, hk, hps, hI⟩ := hrel
      have HI := hid hI
      have HPS := hid hps
      obtain ⟨k, hkl⟩ : ∃ k, ps.length = k := ⟨_, rfl⟩
      rw [hkl] at hk ⊢
      have HKL := hid hkl
      clear hI hps hkl
      by_cases hlt : k < M
      · have hkI : (k : Int) < (M : Int) := by omega
        have hkN : decide (k < M) = true := decide_eq_true hlt
        obtain ⟨s, hs⟩ : ∃ s, L[k]? = some s := ⟨_, List.getElem?_eq_getElem (by rw [HM.out]; exact hlt)⟩
        obtain ⟨p1, p2, p3⟩ := HD.out.part s (List.mem_of_getElem? hs)
        have hbN : ∀ q ∈ bl s, q < m.N := fun q hq => by
          obtain ⟨h8, hb⟩ := bl_mem.1 hq
          have := (HD.out.has q).2 ⟨s, List.mem_of_getElem? hs, hb⟩
          rw [whN_bit m.N OK.out.w8 q h8] at this
          exact of_decide_eq_true this
        have hlong : (rst T 0 (bl s)).1 < farI := by
          have := (wkS_bound OK.out (bl s)).1
          unfold lonG at p3
          unfold farI
          omega
        obtain ⟨a0, e0, hl0, hc0⟩ := HI.out.ss.ints k (s : Int) (by rw [show (intsN L)[k]? = (L[k]?).map (fun n : Nat => (n : Int)) from List.getElem?_map, hs]; rfl)
        cases e0
        have HSS := hid hs
        have KT := hid (wtour_any OK.out HI.out.av.ne (fun y hy => (HI.out.av.pd y hy).col) s p2 hbN hlong wr HI.out.av.at_ HI.out.av.tm)
        clear p1 p2 p3 hbN hlong hs hl0
        go_wp2_with fail
        refine KT.out.mono ?_
        rintro e W2 ⟨l, B, b, B2, b2, hpt, hvis, rfl, i1, i2, i3, i4, i5, i6, i7, hch, htm⟩
        have hI2 := HI.out.chg hch htm
        obtain ⟨ws, r1, r2, r3⟩ := hI2.row
        have hWV : WkV W2 (.slice B l.length b, .slice B2 (bl s).length b2) (l, bl s) := ⟨B, b, B2, b2, rfl, i1, i2, i3, i7, i4, i5, i6⟩
        have hbx := below_box (w := W2) #[.slice B l.length b, .slice B2 (bl s).length b2] 73
        have hI3 := hI2.keep hbx
        have HI3 := hid hI3
        have hbk := Blk.new W2 73 #[.slice B l.length b, .slice B2 (bl s).length b2]
        have hsz3 := hI3.bl.size
        have HR := hid (show (W2.alloc (.cells #[.slice B l.length b, .slice B2 (bl s).length b2] 73)).ownsRow w.heap.size 73 2 u9 k (ws.flatMap wkL) from by rw [← HKL.out]; exact row_kept (vo := .slice none 0 0) r2 (grown_of_below hbx _) (.inl rfl))
        have HR3 := hid (show ∀ (i : Nat) (x : Value × Value), ws[i]? = some x → ∃ p, ps[i]? = some p ∧ WkV (W2.alloc (.cells #[.slice B l.length b, .slice B2 (bl s).length b2] 73)) x p from fun i x hx => by
          obtain ⟨p, hp, hv⟩ := r3 i x hx
          exact ⟨p, hp, hv.to hbx.size fun g cs hb => hb.keep hbx⟩)
        have HWV := hid (hWV.to hbx.size fun g cs hb => hb.keep hbx)
        have HWL := hid r1
        have hnw := hid (show ∀ (j : Nat) (x : Value), (wkL (.slice B l.length b, .slice B2 (bl s).length b2))[j]? = some x → (W2.alloc (.cells #[.slice B l.length b, .slice B2 (bl s).length b2] 73)).cell? ((⟨W2.heap.size, 0, none⟩ : Addr).add j) = some x from fun j x hj => by
          rw [add_blk, hbk.cell]
          simpa [wkL] using hj)
        have HPT := hid (And.intro hpt hvis)
        obtain ⟨i0, hi0, hz0, hz1, hz2⟩ := info_parts walk_info
        clear KT HI hc0 hI2 r1 r2 r3 hWV hbx hI3 hbk i1 i2 i3 i4 i5 i6 i7 hch htm hpt hvis
        go_wp2_with (at_builtin; go_loud (refine wpList_append_own_at _ rfl _ _ 59 rfl w.heap.size 73 i0 (.agg #[.slice none 0 0, .slice none 0 0]) 2 48 Tryz.underlying59 hi0 hz0 hz1 hz2 rfl (by decide) u9 k _ rfl HR.out ⟨W2.heap.size, 0, none⟩ 1 1 (wkL (.slice B l.length b, .slice B2 (bl s).length b2)) rfl rfl hnw.out (by intro u hu; simp only [wkL, List.mem_cons, List.not_mem_nil, or_false] at hu; rcases hu with rfl | rfl <;> rfl) (by simp only [maxLen]; omega) (by omega) hsz3 ?_; intro vo' w6 hown' hgrow _ _; have HNX := hid (HI3.out.app HWV.out (by rw [HWL.out]) (by rw [HKL.out]; exact HR.out) HR3.out hgrow (by rw [HKL.out]; exact hown')); clear hown' hgrow))
        have HPX := hid (HPS.out.snoc (s := s) (p := (l, bl s)) (by rw [HKL.out]; exact HSS.out) rfl HPT.out.1 HPT.out.2)
        go_roundw
        case rel => exact ⟨ps ++ [(l, bl s)], by rw [List.length_append, HKL.out]; first | rfl | go_num, by rw [List.length_append, HKL.out]; exact hlt, HPX.out, HNX.out⟩
        case measure => first | (simp [intOf]; done) | (simp [intOf]; omega)
      · have hkI : decide ((k : Int) < (M : Int)) = false := decide_eq_false (by omega)
        have hkN : decide (k < M) = false := decide_eq_false hlt
        obtain ⟨A9, c9, e9, i1, i2, i3⟩ := HI.out.row.is
        have HF := hid (show GivesPlan m w (.returned (.tuple #[u9, .int .i64 0])) wr from .inr ⟨ps, A9, c9, ps_okp OK.out HD.out HPS.out (by rw [HKL.out, HM.out]; omega), by rw [e9], i1, i2, i3, HI.out.bl⟩)
        subst e9
        clear i1 i2 i3 HI
        go_wp2
        go_ret2
        exact HF.out
end Go.Proofs.YtlnamjhgbdacbaaGreat
/- Way: whether there is a way from the office to a place. Conditions stand at each theorem. -/
namespace Go.Proofs.YtlnamjhgbdacbaaGreat
open Go.RowKit Go.Shelf

/-- what Way hands back: its error is 0 just where there is a way -/
def GivesWay (m : WMD) (n : Nat) (w : World) (e : Ending) (w' : World) : Prop :=
  ∃ (v1 v2 : Value) (z : Int), e = .returned (.tuple #[v1, v2, .int .i64 z]) ∧ (z = 0 ↔ ∃ l, Pth m 0 n l) ∧ Below w.heap.size w w'
theorem way_iff {m : WMD} (ok : OkW m) {n : Nat} (hn : n < m.N) {t f : Nat → Int} (h : DoneC m n t f) : t 0 < farI ↔ ∃ l, Pth m 0 n l := by
  constructor
  · intro ht
    obtain ⟨l, hl⟩ := h.way hn _ 0 ok.w1 ht (Nat.le_refl _)
    exact hl.rev
  · rintro ⟨l, hl⟩
    obtain ⟨k, hk⟩ := hl.rev
    exact (h.reach ok.jnd hn hk).2
/-- the last statement of Way -/
structure PhY (w : World) (g mp : Nat) (m : WMD) (A : Option Addr) (c : Nat) (A2 : Option Addr) (c2 : Nat) (T F : Nat → Nat → Int) (W : World) : Prop where
  at_ : AtW W g mp m A c A2 c2 T F
  bl : Below w.heap.size w W
theorem PhY.keep {w : World} {g mp : Nat} {m : WMD} {A A2 : Option Addr} {c c2 : Nat} {T F : Nat → Nat → Int} {W W' : World} (h : PhY w g mp m A c A2 c2 T F W) (hb : Below W.heap.size W W') : PhY w g mp m A c A2 c2 T F W' := ⟨h.at_.keep hb, h.bl.trans (hb.mono h.bl.size)⟩
set_option maxRecDepth 100000 in
set_option maxHeartbeats 4000000 in
theorem wWay_any (m : WMD) (A : Option Addr) (c : Nat) (A2 : Option Addr) (c2 : Nat) (n : Nat) (w : World) (h : WIn m A c A2 c2 w) (ok : OkW m) (hn : n < m.N) :
    Calls Tryz.prog 18 #[.agg #[.slice A m.work.length c, .slice A2 m.roads.length c2], .int .i64 0, .int .i64 (n : Int)] w (GivesWay m n w) := by
  have hN8 : m.N ≤ 8 := ok.w8
  have hNN : m.N = m.work.length := rfl
  have hB := below_box (w := w) #[.slice A m.work.length c, .slice A2 m.roads.length c2] 65
  have hT := Blk.new w 65 #[.slice A m.work.length c, .slice A2 m.roads.length c2]
  have KC := hid (wcheck_ok m A c A2 c2 _ (h.at_ hB) ok)
  have HS := hid (And.intro hB hT)
  have HH := hid h
  have OK := hid ok
  have hp0 : inB 0 0 ((m.work.length : Int) - 1) = true := inB_iff.2 (by have := ok.w1; omega)
  have hpn : inB (n : Int) 0 ((m.work.length : Int) - 1) = true := inB_iff.2 (by omega)
  have HPL := hid (fun (k : Int) (W : World) => wplace_any A m.work.length c (.slice A2 m.roads.length c2) k W (by omega))
  obtain ⟨t0, t1⟩ := hT.c2
  clear hB hT h ok
  go_enter Tryz.func18, Tryz.ntmps18
  go_wp2_with fail
  refine KC.out.mono ?_
  rintro e W1 ⟨rfl, hb⟩
  have H1 := hid (show Below w.heap.size w W1 ∧ Blk W1 w.heap.size 65 #[.slice A m.work.length c, .slice A2 m.roads.length c2] from ⟨HS.out.1.trans (hb.mono HS.out.1.size), HS.out.2.keep hb⟩)
  clear KC HS hb t0 t1
  obtain ⟨t0, t1⟩ := H1.out.2.c2
  go_wp2_with fail
  refine (HPL.out 0 W1).mono ?_
  rintro e W2 ⟨rfl, hb⟩
  rw [hp0]
  have H2 := hid (show Below w.heap.size w W2 ∧ Blk W2 w.heap.size 65 #[.slice A m.work.length c, .slice A2 m.roads.length c2] from ⟨H1.out.1.trans (hb.mono H1.out.1.size), H1.out.2.keep hb⟩)
  clear H1 hb t0 t1
  obtain ⟨t0, t1⟩ := H2.out.2.c2
  go_wp2_with fail
  refine (HPL.out (n : Int) W2).mono ?_
  rintro e W3 ⟨rfl, hb⟩
  rw [hpn]
  have H3 := hid (show Below w.heap.size w W3 ∧ Blk W3 w.heap.size 65 #[.slice A m.work.length c, .slice A2 m.roads.length c2] from ⟨H2.out.1.trans (hb.mono H2.out.1.size), H2.out.2.keep hb⟩)
  clear H2 hb t0 t1
  obtain ⟨t0, t1⟩ := H3.out.2.c2
  have KA := hid (watlas_v m A c A2 c2 W3 (HH.out.at_ H3.out.1) OK.out)
  go_wp2_with fail
  refine KA.out.mono ?_
  rintro e W4 ⟨g, mp, T, F, rfl, hat, hb⟩
  have H4 := hid (show Below w.heap.size w W4 from H3.out.1.trans (hb.mono H3.out.1.size))
  have HV := hid hat
  have HIF := hid (way_iff OK.out hn (hat.pd n hn))
  have hn8 : n < 8 := by omega
  have hn8I : (n : Int) < 8 := by omega
  have a0 := hat.at_.time (n := 0) (k := n) (by omega) hn8
  have al := hat.at_.lt
  simp only [Nat.zero_mul, Nat.add_zero] at a0
  obtain ⟨t, ht⟩ : ∃ t, T 0 n = t := ⟨_, rfl⟩
  rw [ht] at a0
  have HTT := hid ht
  clear KA hat hb t0 t1 H3 ht
  cases hfar : decide (1048576 ≤ t)
  · have HP := hid (HIF.out.1 (by have := of_decide_eq_false hfar; show T 0 n < farI; rw [HTT.out]; unfold farI; omega))
    have hlt : T 0 n < farI := by have := of_decide_eq_false hfar; rw [HTT.out]; unfold farI; omega
    have HLT := hid hlt
    clear hlt
    go_upto_region 9 with (fail)
    clear a0 al
    refine (wpIn_wide (n := 0)).1 ?_
    refine wpIn_region_each2 13 (fun i v W' => match i with | 0 => v = .pointer (some ⟨g, 0, none⟩) | 1 => v = .int .i64 0 | 2 => v = .int .i64 (n : Int) | 4 => v = .pointer (some ⟨g, 0, none⟩) | 5 => v = .int .i64 0 | 6 => v = .int .i64 (n : Int) | 7 => v = .pointer (some ⟨g, 0, none⟩) | 8 => v = .pointer (some ⟨g, 2, none⟩) | 9 => v = .pointer (some ⟨g, 2, none⟩) | 10 => v = .pointer (some ⟨g, 2 + n, none⟩) | 11 => v = .int .i64 t | _ => True) (fun _ _ => True) (fun _ _ W => PhY w g mp m A c A2 c2 T F W) (by kernel_rfl) (by kernel_rfl) ?_ (fun _ _ => trivial) trivial ⟨HV.out.at_.keep ⟨rfl, rfl, rfl, Nat.le_refl _, fun _ _ => rfl⟩, H4.out.drew⟩ (by kernel_rfl) ?_ ?_
    · intro i v W1 W2 hb h; exact h
    · refine ⟨?_, ?_, ?_, ?_, ?_, ?_, ?_, ?_, ?_, ?_, ?_, ?_, ?_, trivial⟩
      · -- 0
        intro li a1 W2 hA K hK
        have e10 := hA.par 10 (by kernel_rfl)
        refine opStep none 0 rfl rfl (fun c hc => by cases hc) ?_
        go_simp
        exact hK _ _ rfl trivial (hA.ph)
      · -- 1
        intro li a1 W2 hA K hK
        have e1 := hA.par 1 (by kernel_rfl)
        refine opStep none 0 rfl rfl (fun c hc => by cases hc) ?_
        go_simp
        exact hK _ _ rfl trivial (hA.ph)
      · -- 2
        intro li a1 W2 hA K hK
        have e2 := hA.par 2 (by kernel_rfl)
        refine opStep none 0 rfl rfl (fun c hc => by cases hc) ?_
        go_simp
        exact hK _ _ rfl trivial (hA.ph)
      · -- 3
        intro li a1 W2 hA K hK
        have e37 : a1.tmps.getD 37 undef = .pointer (some ⟨g, 0, none⟩) := hA.val 0 37 (by kernel_rfl) (by kernel_rfl)
        have e38 : a1.tmps.getD 38 undef = .int .i64 0 := hA.val 1 38 (by kernel_rfl) (by kernel_rfl)
        have e39 : a1.tmps.getD 39 undef = .int .i64 (n : Int) := hA.val 2 39 (by kernel_rfl) (by kernel_rfl)
        refine opStep none 0 rfl rfl (fun c hc => by cases hc) ?_
        go_simp
        refine (wway_any W2 hA.ph.at_ hN8 0 n (by omega) hn (HV.out.pd n hn).col HLT.out).mono ?_
        rintro e W9 ⟨l, hp, hl, A9, c9, rfl, h1, h2, h3, h4, h5, hb9⟩
        exact hK _ _ trivial trivial (hA.ph.keep hb9)
      · -- 4
        intro li a1 W2 hA K hK
        have e10 := hA.par 10 (by kernel_rfl)
        refine opStep none 0 rfl rfl (fun c hc => by cases hc) ?_
        go_simp
        exact hK _ _ rfl trivial (hA.ph)
      · -- 5
        intro li a1 W2 hA K hK
        have e1 := hA.par 1 (by kernel_rfl)
        refine opStep none 0 rfl rfl (fun c hc => by cases hc) ?_
        go_simp
        exact hK _ _ rfl trivial (hA.ph)
      · -- 6
        intro li a1 W2 hA K hK
        have e2 := hA.par 2 (by kernel_rfl)
        refine opStep none 0 rfl rfl (fun c hc => by cases hc) ?_
        go_simp
        exact hK _ _ rfl trivial (hA.ph)
      · -- 7
        intro li a1 W2 hA K hK
        have e41 : a1.tmps.getD 41 undef = .pointer (some ⟨g, 0, none⟩) := hA.val 4 41 (by kernel_rfl) (by kernel_rfl)
        refine opStep none 0 rfl rfl (fun c hc => by cases hc) ?_
        go_simp
        exact hK _ _ rfl trivial (hA.ph)
      · -- 8
        intro li a1 W2 hA K hK
        have e44 : a1.tmps.getD 44 undef = .pointer (some ⟨g, 0, none⟩) := hA.val 7 44 (by kernel_rfl) (by kernel_rfl)
        refine opStep none 0 rfl rfl (fun c hc => by cases hc) ?_
        go_simp
        exact hK _ _ rfl trivial (hA.ph)
      · -- 9
        intro li a1 W2 hA K hK
        have e45 : a1.tmps.getD 45 undef = .pointer (some ⟨g, 2, none⟩) := hA.val 8 45 (by kernel_rfl) (by kernel_rfl)
        have e42 : a1.tmps.getD 42 undef = .int .i64 0 := hA.val 5 42 (by kernel_rfl) (by kernel_rfl)
        refine opStep none 0 rfl rfl (fun c hc => by cases hc) ?_
        go_simp
        exact hK _ _ rfl trivial (hA.ph)
      · -- 10
        intro li a1 W2 hA K hK
        have e46 : a1.tmps.getD 46 undef = .pointer (some ⟨g, 2, none⟩) := hA.val 9 46 (by kernel_rfl) (by kernel_rfl)
        have e43 : a1.tmps.getD 43 undef = .int .i64 (n : Int) := hA.val 6 43 (by kernel_rfl) (by kernel_rfl)
        refine opStep none 0 rfl rfl (fun c hc => by cases hc) ?_
        go_simp
        exact hK _ _ rfl trivial (hA.ph)
      · -- 11
        intro li a1 W2 hA K hK
        have e47 : a1.tmps.getD 47 undef = .pointer (some ⟨g, 2 + n, none⟩) := hA.val 10 47 (by kernel_rfl) (by kernel_rfl)
        have a0 := hA.ph.at_.time (n := 0) (k := n) (by omega) hn8
        simp only [Nat.zero_mul, Nat.add_zero] at a0
        rw [HTT.out] at a0
        have al := hA.ph.at_.lt
        refine opStep none 0 rfl rfl (fun c hc => by cases hc) ?_
        go_simp
        exact hK _ _ rfl trivial (hA.ph)
      · -- 12
        intro li a1 W2 hA K hK
        obtain ⟨v40, e40⟩ : ∃ v, a1.tmps.getD 40 undef = v := ⟨_, rfl⟩
        refine opStep none 0 rfl rfl (fun c hc => by cases hc) ?_
        go_simp
        exact hK _ _ trivial trivial hA.ph
    intro li a1 W2 hD
    have e48 : a1.tmps.getD 48 undef = .int .i64 t := hD.val 11 48 (by kernel_rfl) (by kernel_rfl)
    obtain ⟨v6, e6⟩ : ∃ v, a1.tmps.getD 6 undef = v := ⟨_, rfl⟩
    have hbl := hD.ph.bl
    have hsz9 : a1.tmps.size = 49 := hD.size
    have hdd := hD.defers
    refine tail_val (i := 13) (v := .int .i64 t) (W' := W2) none 0 rfl rfl rfl (fun c hc => by cases hc) (by go_simp) (by rw [hsz9]; decide) ?_
    intro a3 s3 d3 f3 o3
    have e6' := (o3 6 (by decide)).trans e6
    refine tail_val (i := 14) (v := .int .i64 0) (W' := W2) none 0 rfl rfl rfl (fun c hc => by cases hc) (by go_simp) (by rw [s3, hsz9]; decide) ?_
    intro a4 s4 d4 f4 o4
    have e6'' := (o4 6 (by decide)).trans e6'
    have f3' := (o4 7 (by decide)).trans f3
    have hd4 : a4.defers = [] := (d4.trans d3).trans hdd
    have HBL := hid hbl
    clear e6 e6' e48 s3 s4 d3 d4 o3 o4 f3 hdd hbl hsz9 hD
    refine wpListIn_nil ?_
    go_wp2
    exact bodyPost_ret (v := .tuple #[v6, .int .i64 t, .int .i64 0]) (by simp only [Array.getD_eq_getD_getElem?] at e6'' f3' f4; simp [results, Tryz.results18, go_sem, e6'', f3', f4]) hd4 ⟨_, _, 0, rfl, ⟨fun _ => HP.out, fun _ => rfl⟩, HBL.out⟩
  · have HP := hid (show ¬ ∃ l, Pth m 0 n l from fun h => by have h1 := HIF.out.2 h; have h2 := of_decide_eq_true hfar; rw [show col T n 0 = t from HTT.out] at h1; unfold farI at h1; omega)
    go_wp2
    go_ret3
    exact ⟨_, _, 7, rfl, ⟨(fun e => absurd e (by decide)), fun h => absurd h HP.out⟩, H4.out⟩
end Go.Proofs.YtlnamjhgbdacbaaGreat
/- Map of layer 1's laws: the reference's map, as the program's. Conditions stand at each theorem. -/
namespace Go.Proofs.YtlnamjhgbdacbaaGreat
open Go.RowKit Go.Shelf

/-- a map of places that a call has made -/
def GivesWMap (m : WMD) (w : World) (e : Ending) (w' : World) : Prop :=
  ∃ P Q : Option Addr × Nat, e = .returned (.agg #[.slice P.1 m.work.length P.2, .slice Q.1 m.roads.length Q.2]) ∧ WIn m P.1 P.2 Q.1 Q.2 w' ∧ Below w.heap.size w w'
set_option maxRecDepth 10000 in
set_option maxHeartbeats 400000 in
theorem wto_any (x y : Int) (w : World) : Calls Tryz.prog 37 #[.agg #[.int .i64 x, .int .i64 y]] w fun e w' => e = .returned (.agg #[.int .i64 x, .int .i64 y]) ∧ Below w.heap.size w w' := by
  go_enter Tryz.func37, Tryz.ntmps37
  go_wp2
  have b1 := ((Below.refl w.heap.size w).alloc (Nat.le_refl _) (.cells #[.int .i64 x, .int .i64 y] 67)).alloc (by simp) (.cells #[.int .i64 x, .int .i64 y] 87)
  have k1 := Blk.new (w.alloc (.cells #[.int .i64 x, .int .i64 y] 67)) 87 #[.int .i64 x, .int .i64 y]
  rw [World.size_alloc] at k1
  generalize ((w.alloc (.cells #[.int .i64 x, .int .i64 y] 67)).alloc (.cells #[.int .i64 x, .int .i64 y] 87)) = W at *
  obtain ⟨e0, e1⟩ := k1.c2
  exact bodyPost_ret (v := .agg #[.int .i64 x, .int .i64 y]) (by simp [results, Tryz.results37, go_sem, e0, e1]) rfl ⟨rfl, b1⟩
set_option maxRecDepth 100000 in
set_option maxHeartbeats 4000000 in
theorem wmap_any (m : WMD) (A : Option Addr) (c : Nat) (A2 : Option Addr) (c2 : Nat) (w : World) (h : WIn m A c A2 c2 w) (h11 : m.work.length ≤ 1000) (h24 : m.roads.length ≤ 1000) :
    Calls Tryz.prog 15 #[.agg #[.slice A m.work.length c, .slice A2 m.roads.length c2]] w (GivesWMap m w) := by
  have hm1 := h.m1
  have hl1 := h.l1
  have hm2 := h.m2
  have hl2 := h.l2
  unfold maxLen at hm1 hm2
  have hB := below_box (w := w) #[.slice A m.work.length c, .slice A2 m.roads.length c2] 55
  have hB2 := hB.alloc hB.size (.cells #[.slice none 0 0, .slice none 0 0] 65)
  have hB3 := hB2.alloc hB2.size (.cells #[.slice none 0 0, .slice none 0 0] 65)
  have hT := ((Blk.new w 55 #[.slice A m.work.length c, .slice A2 m.roads.length c2]).alloc (.cells #[.slice none 0 0, .slice none 0 0] 65)).alloc (.cells #[.slice none 0 0, .slice none 0 0] 65)
  have hU := (Blk.new (w.alloc (.cells #[.slice A m.work.length c, .slice A2 m.roads.length c2] 55)) 65 #[.slice none 0 0, .slice none 0 0]).alloc (.cells #[.slice none 0 0, .slice none 0 0] 65)
  have hV := Blk.new ((w.alloc (.cells #[.slice A m.work.length c, .slice A2 m.roads.length c2] 55)).alloc (.cells #[.slice none 0 0, .slice none 0 0] 65)) 65 #[.slice none 0 0, .slice none 0 0]
  rw [World.size_alloc] at hU
  rw [World.size_alloc, World.size_alloc] at hV
  have HS := hid (show ∃ Bo, w.heap.size + 1 + 1 = Bo ∧ WMapI m A c A2 c2 Bo (.slice none 0 0) (.slice none 0 0) 0 0 w (((w.alloc (.cells #[.slice A m.work.length c, .slice A2 m.roads.length c2] 55)).alloc (.cells #[.slice none 0 0, .slice none 0 0] 65)).alloc (.cells #[.slice none 0 0, .slice none 0 0] 65)) from ⟨_, rfl, hT, hU, hV, ⟨rfl, .inl ⟨rfl, rfl⟩⟩, ⟨rfl, .inl ⟨rfl, rfl⟩⟩, hB3, by omega⟩)
  have HA := hid h
  clear hB hB2 hB3 hT hU hV h
  go_enter Tryz.func15, Tryz.ntmps15
  go_wp2
  obtain ⟨Bo, hBo, h5⟩ := HS.out
  rw [hBo]
  clear HS hBo
  have H5 := hid h5
  clear h5
  go_loopw [4] (fun i W => ∃ (k : Nat) (v1 : Value), i = .int .i64 k ∧ k ≤ m.work.length ∧ WMapI m A c A2 c2 Bo v1 (.slice none 0 0) k 0 w W) (fun i _ => m.work.length - (intOf i).toNat)
  case atStart => exact ⟨0, _, rfl, Nat.zero_le _, H5.out⟩
  case round =>
    clear H5
    obtain ⟨k, v1, rfl, hk, hi⟩ := hrel
    have HI := hid hi
    obtain ⟨t0, t1⟩ := hi.bt.c2
    have hsz := hi.bl.size
    clear hi
    by_cases hlt : k < m.work.length
    · have hkI : (k : Int) < (m.work.length : Int) := by omega
      obtain ⟨s, hs⟩ : ∃ s, m.work[k]? = some s := ⟨_, List.getElem?_eq_getElem hlt⟩
      obtain ⟨aa, eA, g1, f0, f1⟩ := (HA.out.at_ HI.out.bl).iw k s hs
      subst eA
      have HSS := hid hs
      have HX := hid (And.intro HI.out (And.intro f0 f1))
      clear hs g1 f0 f1 HI
      go_wp2
      refine (wpIn_wide (n := 0)).1 ?_
      refine wpIn_region_each 9 (fun i v W' => match i with | 0 => v = .pointer (some ⟨Bo, 0, none⟩) | 1 => v = v1 | 2 => v = .pointer (some ⟨w.heap.size, 0, none⟩) | 3 => v = .slice (some aa) m.work.length c | 4 => v = .int .i64 (k : Int) | 5 => v = .pointer (some (aa.add (k * 2))) | 6 => v = .agg #[.int .i64 s.a, .int .i64 s.b] | 7 => v = .agg #[.int .i64 s.a, .int .i64 s.b] | 8 => ∃ gl, v = .slice (some ⟨gl, 0, none⟩) 1 1 ∧ Blk W' gl 87 (jnL s).toArray | _ => True) (fun A B => Below A.heap.size A B) (fun _ _ => True) (by kernel_rfl) (by kernel_rfl) ?_ (fun h k => h.trans (k.mono h.size)) ⟨rfl, rfl, rfl, Nat.le_refl _, fun _ _ => rfl⟩ trivial (by kernel_rfl) ?_ ?_
      · intro i v W1 W2 hb h
        match i, h with
        | 0, h => exact h
        | 1, h => exact h
        | 2, h => exact h
        | 3, h => exact h
        | 4, h => exact h
        | 5, h => exact h
        | 6, h => exact h
        | 7, h => exact h
        | 8, h =>
          obtain ⟨gl, rfl, h1⟩ := h
          exact ⟨_, rfl, h1.keep hb⟩
        | i + 9, h => trivial
      · refine ⟨?_, ?_, ?_, ?_, ?_, ?_, ?_, ?_, ?_, trivial⟩
        · -- 0
          intro li a1 W2 hA K hK
          have e3 := hA.par 3 (by kernel_rfl)
          refine opStep none 0 rfl rfl (fun c hc => by cases hc) ?_
          go_simp
          exact hK _ _ rfl (Below.refl _ _) trivial
        · -- 1
          intro li a1 W2 hA K hK
          have e14 : a1.tmps.getD 14 undef = .pointer (some ⟨Bo, 0, none⟩) := hA.val 0 14 (by kernel_rfl) (by kernel_rfl)
          obtain ⟨q1, _⟩ := (HX.out.1.bo.keep hA.st).c2
          refine opStep none 0 rfl rfl (fun c hc => by cases hc) ?_
          go_simp
          exact hK _ _ rfl (Below.refl _ _) trivial
        · -- 2
          intro li a1 W2 hA K hK
          have e1 := hA.par 1 (by kernel_rfl)
          refine opStep none 0 rfl rfl (fun c hc => by cases hc) ?_
          go_simp
          exact hK _ _ rfl (Below.refl _ _) trivial
        · -- 3
          intro li a1 W2 hA K hK
          have e16 : a1.tmps.getD 16 undef = .pointer (some ⟨w.heap.size, 0, none⟩) := hA.val 2 16 (by kernel_rfl) (by kernel_rfl)
          obtain ⟨q1, _⟩ := (HX.out.1.bt.keep hA.st).c2
          refine opStep none 0 rfl rfl (fun c hc => by cases hc) ?_
          go_simp
          exact hK _ _ rfl (Below.refl _ _) trivial
        · -- 4
          intro li a1 W2 hA K hK
          have e4 := hA.par 4 (by kernel_rfl)
          refine opStep none 0 rfl rfl (fun c hc => by cases hc) ?_
          go_simp
          exact hK _ _ rfl (Below.refl _ _) trivial
        · -- 5
          intro li a1 W2 hA K hK
          have e17 : a1.tmps.getD 17 undef = .slice (some aa) m.work.length c := hA.val 3 17 (by kernel_rfl) (by kernel_rfl)
          have e18 : a1.tmps.getD 18 undef = .int .i64 (k : Int) := hA.val 4 18 (by kernel_rfl) (by kernel_rfl)
          refine opStep none 0 rfl rfl (fun c hc => by cases hc) ?_
          go_simp
          exact hK _ _ (by first | rfl | exact congrArg (fun q => Value.pointer (some q)) (add_blk _ _)) (Below.refl _ _) trivial
        · -- 6
          intro li a1 W2 hA K hK
          have e19 : a1.tmps.getD 19 undef = .pointer (some (aa.add (k * 2))) := hA.val 5 19 (by kernel_rfl) (by kernel_rfl)
          have q1 := (hA.st.cell (World.block_lt_of_cell? _ _ HX.out.2.1)).trans HX.out.2.1
          have q2 := (hA.st.cell (World.block_lt_of_cell? _ _ HX.out.2.2)).trans HX.out.2.2
          refine opStep none 0 rfl rfl (fun c hc => by cases hc) ?_
          go_simp
          exact hK _ _ rfl (Below.refl _ _) trivial
        · -- 7
          intro li a1 W2 hA K hK
          have e20 : a1.tmps.getD 20 undef = .agg #[.int .i64 s.a, .int .i64 s.b] := hA.val 6 20 (by kernel_rfl) (by kernel_rfl)
          refine opStep none 0 rfl rfl (fun c hc => by cases hc) ?_
          go_simp
          refine (wto_any s.a s.b W2).mono ?_
          rintro e W3 ⟨rfl, hb3⟩
          exact hK _ _ rfl hb3 trivial
        · -- 8
          intro li a1 W2 hA K hK
          have e21 : a1.tmps.getD 21 undef = .agg #[.int .i64 s.a, .int .i64 s.b] := hA.val 7 21 (by kernel_rfl) (by kernel_rfl)
          have e21' := e21
          rw [Array.getD_eq_getD_getElem?] at e21'
          refine opStep none 0 rfl rfl (fun c hc => by cases hc) ?_
          go_simp
          exact hK _ _ ⟨_, rfl, Blk.new _ _ _⟩ ((Below.refl _ _).alloc (Nat.le_refl _) _) trivial
      · intro li a1 W2 hD
        obtain ⟨gl, e22, hgl⟩ := hD.val 8 22 (by kernel_rfl) (by kernel_rfl)
        have e15 : a1.tmps.getD 15 undef = v1 := hD.val 1 15 (by kernel_rfl) (by kernel_rfl)
        have hst := hD.st
        have hI2 := HX.out.1.at_ hst
        have hsz2 := hI2.bl.size
        obtain ⟨i0, hi0, hz0, hz1, hz2⟩ := info_parts wrng_info
        obtain ⟨v', w7, hrun, hr7, hg7, _, _⟩ := run_append_own_at (P := Tryz.prog) W2 w.heap.size 62 62 87 i0 (.agg #[.int .i64 0, .int .i64 0]) 2 16 Tryz.underlying62 hi0 hz0 hz1 hz2 rfl (by decide) v1 k _ hI2.s1 ⟨gl, 0, none⟩ 1 1 (jnL s) rfl (jn_blk hgl) (jnL_one _) (by simp only [maxLen]; omega) (by omega) (by omega)
        obtain ⟨g6, cap6, rfl⟩ := Go.ownsRow_succ hr7
        have HNX := hid (hI2.add1 HSS.out hg7 hr7)
        have hbo7 := blk_grown hI2.s1 hg7 hI2.bo (by decide)
        obtain ⟨u0, u1⟩ := hbo7.c2
        have uf := hbo7.frozen 0
        have ul := hbo7.lt
        have e3 := hD.par 3 (by kernel_rfl)
        have hkp2 := hD.keeps (ds := [14, 15, 16, 17, 18, 19, 20, 21, 22, 23, 24]) (by kernel_rfl)
        have hds := hD.size
        have hsz3 : a1.tmps.size = 51 := hD.size
        have hdd := hD.defers
        clear hst hr7 hg7 hgl hI2 hsz2 hbo7
        refine tail_val (i := 9) (v := .slice (some ⟨g6, 0, none⟩) (k + 1) cap6) (W' := w7) none 0 rfl rfl rfl (fun c hc => by cases hc) (by simp [execOp, resolve, invoke, builtin, Act.eval, e15, e22, hrun, Result.andThen]) (by rw [hsz3]; decide) ?_
        intro a3 s3 d3 f3 o3
        have hkp3 := keeps_then hkp2 o3 (by decide)
        have e3' := (o3 3 (by decide)).trans e3
        refine tail_val (i := 10) (v := .pointer (some ⟨Bo, 0, none⟩)) (W' := w7) none 0 rfl rfl rfl (fun c hc => by cases hc) (by go_simp) (by rw [s3, hsz3]; decide) ?_
        intro a4 s4 d4 f4 o4
        have hkp4 := keeps_then hkp3 o4 (by decide)
        have f3' := (o4 23 (by decide)).trans f3
        refine tail_store (i := 11) (W' := w7.setCell ⟨Bo, 0, none⟩ (.slice (some ⟨g6, 0, none⟩) (k + 1) cap6)) none 0 rfl rfl rfl (fun c hc => by cases hc) (by go_simp) ?_
        have e := act_mix [14, 15, 16, 17, 18, 19, 20, 21, 22, 23, 24] (s4.trans (s3.trans hds)) (d4.trans (d3.trans hdd)) (fun i _ hc => hkp4 i hc)
        generalize (fun i => a4.tmps.getD i undef) = g' at e
        refine wpListIn_nil ?_
        rw [e]
        clear e hD hkp2 hkp3 hkp4 s3 s4 d3 d4 f3 f4 o3 o4 e15 e22 e3 e3' f3' hds hdd hsz3 hi0 hz0 hz1 hz2 hrun u0 u1 uf ul HX
        simp only [mix, List.contains_cons, List.contains_nil, Nat.reduceAdd, Nat.reduceBEq, Bool.or_false, Bool.or_true, cond_true, cond_false]
        go_wp2
        go_roundw
        case rel => exact ⟨k + 1, _, by go_num, by omega, HNX.out⟩
        case measure => first | (simp [intOf]; done) | (simp [intOf]; omega)
    · have hkI : decide ((k : Int) < (m.work.length : Int)) = false := by simp; omega
      obtain rfl : k = m.work.length := by omega
      have H5 := HI
      clear HI
      go_wp2
      clear t0 t1 hsz
      generalize wr = w6 at *
      go_loopw [5] (fun i W => ∃ (k : Nat) (v2 : Value), i = .int .i64 k ∧ k ≤ m.roads.length ∧ WMapI m A c A2 c2 Bo v1 v2 m.work.length k w W) (fun i _ => m.roads.length - (intOf i).toNat)
      case atStart => exact ⟨0, _, rfl, Nat.zero_le _, H5.out⟩
      case round =>
        clear H5
        obtain ⟨k, v2, rfl, hk, hi⟩ := hrel
        have HI := hid hi
        obtain ⟨t0, t1⟩ := hi.bt.c2
        have hsz := hi.bl.size
        clear hi
        by_cases hlt : k < m.roads.length
        · have hkI : (k : Int) < (m.roads.length : Int) := by omega
          obtain ⟨s, hs⟩ : ∃ s, m.roads[k]? = some s := ⟨_, List.getElem?_eq_getElem hlt⟩
          obtain ⟨aa, eA, g1, f0, f1, f2, f3⟩ := (HA.out.at_ HI.out.bl).ir k s hs
          subst eA
          have HSS := hid hs
          have hbx := below_box (w := wr) #[.int .i64 s.a, .int .i64 s.b, .int .i64 s.lo, .int .i64 s.hi] 75
          have HX := hid (And.intro (HI.out.at_ hbx) (Blk.new wr 75 #[.int .i64 s.a, .int .i64 s.b, .int .i64 s.lo, .int .i64 s.hi]))
          clear hs g1 hbx
          go_wp2
          clear f0 f1 f2 f3 t0 t1 HI
          generalize wr.alloc (.cells #[.int .i64 s.a, .int .i64 s.b, .int .i64 s.lo, .int .i64 s.hi] 75) = w2 at *
          generalize wr.heap.size = z at *
          refine (wpIn_wide (n := 0)).1 ?_
          refine wpIn_region_each 11 (fun i v W' => match i with | 0 => v = .pointer (some ⟨Bo, 1, none⟩) | 1 => v = v2 | 2 => v = .pointer (some ⟨z, 0, none⟩) | 3 => v = .int .i64 s.a | 4 => v = .pointer (some ⟨z, 1, none⟩) | 5 => v = .int .i64 s.b | 6 => v = .pointer (some ⟨z, 2, none⟩) | 7 => v = .agg #[.int .i64 s.lo, .int .i64 s.hi] | 8 => v = .agg #[.int .i64 s.lo, .int .i64 s.hi] | 9 => v = .agg #[.int .i64 s.a, .int .i64 s.b, .int .i64 s.lo, .int .i64 s.hi] | 10 => ∃ gl, v = .slice (some ⟨gl, 0, none⟩) 1 1 ∧ Blk W' gl 115 (rdL s).toArray | _ => True) (fun A B => Below A.heap.size A B) (fun _ _ => True) (by kernel_rfl) (by kernel_rfl) ?_ (fun h k => h.trans (k.mono h.size)) ⟨rfl, rfl, rfl, Nat.le_refl _, fun _ _ => rfl⟩ trivial (by kernel_rfl) ?_ ?_
          · intro i v W1 W2 hb h
            match i, h with
            | 0, h => exact h
            | 1, h => exact h
            | 2, h => exact h
            | 3, h => exact h
            | 4, h => exact h
            | 5, h => exact h
            | 6, h => exact h
            | 7, h => exact h
            | 8, h => exact h
            | 9, h => exact h
            | 10, h =>
              obtain ⟨gl, rfl, h1⟩ := h
              exact ⟨_, rfl, h1.keep hb⟩
            | i + 11, h => trivial
          · refine ⟨?_, ?_, ?_, ?_, ?_, ?_, ?_, ?_, ?_, ?_, ?_, trivial⟩
            · -- 0
              intro li a1 W2 hA K hK
              have e3 := hA.par 3 (by kernel_rfl)
              refine opStep none 0 rfl rfl (fun c hc => by cases hc) ?_
              go_simp
              exact hK _ _ rfl (Below.refl _ _) trivial
            · -- 1
              intro li a1 W2 hA K hK
              have e37 : a1.tmps.getD 37 undef = .pointer (some ⟨Bo, 1, none⟩) := hA.val 0 37 (by kernel_rfl) (by kernel_rfl)
              obtain ⟨_, q1⟩ := (HX.out.1.bo.keep hA.st).c2
              refine opStep none 0 rfl rfl (fun c hc => by cases hc) ?_
              go_simp
              exact hK _ _ rfl (Below.refl _ _) trivial
            · -- 2
              intro li a1 W2 hA K hK
              have e6 := hA.par 6 (by kernel_rfl)
              refine opStep none 0 rfl rfl (fun c hc => by cases hc) ?_
              go_simp
              exact hK _ _ rfl (Below.refl _ _) trivial
            · -- 3
              intro li a1 W2 hA K hK
              have e39 : a1.tmps.getD 39 undef = .pointer (some ⟨z, 0, none⟩) := hA.val 2 39 (by kernel_rfl) (by kernel_rfl)
              obtain ⟨q1, q2, q3, q4⟩ := (HX.out.2.keep hA.st).c4
              refine opStep none 0 rfl rfl (fun c hc => by cases hc) ?_
              go_simp
              exact hK _ _ rfl (Below.refl _ _) trivial
            · -- 4
              intro li a1 W2 hA K hK
              have e6 := hA.par 6 (by kernel_rfl)
              refine opStep none 0 rfl rfl (fun c hc => by cases hc) ?_
              go_simp
              exact hK _ _ rfl (Below.refl _ _) trivial
            · -- 5
              intro li a1 W2 hA K hK
              have e41 : a1.tmps.getD 41 undef = .pointer (some ⟨z, 1, none⟩) := hA.val 4 41 (by kernel_rfl) (by kernel_rfl)
              obtain ⟨q1, q2, q3, q4⟩ := (HX.out.2.keep hA.st).c4
              refine opStep none 0 rfl rfl (fun c hc => by cases hc) ?_
              go_simp
              exact hK _ _ rfl (Below.refl _ _) trivial
            · -- 6
              intro li a1 W2 hA K hK
              have e6 := hA.par 6 (by kernel_rfl)
              refine opStep none 0 rfl rfl (fun c hc => by cases hc) ?_
              go_simp
              exact hK _ _ rfl (Below.refl _ _) trivial
            · -- 7
              intro li a1 W2 hA K hK
              have e43 : a1.tmps.getD 43 undef = .pointer (some ⟨z, 2, none⟩) := hA.val 6 43 (by kernel_rfl) (by kernel_rfl)
              obtain ⟨q1, q2, q3, q4⟩ := (HX.out.2.keep hA.st).c4
              refine opStep none 0 rfl rfl (fun c hc => by cases hc) ?_
              go_simp
              exact hK _ _ rfl (Below.refl _ _) trivial
            · -- 8
              intro li a1 W2 hA K hK
              have e44 : a1.tmps.getD 44 undef = .agg #[.int .i64 s.lo, .int .i64 s.hi] := hA.val 7 44 (by kernel_rfl) (by kernel_rfl)
              refine opStep none 0 rfl rfl (fun c hc => by cases hc) ?_
              go_simp
              refine (wto_any s.lo s.hi W2).mono ?_
              rintro e W3 ⟨rfl, hb3⟩
              exact hK _ _ rfl hb3 trivial
            · -- 9
              intro li a1 W2 hA K hK
              have e40 : a1.tmps.getD 40 undef = .int .i64 s.a := hA.val 3 40 (by kernel_rfl) (by kernel_rfl)
              have e42 : a1.tmps.getD 42 undef = .int .i64 s.b := hA.val 5 42 (by kernel_rfl) (by kernel_rfl)
              have e45 : a1.tmps.getD 45 undef = .agg #[.int .i64 s.lo, .int .i64 s.hi] := hA.val 8 45 (by kernel_rfl) (by kernel_rfl)
              have e40' := e40
              have e42' := e42
              have e45' := e45
              rw [Array.getD_eq_getD_getElem?] at e40' e42' e45'
              refine opStep none 0 rfl rfl (fun c hc => by cases hc) ?_
              go_simp
              exact hK _ _ rfl (Below.refl _ _) trivial
            · -- 10
              intro li a1 W2 hA K hK
              have e46 : a1.tmps.getD 46 undef = .agg #[.int .i64 s.a, .int .i64 s.b, .int .i64 s.lo, .int .i64 s.hi] := hA.val 9 46 (by kernel_rfl) (by kernel_rfl)
              have e46' := e46
              rw [Array.getD_eq_getD_getElem?] at e46'
              refine opStep none 0 rfl rfl (fun c hc => by cases hc) ?_
              go_simp
              exact hK _ _ ⟨_, rfl, Blk.new _ _ _⟩ ((Below.refl _ _).alloc (Nat.le_refl _) _) trivial
          · intro li a1 W2 hD
            obtain ⟨gl, e47, hgl⟩ := hD.val 10 47 (by kernel_rfl) (by kernel_rfl)
            have e38 : a1.tmps.getD 38 undef = v2 := hD.val 1 38 (by kernel_rfl) (by kernel_rfl)
            have hst := hD.st
            have hI2 := HX.out.1.at_ hst
            have hsz2 := hI2.bl.size
            obtain ⟨i0, hi0, hz0, hz1, hz2⟩ := info_parts wroad_info
            obtain ⟨v', w7, hrun, hr7, hg7, _, _⟩ := run_append_own_at (P := Tryz.prog) W2 w.heap.size 63 63 115 i0 (.agg #[.int .i64 0, .int .i64 0, .int .i64 0, .int .i64 0]) 4 32 Tryz.underlying63 hi0 hz0 hz1 hz2 rfl (by decide) v2 k _ hI2.s2 ⟨gl, 0, none⟩ 1 1 (rdL s) rfl (rd_blk hgl) (rdL_one _) (by simp only [maxLen]; omega) (by omega) (by omega)
            obtain ⟨g6, cap6, rfl⟩ := Go.ownsRow_succ hr7
            have HNX := hid (hI2.add2 HSS.out hg7 hr7)
            have hbo7 := blk_grown hI2.s2 hg7 hI2.bo (by decide)
            obtain ⟨u0, u1⟩ := hbo7.c2
            have uf := hbo7.frozen 1
            have ul := hbo7.lt
            have e3 := hD.par 3 (by kernel_rfl)
            have hkp2 := hD.keeps (ds := [37, 38, 39, 40, 41, 42, 43, 44, 45, 46, 47, 48, 49]) (by kernel_rfl)
            have hds := hD.size
            have hsz3 : a1.tmps.size = 51 := hD.size
            have hdd := hD.defers
            clear hst hr7 hg7 hgl hI2 hsz2 hbo7
            refine tail_val (i := 11) (v := .slice (some ⟨g6, 0, none⟩) (k + 1) cap6) (W' := w7) none 0 rfl rfl rfl (fun c hc => by cases hc) (by simp [execOp, resolve, invoke, builtin, Act.eval, e38, e47, hrun, Result.andThen]) (by rw [hsz3]; decide) ?_
            intro a3 s3 d3 f3 o3
            have hkp3 := keeps_then hkp2 o3 (by decide)
            have e3' := (o3 3 (by decide)).trans e3
            refine tail_val (i := 12) (v := .pointer (some ⟨Bo, 1, none⟩)) (W' := w7) none 0 rfl rfl rfl (fun c hc => by cases hc) (by go_simp) (by rw [s3, hsz3]; decide) ?_
            intro a4 s4 d4 f4 o4
            have hkp4 := keeps_then hkp3 o4 (by decide)
            have f3' := (o4 48 (by decide)).trans f3
            refine tail_store (i := 13) (W' := w7.setCell ⟨Bo, 1, none⟩ (.slice (some ⟨g6, 0, none⟩) (k + 1) cap6)) none 0 rfl rfl rfl (fun c hc => by cases hc) (by go_simp) ?_
            have e := act_mix [37, 38, 39, 40, 41, 42, 43, 44, 45, 46, 47, 48, 49] (s4.trans (s3.trans hds)) (d4.trans (d3.trans hdd)) (fun i _ hc => hkp4 i hc)
            generalize (fun i => a4.tmps.getD i undef) = g' at e
            refine wpListIn_nil ?_
            rw [e]
            clear e hD hkp2 hkp3 hkp4 s3 s4 d3 d4 f3 f4 o3 o4 e38 e47 e3 e3' f3' hds hdd hsz3 hi0 hz0 hz1 hz2 hrun u0 u1 uf ul HX
            simp only [mix, List.contains_cons, List.contains_nil, Nat.reduceAdd, Nat.reduceBEq, Bool.or_false, Bool.or_true, cond_true, cond_false]
            go_wp2
            go_roundw
            case rel => exact ⟨k + 1, _, by go_num, by omega, HNX.out⟩
            case measure => first | (simp [intOf]; done) | (simp [intOf]; omega)
        · have hkI : decide ((k : Int) < (m.roads.length : Int)) = false := by simp; omega
          obtain rfl : k = m.roads.length := by omega
          obtain ⟨c0, c1⟩ := HI.out.bo.c2
          obtain ⟨d0, d1⟩ := HI.out.b2.c2
          have df0 := HI.out.b2.frozen 0
          have df1 := HI.out.b2.frozen 1
          have dl := HI.out.b2.lt
          have hgs := grown2 wr (w.heap.size + 1) v1 v2
          have hs1 := HI.out.s1
          have hs2 := HI.out.s2
          rw [List.take_length] at hs1 hs2
          have hs1' := hs1.kept hgs (mown_ne hs1 (mblk_not HI.out.b2 (by decide)))
          have hs2' := hs2.kept hgs (mown_ne hs2 (mblk_not HI.out.b2 (by decide)))
          obtain ⟨A7, c7, e7, r1, r2, r3, _, _⟩ := own_jns hs1' rfl
          obtain ⟨A8, c8, e8, r4, r5, r6, _, _⟩ := own_rds hs2' rfl
          have hbl : Blk (set2 wr (w.heap.size + 1) v1 v2) (w.heap.size + 1) 65 #[v1, v2] := (HI.out.b2.set_ 0 v1).set_ 1 v2
          have HF := hid (show WIn m A7 c7 A8 c8 (set2 wr (w.heap.size + 1) v1 v2) ∧ Below w.heap.size w (set2 wr (w.heap.size + 1) v1 v2) ∧ Blk (set2 wr (w.heap.size + 1) v1 v2) (w.heap.size + 1) 65 #[v1, v2] from
            ⟨⟨r1, r4, r2, r3, r5, r6⟩, HI.out.bl.grown hgs HI.out.bl.size (fun q hq => by cases hq; omega), hbl⟩)
          subst e7 e8
          clear hgs hs1 hs2 hs1' hs2' r1 r2 r3 r4 r5 r6 hbl HI
          go_wp2
          refine gen (p := bodyPost _ _ _ _ _) (fun W => WIn m A7 c7 A8 c8 W ∧ Below w.heap.size w W ∧ Blk W (w.heap.size + 1) 65 #[.slice A7 m.work.length c7, .slice A8 m.roads.length c8]) HF.out ?_
          rintro W ⟨hm, hb, hk⟩
          obtain ⟨e0, e1⟩ := hk.c2
          exact bodyPost_ret (v := .agg #[.slice A7 m.work.length c7, .slice A8 m.roads.length c8]) (by simp [results, Tryz.results15, go_sem, e0, e1]) rfl ⟨(A7, c7), (A8, c8), rfl, hm, hb⟩
end Go.Proofs.YtlnamjhgbdacbaaGreat
/- The reference of layer 1: a map in which it finds no fault is one without fault. Conditions stand at each theorem. -/
namespace Go.Proofs.YtlnamjhgbdacbaaGreat
open Go.RowKit Go.Shelf

theorem rwin_any (n lo hi : Int) (w : World) : Calls Tryz.prog 33 #[.int .i64 n, .int .i64 lo, .int .i64 hi] w fun e w' => e = .returned (.bool (inB n lo hi)) ∧ w = w' := by
  by_cases h1 : lo ≤ n
  · have hd : inB n lo hi = decide (n ≤ hi) := by simp [inB, h1]
    go_enter Tryz.func33, Tryz.ntmps33
    go_wp2
    go_ret
    exact ⟨ret_bool hd.symm, rfl⟩
  · have hd : inB n lo hi = false := by simp [inB, h1]
    have hd1 : decide (lo ≤ n) = false := by simp; omega
    have HD := hid hd
    clear hd
    go_enter Tryz.func33, Tryz.ntmps33
    go_wp2
    go_ret
    exact ⟨ret_bool HD.out.symm, rfl⟩
set_option maxHeartbeats 1000000 in
theorem rwjoins_any (r : Rd) (x y : Int) (w : World) : Calls Tryz.prog 34 #[.agg #[.int .i64 r.a, .int .i64 r.b, .int .i64 r.lo, .int .i64 r.hi], .int .i64 x, .int .i64 y] w fun e w' => e = .returned (.bool (joinsB r x y)) ∧ Below w.heap.size w w' := by
  have hB := below_box (w := w) #[.int .i64 r.a, .int .i64 r.b, .int .i64 r.lo, .int .i64 r.hi] 75
  have HB := hid hB
  clear hB
  obtain ⟨ra, rb, rl, rh⟩ := r
  by_cases h1 : ra = x
  · by_cases h2 : rb = y
    · have hd : joinsB ⟨ra, rb, rl, rh⟩ x y = true := by simp [joinsB, h1, h2]
      rw [hd]; clear hd
      have h1' : (ra == x) = true := by simp [h1]
      have h2' : (rb == y) = true := by simp [h2]
      clear h1 h2
      go_enter Tryz.func34, Tryz.ntmps34
      go_wp2
      go_ret
      exact ⟨rfl, HB.out⟩
    · have hd : joinsB ⟨ra, rb, rl, rh⟩ x y = ((ra == y) && (rb == x)) := by simp [joinsB, h2]
      rw [hd]; clear hd
      have h1' : (ra == x) = true := by simp [h1]
      have h2' : (rb == y) = false := by simp [h2]
      clear h1 h2
      cases h3 : (ra == y)
      · go_enter Tryz.func34, Tryz.ntmps34
        go_wp2
        go_ret
        exact ⟨rfl, HB.out⟩
      · go_enter Tryz.func34, Tryz.ntmps34
        go_wp2
        go_ret
        exact ⟨rfl, HB.out⟩
  · have hd : joinsB ⟨ra, rb, rl, rh⟩ x y = ((ra == y) && (rb == x)) := by simp [joinsB, h1]
    rw [hd]; clear hd
    have h1' : (ra == x) = false := by simp [h1]
    clear h1
    cases h3 : (ra == y)
    · go_enter Tryz.func34, Tryz.ntmps34
      go_wp2
      go_ret
      exact ⟨rfl, HB.out⟩
    · go_enter Tryz.func34, Tryz.ntmps34
      go_wp2
      go_ret
      exact ⟨rfl, HB.out⟩
theorem take_more {α : Type} {l : List α} {k : Nat} {x : α} (h : l[k]? = some x) : l.take (k + 1) = l.take k ++ [x] := by
  obtain ⟨h1, h2⟩ := List.getElem?_eq_some_iff.1 h
  rw [List.take_succ_eq_append_getElem h1, h2]
/-- the first k roads are good -/
def RdTo (m : WMD) (k : Nat) : Prop := ∀ (i : Nat) (r : Rd), i < k → m.roads[i]? = some r → (0 ≤ r.a ∧ r.a < m.work.length ∧ 0 ≤ r.b ∧ r.b < m.work.length ∧ r.a ≠ r.b ∧ 1 ≤ r.lo ∧ r.lo ≤ r.hi ∧ r.hi ≤ 50) ∧ ∀ (j : Nat) (q : Rd), m.roads[j]? = some q → j < i → joinsB q r.a r.b = false
def WkTo (m : WMD) (k : Nat) : Prop := ∀ (i : Nat) (x : Jn), i < k → m.work[i]? = some x → 0 ≤ x.a ∧ x.a ≤ x.b ∧ x.b ≤ 50
theorem okw_of {m : WMD} (h1 : 1 ≤ m.work.length) (h8 : m.work.length ≤ 8) (h20 : m.roads.length ≤ 20) (hw : WkTo m m.work.length) (hr : RdTo m m.roads.length) : OkW m := by
  refine ⟨h1, h8, h20, fun x hx => ?_, fun r hr' => ?_, fun i k r q hi hk hlt => ?_⟩
  · obtain ⟨i, hi⟩ := List.getElem?_of_mem hx
    exact hw i x (List.getElem?_eq_some_iff.1 hi).1 hi
  · obtain ⟨i, hi⟩ := List.getElem?_of_mem hr'
    exact (hr i r (List.getElem?_eq_some_iff.1 hi).1 hi).1
  · exact (hr i r (List.getElem?_eq_some_iff.1 hi).1 hi).2 k q hk hlt
/-- an answer that is 0 at most for a map without fault -/
def GivesFlt (m : WMD) (w : World) (e : Ending) (w' : World) : Prop := ∃ z : Int, e = .returned (.int .i64 z) ∧ (z = 0 → OkW m) ∧ Below w.heap.size w w'
set_option maxRecDepth 100000 in
set_option maxHeartbeats 4000000 in
theorem rwfault_any (m : WMD) (A : Option Addr) (c : Nat) (A2 : Option Addr) (c2 : Nat) (w : World) (h : WIn m A c A2 c2 w) :
    Calls Tryz.prog 13 #[.agg #[.slice A m.work.length c, .slice A2 m.roads.length c2]] w (GivesFlt m w) := by
  have hm1 := h.m1
  have hl1 := h.l1
  have hm2 := h.m2
  have hl2 := h.l2
  unfold maxLen at hm1 hm2
  have hB := below_box (w := w) #[.slice A m.work.length c, .slice A2 m.roads.length c2] 55
  have hT := Blk.new w 55 #[.slice A m.work.length c, .slice A2 m.roads.length c2]
  have HB := hid hB
  have HT := hid hT
  have HA := hid h
  obtain ⟨t0, t1⟩ := hT.c2
  clear hB hT h
  by_cases ho : 8 < m.work.length
  · have hoB : decide (8 < (m.work.length : Int)) = true := by simp; omega
    clear ho
    go_enter Tryz.func13, Tryz.ntmps13
    go_wp2
    go_ret
    exact ⟨3, rfl, (fun e => absurd e (by decide)), HB.out⟩
  have hoB : decide (8 < (m.work.length : Int)) = false := by simp; omega
  by_cases hs : 20 < m.roads.length
  · have hsB : decide (20 < (m.roads.length : Int)) = true := by simp; omega
    clear ho hs
    go_enter Tryz.func13, Tryz.ntmps13
    go_wp2
    go_ret
    exact ⟨3, rfl, (fun e => absurd e (by decide)), HB.out⟩
  have hsB : decide (20 < (m.roads.length : Int)) = false := by simp; omega
  have hw8 : m.work.length ≤ 8 := by omega
  have hr20 : m.roads.length ≤ 20 := by omega
  clear ho hs
  by_cases hz : m.work.length = 0
  · have hzB : ((m.work.length : Int) == 0) = true := beq_iff_eq.2 (by omega)
    clear hz
    go_enter Tryz.func13, Tryz.ntmps13
    go_wp2
    go_ret
    exact ⟨1, rfl, (fun e => absurd e (by decide)), HB.out⟩
  have hzB : ((m.work.length : Int) == 0) = false := beq_eq_false_iff_ne.2 (by omega)
  have hw1 : 1 ≤ m.work.length := by omega
  clear hz
  go_enter Tryz.func13, Tryz.ntmps13
  go_wp2
  clear hoB hsB hzB t0 t1
  go_loopw [3] (fun i W => ∃ k : Nat, k ≤ m.work.length ∧ i = .int .i64 k ∧ WkTo m k ∧ Below w.heap.size w W ∧ Blk W w.heap.size 55 #[.slice A m.work.length c, .slice A2 m.roads.length c2]) (fun i _ => m.work.length - (intOf i).toNat)
  case atStart => exact ⟨0, Nat.zero_le _, rfl, (fun i x hi => absurd hi (Nat.not_lt_zero _)), HB.out, HT.out⟩
  case round =>
    obtain ⟨k, hk, rfl, hall, hbr, hbt⟩ := hrel
    obtain ⟨t0, t1⟩ := hbt.c2
    have htl := hbt.lt
    have HR := hid (And.intro hall (And.intro hbr hbt))
    clear hall hbr hbt HB HT
    by_cases hlt : k < m.work.length
    · have hkI : (k : Int) < (m.work.length : Int) := by omega
      obtain ⟨x, hx⟩ : ∃ x, m.work[k]? = some x := ⟨_, List.getElem?_eq_getElem hlt⟩
      obtain ⟨aa, eA, g1, f0, f1⟩ := (HA.out.at_ HR.out.2.1).iw k x hx
      subst eA
      have HX := hid hx
      have HB := hid (HR.out.2.1.trans ((below_box (w := wr) #[.int .i64 x.a, .int .i64 x.b] 67).mono HR.out.2.1.size))
      have HT := hid (HR.out.2.2.alloc (.cells #[.int .i64 x.a, .int .i64 x.b] 67))
      clear hx g1
      by_cases hq0 : inB x.a 0 x.b = true
      · have HQ0 := hid hq0
        by_cases hq1 : x.b ≤ 50
        · have hhB : decide (50 < x.b) = false := by simp; omega
          go_wp2_with fail
          refine (rwin_any _ _ _ _).mono ?_
          rintro e w2 ⟨rfl, rfl⟩
          have HNX := hid (show WkTo m (k + 1) from fun i y hi hy => by
            by_cases e : i = k
            · subst e
              rw [HX.out] at hy
              cases hy
              have := inB_iff.1 HQ0.out
              omega
            · exact HR.out.1 i y (by omega) hy)
          clear hq1
          go_wp2
          go_roundw
          case rel => exact ⟨k + 1, by omega, by go_num, HNX.out, HB.out, HT.out⟩
          case measure => first | (simp [intOf]; done) | (simp [intOf]; omega)
        · have hhB : decide (50 < x.b) = true := by simp; omega
          clear hq1
          go_wp2_with fail
          refine (rwin_any _ _ _ _).mono ?_
          rintro e w2 ⟨rfl, rfl⟩
          go_wp2
          go_ret
          exact ⟨1, rfl, (fun e => absurd e (by decide)), HB.out⟩
      · have hq0 : inB x.a 0 x.b = false := by simpa using hq0
        go_wp2_with fail
        refine (rwin_any _ _ _ _).mono ?_
        rintro e w2 ⟨rfl, rfl⟩
        go_wp2
        go_ret
        exact ⟨1, rfl, (fun e => absurd e (by decide)), HB.out⟩
    · have hkI : decide ((k : Int) < (m.work.length : Int)) = false := by simp; omega
      obtain rfl : k = m.work.length := by omega
      have HWK := hid HR.out.1
      have HB := hid HR.out.2.1
      have HT := hid HR.out.2.2
      clear HR htl
      go_wp2
      clear t0 t1
      generalize wr = w5 at *
      go_loopw [5] (fun i W => ∃ k : Nat, k ≤ m.roads.length ∧ i = .int .i64 k ∧ RdTo m k ∧ Below w.heap.size w W ∧ Blk W w.heap.size 55 #[.slice A m.work.length c, .slice A2 m.roads.length c2]) (fun i _ => m.roads.length - (intOf i).toNat)
      case atStart => exact ⟨0, Nat.zero_le _, rfl, (fun i x hi => absurd hi (Nat.not_lt_zero _)), HB.out, HT.out⟩
      case round =>
        obtain ⟨k, hk, rfl, hall, hbr, hbt⟩ := hrel
        obtain ⟨t0, t1⟩ := hbt.c2
        have htl := hbt.lt
        have HR := hid (And.intro hall (And.intro hbr hbt))
        clear hall hbr hbt HB HT
        by_cases hlt : k < m.roads.length
        · have hkI : (k : Int) < (m.roads.length : Int) := by omega
          obtain ⟨r, hr⟩ : ∃ r, m.roads[k]? = some r := ⟨_, List.getElem?_eq_getElem hlt⟩
          obtain ⟨aa, eA, g1, f0, f1, f2, f3⟩ := (HA.out.at_ HR.out.2.1).ir k r hr
          subst eA
          have HX := hid hr
          have HB := hid (HR.out.2.1.trans ((below_box (w := wr) #[.int .i64 r.a, .int .i64 r.b, .int .i64 r.lo, .int .i64 r.hi] 75).mono HR.out.2.1.size))
          have HT := hid (HR.out.2.2.alloc (.cells #[.int .i64 r.a, .int .i64 r.b, .int .i64 r.lo, .int .i64 r.hi] 75))
          have HZ := hid (Blk.new wr 75 #[.int .i64 r.a, .int .i64 r.b, .int .i64 r.lo, .int .i64 r.hi])
          have hwN : IntKind.i64.wrap ((m.work.length : Int) - 1) = (m.work.length : Int) - 1 := IntWalk.i64_in _ (by omega)
          clear hr g1
          by_cases hq0 : inB r.a 0 ((m.work.length : Int) - 1) = true
          · have HQ0 := hid hq0
            by_cases hq1 : inB r.b 0 ((m.work.length : Int) - 1) = true
            · have HQ1 := hid hq1
              by_cases hq2 : r.a = r.b
              · have hq2B : (r.a == r.b) = true := by simp [hq2]
                clear hq2
                go_wp2_with fail
                refine (rwin_any _ _ _ _).mono ?_
                rintro e w2 ⟨rfl, rfl⟩
                go_wp2_with fail
                refine (rwin_any _ _ _ _).mono ?_
                rintro e w2 ⟨rfl, rfl⟩
                go_wp2
                go_ret
                exact ⟨1, rfl, (fun e => absurd e (by decide)), HB.out⟩
              · have hq2B : (r.a == r.b) = false := by simp [hq2]
                have HQ2 := hid hq2
                clear hq2
                by_cases hq3 : inB r.lo 1 r.hi = true
                · have HQ3 := hid hq3
                  by_cases hq4 : r.hi ≤ 50
                  · have HQ4 := hid hq4
                    have hhB : decide (50 < r.hi) = false := by simp; omega
                    clear hq4
                    go_wp2_with fail
                    refine (rwin_any _ _ _ _).mono ?_
                    rintro e w2 ⟨rfl, rfl⟩
                    go_wp2_with fail
                    refine (rwin_any _ _ _ _).mono ?_
                    rintro e w2 ⟨rfl, rfl⟩
                    go_wp2_with fail
                    refine (rwin_any _ _ _ _).mono ?_
                    rintro e w2 ⟨rfl, rfl⟩
                    go_wp2
                    clear t0 t1 f0 f1 f2 f3 hq0 hq1 hq2B hq3 hhB
                    obtain ⟨zr, hzr⟩ : ∃ zr, wr.heap.size = zr := ⟨_, rfl⟩
                    refine gen (p := Code.wp _ _ _ _) (fun W => Below w.heap.size w W ∧ Blk W w.heap.size 55 #[.slice A m.work.length c, .slice (some aa) m.roads.length c2] ∧ Blk W zr 75 #[.int .i64 r.a, .int .i64 r.b, .int .i64 r.lo, .int .i64 r.hi]) ⟨HB.out, HT.out, by rw [← hzr]; exact HZ.out⟩ ?_
                    rw [hzr]
                    have HRD := hid HR.out.1
                    clear hzr HB HT HZ HR htl
                    rintro W1 h1
                    have H1 := hid h1
                    clear h1
                    go_loopw [7] (fun i W => ∃ j : Nat, j ≤ k ∧ i = .int .i64 j ∧ (∀ (i : Nat) (q : Rd), i < j → m.roads[i]? = some q → joinsB q r.a r.b = false) ∧ Below w.heap.size w W ∧ Blk W w.heap.size 55 #[.slice A m.work.length c, .slice (some aa) m.roads.length c2] ∧ Blk W zr 75 #[.int .i64 r.a, .int .i64 r.b, .int .i64 r.lo, .int .i64 r.hi]) (fun i _ => k - (intOf i).toNat)
                    case atStart => exact ⟨0, Nat.zero_le _, rfl, (fun i q hi => absurd hi (Nat.not_lt_zero _)), H1.out⟩
                    case round =>
                      clear H1
                      obtain ⟨j, hj, rfl, hno, hW⟩ := hrel
                      have HNO := hid hno
                      have HW := hid hW
                      clear hno hW
                      by_cases hlj : j < k
                      · have hjI : (j : Int) < (k : Int) := by omega
                        have hjk : decide (j < k) = true := decide_eq_true hlj
                        have hjR : (j : Int) < (m.roads.length : Int) := by omega
                        obtain ⟨q, hq⟩ : ∃ q, m.roads[j]? = some q := ⟨_, List.getElem?_eq_getElem (by omega)⟩
                        obtain ⟨ab, eB, g1, f0, f1, f2, f3⟩ := (HA.out.at_ HW.out.1).ir j q hq
                        cases eB
                        have HQ := hid hq
                        have x0 := xt_cell f0
                        have x1 := xt_cell f1
                        have x2 := xt_cell f2
                        have x3 := xt_cell f3
                        have y1 := xt_cell HW.out.2.1.c2.2
                        obtain ⟨z0, z1, _, _⟩ := HW.out.2.2.c4
                        have z0 := xt_cell z0
                        have z1 := xt_cell z1
                        clear hq g1 f0 f1 f2 f3
                        have T := hid (fun x : Xt => rwjoins_any q r.a r.b (xt wr x))
                        cases hjn : joinsB q r.a r.b
                        · rw [hjn] at T
                          have HNX := hid (show ∀ (i : Nat) (q : Rd), i < j + 1 → m.roads[i]? = some q → joinsB q r.a r.b = false from fun i q' hi hq' => by
                            by_cases e : i = j
                            · subst e
                              rw [HQ.out] at hq'
                              cases hq'
                              exact hjn
                            · exact HNO.out i q' (by omega) hq')
                          clear hjn HNO
                          go_wp2
                          refine wp_region_quiet_xt (by kernel_rfl) (by kernel_rfl) ?_
                          repeat (go_big_quiet_step ((go_at_call 34; exact Calls.xt (T.out _))))
                          refine wpQuiet_nil ?_
                          intro W3 hw3
                          have hb3 := of_xt hw3
                          have HN3 := hid (show Below w.heap.size w W3 ∧ Blk W3 w.heap.size 55 #[.slice A m.work.length c, .slice (some aa) m.roads.length c2] ∧ Blk W3 zr 75 #[.int .i64 r.a, .int .i64 r.b, .int .i64 r.lo, .int .i64 r.hi] from ⟨HW.out.1.trans (hb3.mono HW.out.1.size), HW.out.2.1.keep hb3, HW.out.2.2.keep hb3⟩)
                          clear hw3 hb3 x0 x1 x2 x3 y1 z0 z1 HW
                          go_wp2
                          go_roundw
                          case rel => exact ⟨j + 1, by omega, by go_num, HNX.out, HN3.out⟩
                          case measure => first | (simp [intOf]; done) | (simp [intOf]; omega)
                        · rw [hjn] at T
                          clear hjn HNO
                          go_wp2
                          refine wp_region_quiet_xt (by kernel_rfl) (by kernel_rfl) ?_
                          repeat (go_big_quiet_step ((go_at_call 34; exact Calls.xt (T.out _))))
                          refine wpQuiet_nil ?_
                          intro W3 hw3
                          have hb3 := of_xt hw3
                          have HB := hid (HW.out.1.trans (hb3.mono HW.out.1.size))
                          clear hw3 hb3 x0 x1 x2 x3 y1 z0 z1 HW
                          go_wp2
                          go_ret
                          exact ⟨1, rfl, (fun e => absurd e (by decide)), HB.out⟩
                      · have hjI : decide ((j : Int) < (k : Int)) = false := by simp; omega
                        have hjk : decide (j < k) = false := by simp; omega
                        obtain rfl : j = k := by omega
                        have HNX := hid (show RdTo m (j + 1) from fun i y hi hy => by
                          by_cases e : i = j
                          · subst e
                            rw [HX.out] at hy
                            cases hy
                            have a1 := inB_iff.1 HQ0.out
                            have a2 := inB_iff.1 HQ1.out
                            have a3 := inB_iff.1 HQ3.out
                            exact ⟨⟨a1.1, by omega, a2.1, by omega, HQ2.out, a3.1, a3.2, HQ4.out⟩, fun q' q hq hlt' => HNO.out q' q hlt' hq⟩
                          · exact HRD.out i y (by omega) hy)
                        clear HNO
                        go_wp2
                        go_roundw
                        case rel => exact ⟨j + 1, by omega, by go_num, HNX.out, HW.out.1, HW.out.2.1⟩
                        case measure => first | (simp [intOf]; done) | (simp [intOf]; omega)
                  · have hhB : decide (50 < r.hi) = true := by simp; omega
                    clear hq4
                    go_wp2_with fail
                    refine (rwin_any _ _ _ _).mono ?_
                    rintro e w2 ⟨rfl, rfl⟩
                    go_wp2_with fail
                    refine (rwin_any _ _ _ _).mono ?_
                    rintro e w2 ⟨rfl, rfl⟩
                    go_wp2_with fail
                    refine (rwin_any _ _ _ _).mono ?_
                    rintro e w2 ⟨rfl, rfl⟩
                    go_wp2
                    go_ret
                    exact ⟨1, rfl, (fun e => absurd e (by decide)), HB.out⟩
                · have hq3 : inB r.lo 1 r.hi = false := by simpa using hq3
                  go_wp2_with fail
                  refine (rwin_any _ _ _ _).mono ?_
                  rintro e w2 ⟨rfl, rfl⟩
                  go_wp2_with fail
                  refine (rwin_any _ _ _ _).mono ?_
                  rintro e w2 ⟨rfl, rfl⟩
                  go_wp2_with fail
                  refine (rwin_any _ _ _ _).mono ?_
                  rintro e w2 ⟨rfl, rfl⟩
                  go_wp2
                  go_ret
                  exact ⟨1, rfl, (fun e => absurd e (by decide)), HB.out⟩
            · have hq1 : inB r.b 0 ((m.work.length : Int) - 1) = false := by simpa using hq1
              go_wp2_with fail
              refine (rwin_any _ _ _ _).mono ?_
              rintro e w2 ⟨rfl, rfl⟩
              go_wp2_with fail
              refine (rwin_any _ _ _ _).mono ?_
              rintro e w2 ⟨rfl, rfl⟩
              go_wp2
              go_ret
              exact ⟨1, rfl, (fun e => absurd e (by decide)), HB.out⟩
          · have hq0 : inB r.a 0 ((m.work.length : Int) - 1) = false := by simpa using hq0
            go_wp2_with fail
            refine (rwin_any _ _ _ _).mono ?_
            rintro e w2 ⟨rfl, rfl⟩
            go_wp2
            go_ret
            exact ⟨1, rfl, (fun e => absurd e (by decide)), HB.out⟩
        · have hkI : decide ((k : Int) < (m.roads.length : Int)) = false := by simp; omega
          obtain rfl : k = m.roads.length := by omega
          have HOK := hid (okw_of hw1 hw8 hr20 HWK.out HR.out.1)
          have HB := hid HR.out.2.1
          clear HR htl
          go_wp2
          go_ret
          exact ⟨0, rfl, (fun _ => HOK.out), HB.out⟩
end Go.Proofs.YtlnamjhgbdacbaaGreat
