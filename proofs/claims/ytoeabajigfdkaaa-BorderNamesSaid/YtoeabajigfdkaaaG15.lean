/- The walks and the plain laws of this part of the program, part 15: what each computes. Conditions stand at each theorem. -/
import Derived.Test.YtoeabajigfdkaaaG6
import Derived.Test.YtoeabajigfdkaaaG9
import Derived.Test.YtoeabajigfdkaaaG11
import Derived.Test.YtoeabajigfdkaaaG13
import Derived.Test.YtoeabajigfdkaaaG14
/- Ranges in rows of either kind, and words for the statements about bounds. Conditions stand at each theorem. -/
namespace Go.Proofs.Ytoeabajigfdkaaa
open Go.RowKit Go.Shelf

theorem own_rngs' {W : World} {base n e : Nat} {v : Value} {rs : List (Int × Int)} (h : W.ownsRow base e 2 v n (rgC rs)) (hn : n = rs.length) : ∃ y : Option Addr × Nat, v = .slice y.1 rs.length y.2 ∧ RngsAt y rs W := by
  subst hn
  rcases h.2 with ⟨e, h0⟩ | ⟨z, cap, cur, e, hb, _, hl, hm, _⟩
  · have : rs = [] := List.eq_nil_of_length_eq_zero h0
    subst this
    exact ⟨(none, 0), e, fun k p hk => by simp at hk, Nat.le_refl _, Nat.zero_le _⟩
  · refine ⟨(some ⟨z, 0, none⟩, cap), e, fun k p hk => ?_, hl, hm⟩
    obtain ⟨q1, q2⟩ := rgC_at hk
    have c1 := h.cells (g := z) (by rw [e]; rfl) _ _ q1
    have c2 := h.cells (g := z) (by rw [e]; rfl) _ _ q2
    rw [add_blk] at c1 c2
    refine ⟨⟨z, 0, none⟩, rfl, ?_, ?_, ?_⟩
    · have := World.block_lt_of_cell? W _ c1
      exact this
    · rw [add_blk]; exact c1
    · rw [add_blk]; exact c2
theorem qrng_info : (Try.prog.info? 43).map (fun i => (i.zero, i.size, i.bytes)) = some (some (.agg #[.int .i64 0, .int .i64 0]), 2, 16) := by kernel_rfl
theorem two_blk {W : World} {g t : Nat} {x y : Value} (h : Blk W g t #[x, y]) : ∀ (j : Nat) (u : Value), [x, y][j]? = some u → W.cell? ((⟨g, 0, none⟩ : Addr).add j) = some u := by
  intro q u hq
  rw [add_blk]
  obtain ⟨n0, n1⟩ := h.c2
  match q, hq with
  | 0, hq => injection hq with hq; subst hq; exact n0
  | 1, hq => injection hq with hq; subst hq; exact n1
  | q + 2, hq => simp at hq
section
variable {m : MapD} {A : Option Addr} {c : Nat} {A2 : Option Addr} {c2 : Nat} {A3 : Option Addr} {c3 : Nat} {w : World}
theorem streets_bad (h : MIn m A c A2 c2 A3 c3 w) (hc : cstM m ≠ 0) : Calls Try.prog 45 #[.agg #[.slice A m.old.length c, .int .i64 m.nw, .slice A2 m.ss.length c2, .slice A3 m.js.length c3]] w fun e w' => e = .returned (.tuple #[.slice none 0 0, .int .i64 (cstM m)]) ∧ Below w.heap.size w w' := by
  have := streets_any m A c A2 c2 A3 c3 w h
  simp only [if_pos hc] at this
  exact this
theorem bounds_bad (h : MIn m A c A2 c2 A3 c3 w) (hc : cstM m ≠ 0) : Calls Try.prog 27 #[.agg #[.slice A m.old.length c, .int .i64 m.nw, .slice A2 m.ss.length c2, .slice A3 m.js.length c3]] w fun e w' => e = .returned (.tuple #[.slice none 0 0, .int .i64 (cstM m)]) ∧ Below w.heap.size w w' := by
  have := bounds_any m A c A2 c2 A3 c3 w h
  simp only [if_pos hc] at this
  exact this
def GivesR0 (rs : List (Int × Int)) (w : World) (e : Ending) (w' : World) : Prop := ∃ y : Option Addr × Nat, e = .returned (.tuple #[.slice y.1 rs.length y.2, .int .i64 0]) ∧ RngsAt y rs w' ∧ Below w.heap.size w w'
theorem streets_good (h : MIn m A c A2 c2 A3 c3 w) (hc : cstM m = 0) : Calls Try.prog 45 #[.agg #[.slice A m.old.length c, .int .i64 m.nw, .slice A2 m.ss.length c2, .slice A3 m.js.length c3]] w (GivesR0 (strL m) w) := by
  have := streets_any m A c A2 c2 A3 c3 w h
  simp only [if_neg (show ¬ cstM m ≠ 0 by simp [hc])] at this
  exact this.mono fun e w' ⟨A, c, h1, h2, h3, h4, h5⟩ => ⟨(A, c), h1, ⟨h2, h3, h4⟩, h5⟩
theorem bounds_good (h : MIn m A c A2 c2 A3 c3 w) (hc : cstM m = 0) : Calls Try.prog 27 #[.agg #[.slice A m.old.length c, .int .i64 m.nw, .slice A2 m.ss.length c2, .slice A3 m.js.length c3]] w (GivesR0 (bndL m) w) := by
  have := bounds_any m A c A2 c2 A3 c3 w h
  simp only [if_neg (show ¬ cstM m ≠ 0 by simp [hc])] at this
  exact this.mono fun e w' ⟨A, c, h1, h2, h3, h4, h5⟩ => ⟨(A, c), h1, ⟨h2, h3, h4⟩, h5⟩
theorem part_alone (h : MIn m A c A2 c2 A3 c3 w) (ok : OkM m) {i : Nat} (hi : i < m.ss.length) {y : Option Addr × Nat} (hy : IntsAt y (lst m (aloneL i)) w) : Calls Try.prog 48 #[.agg #[.slice A m.old.length c, .int .i64 m.nw, .slice A2 m.ss.length c2, .slice A3 m.js.length c3], .slice y.1 (lst m (aloneL i)).length y.2, .int .i64 (m.S i).o, .int .i64 1] w fun e w' => e = .returned (.agg #[.int .i64 (strOne m i).1, .int .i64 (strOne m i).2]) ∧ Below w.heap.size w w' := by
  have hs := ok.sAt hi
  obtain ⟨q, hq⟩ : ∃ q : Nat, (m.S i).o = (q : Int) := ⟨(m.S i).o.toNat, by omega⟩
  have := qpart_any m q 1 (lst m (aloneL i)) y.1 y.2 A c A2 c2 A3 c3 w h ok (by omega) hy.1 (lst_len _ _) hy.2.1 hy.2.2
  have e : ∀ k, k < m.ss.length → atB (lst m (aloneL i)) 1 k = aloneP i k := fun k hk => by
    have := fnO_lst (l := aloneL i) hk
    unfold fnO at this
    simp only [atB, this, aloneL, aloneP]
    by_cases e : k = i
    · subst e; simp
    · rw [if_neg e]
      have : (k : Int) ≠ (i : Int) := by omega
      simp [this]
  rw [partLo_congr e, partHi_congr e] at this
  unfold strOne
  rw [hq, Int.toNat_natCast]
  exact this
theorem rngs_same {a : List (Int × Int)} {y z : Option Addr × Nat} {w : World} (hy : RngsAt y a w) (hz : RngsAt z a w) : Calls Try.prog 50 #[.slice y.1 a.length y.2, .slice z.1 a.length z.2] w fun e w' => e = .returned (.bool true) ∧ Below w.heap.size w w' := by
  have := mranges_any y.1 y.2 a z.1 z.2 a w hy.1 hz.1 hy.2.1 hy.2.2 hz.2.1 hz.2.2
  rwa [decide_eq_true rfl] at this
theorem lst_i {xs : List Int} {y : Option Addr × Nat} {w : World} (hy : IntsAt y xs w) (h0 : y.1 = none → y.2 = 0) (hl : xs.length ≤ 1000000) : Calls Try.prog 38 #[.slice y.1 xs.length y.2] w (GivesI xs w) :=
  (list_any y.1 y.2 xs w hy.1 h0 hl).mono fun _ _ h => h.i
end
end Go.Proofs.Ytoeabajigfdkaaa
/- The carried counts in plain words: the parts of each old district add up to its count; sums by districts; what the counts depend on. Conditions stand at each theorem. -/
namespace Go.Proofs.Ytoeabajigfdkaaa

theorem atTo_inc (m : MapD) (d : Nat) : ∀ k, (atTo m d k).Pairwise (· < ·)
  | 0 => List.Pairwise.nil
  | k + 1 => by
    rw [atTo]
    refine List.pairwise_append.2 ⟨atTo_inc m d k, ?_, fun a ha b hb => ?_⟩
    · split
      · exact List.pairwise_singleton _ _
      · exact List.Pairwise.nil
    · have h1 := (atTo_mem.1 ha).1
      split at hb
      · rw [List.mem_singleton] at hb; omega
      · simp at hb
theorem atTo_sum (m : MapD) (d : Nat) (f : Nat → Int) : ∀ k, sumN (fun i => if (m.S i).o = (d : Int) then f i else 0) k = ((atTo m d k).map f).sum
  | 0 => rfl
  | k + 1 => by
    rw [sumN_succ, atTo_sum m d f k, atTo, List.map_append, List.sum_append]
    split <;> simp
theorem set_getD_ne {xs : List Int} {i j : Nat} {v : Int} (h : i ≠ j) : (xs.set i v).getD j 0 = xs.getD j 0 := by
  rw [List.getD, List.getD, List.getElem?_set_ne h]
theorem set_getD_eq {xs : List Int} {i : Nat} {v : Int} (h : i < xs.length) : (xs.set i v).getD i 0 = v := by
  rw [List.getD, List.getElem?_set_self h]; rfl
theorem putTo_miss {out : List Int} {at_ : List Nat} {ps : List Int} {i : Nat} (hi : i ∉ at_) : ∀ j, j ≤ at_.length → (putTo out at_ ps j).getD i 0 = out.getD i 0
  | 0, _ => rfl
  | j + 1, hj => by
    rw [putTo, set_getD_ne, putTo_miss hi j (by omega)]
    intro e
    refine hi (e ▸ ?_)
    rw [List.getD, List.getElem?_eq_getElem (by omega)]
    exact List.getElem_mem _
theorem putTo_hit {out : List Int} {at_ : List Nat} {ps : List Int} (hp : at_.Pairwise (· < ·)) (ho : ∀ i ∈ at_, i < out.length) {t : Nat} : ∀ j, t < j → j ≤ at_.length → (putTo out at_ ps j).getD (at_.getD t 0) 0 = ps.getD t 0
  | 0, h, _ => by omega
  | j + 1, h, hj => by
    rw [putTo]
    by_cases e : t = j
    · subst e
      refine set_getD_eq ?_
      rw [putTo_len]
      refine ho _ ?_
      rw [List.getD, List.getElem?_eq_getElem (by omega)]
      exact List.getElem_mem _
    · rw [set_getD_ne, putTo_hit hp ho j (by omega) (by omega)]
      rw [List.getD, List.getD, List.getElem?_eq_getElem (by omega), List.getElem?_eq_getElem (show t < at_.length by omega)]
      have := List.pairwise_iff_getElem.1 hp t j (by omega) (by omega) (by omega)
      simp only [Option.getD_some]
      omega
theorem carTo_parts {m : MapD} {d : Nat} : ∀ D, d < D → (atTo m d m.ss.length).map (fun i => (carTo m D).getD i 0) = parts m d
  | 0, h => by omega
  | D + 1, h => by
    rw [carTo]
    by_cases e : d = D
    · subst e
      refine List.ext_getElem? fun t => ?_
      rw [List.getElem?_map]
      by_cases ht : t < (atTo m d m.ss.length).length
      · have h1 := putTo_hit (out := carTo m d) (ps := parts m d) (atTo_inc m d m.ss.length) (fun i hi => by rw [carTo_len]; exact (atTo_mem.1 hi).1) _ ht (Nat.le_refl _)
        rw [List.getElem?_eq_getElem ht, List.getElem?_eq_getElem (by rw [parts_len]; exact ht)]
        rw [List.getD_eq_getElem?_getD (l := atTo m d m.ss.length), List.getElem?_eq_getElem ht, List.getD_eq_getElem?_getD (l := parts m d), List.getElem?_eq_getElem (by rw [parts_len]; exact ht)] at h1
        exact congrArg some h1
      · rw [List.getElem?_eq_none (by omega), List.getElem?_eq_none (by rw [parts_len]; omega)]; rfl
    · refine Eq.trans ?_ (carTo_parts (d := d) D (by omega))
      refine List.map_congr_left fun i hi => ?_
      refine putTo_miss (fun h' => ?_) _ (Nat.le_refl _)
      have h1 := (atTo_mem.1 hi).2
      have h2 := (atTo_mem.1 h').2
      omega
theorem car_parts {m : MapD} {d : Nat} (hd : d < m.old.length) : (atTo m d m.ss.length).map (fun i => (car m).getD i 0) = parts m d := carTo_parts _ hd
theorem parts_sum {m : MapD} (ok : OkM m) {d : Nat} (hd : d < m.old.length) : (parts m d).sum = m.at_ d := by
  obtain ⟨dok, hne, _, _⟩ := div_ok (ok.divE hd)
  exact div_sum dok hne
/-- the carried counts of an old district add up to its count -/
theorem car_sum {m : MapD} (ok : OkM m) {d : Nat} (hd : d < m.old.length) : sumN (fun i => if (m.S i).o = (d : Int) then (car m).getD i 0 else 0) m.ss.length = m.at_ d := by
  rw [atTo_sum, car_parts hd, parts_sum ok hd]
/-- sums by districts are sums -/
theorem smTo_get {nw : Nat} {l : Nat → Int} {xs : List Int} {q : Nat} (hq : q < nw) : ∀ {k : Nat}, (∀ i, i < k → 0 ≤ l i) → (smTo nw l xs k).getD q 0 = sumN (fun i => if l i = (q : Int) then xs.getD i 0 else 0) k
  | 0, _ => by simp [smTo, sumN, List.getD, hq]
  | k + 1, hl => by
    have ih := smTo_get hq (l := l) (xs := xs) (k := k) fun i hi => hl i (by omega)
    have h0 := hl k (by omega)
    rw [smTo, sumN_succ]
    by_cases e : l k = (q : Int)
    · rw [if_pos e, ← ih, e, Int.toNat_natCast]
      exact set_getD_eq (by rw [smTo_len]; exact hq)
    · rw [if_neg e, set_getD_ne (by omega), ih, Int.add_zero]
theorem smD_get {m : MapD} {l : Nat → Int} {xs : List Int} {q : Nat} (hq : q < m.nw.toNat) (hl : ∀ i, i < xs.length → 0 ≤ l i) : (smD m l xs).getD q 0 = sumN (fun i => if l i = (q : Int) then xs.getD i 0 else 0) xs.length := smTo_get hq hl
/-- the counts depend on the old districts, their counts, and the parts by the weights -/
theorem atTo_congr {m x : MapD} {d : Nat} : ∀ {k : Nat}, (∀ i, i < k → (m.S i).o = (x.S i).o) → atTo m d k = atTo x d k
  | 0, _ => rfl
  | k + 1, h => by rw [atTo, atTo, atTo_congr (k := k) fun i hi => h i (by omega), h k (by omega)]
theorem wsTo_congr {m x : MapD} {d : Nat} : ∀ {k : Nat}, (∀ i, i < k → (m.S i).o = (x.S i).o ∧ (m.S i).wt = (x.S i).wt) → wsTo m d k = wsTo x d k
  | 0, _ => rfl
  | k + 1, h => by rw [wsTo, wsTo, wsTo_congr (k := k) fun i hi => h i (by omega), (h k (by omega)).1, (h k (by omega)).2]
theorem wsTo_times {m x : MapD} {d : Nat} {n : Int} : ∀ {k : Nat}, (∀ i, i < k → (m.S i).o = (x.S i).o ∧ (x.S i).wt = n * (m.S i).wt) → wsTo x d k = (wsTo m d k).map fun w => n * w
  | 0, _ => rfl
  | k + 1, h => by
    rw [wsTo, wsTo, wsTo_times (k := k) fun i hi => h i (by omega), ← (h k (by omega)).1, (h k (by omega)).2, List.map_append]
    split <;> rfl
theorem carTo_congr {m x : MapD} (hs : m.ss.length = x.ss.length) (ho : ∀ i, i < m.ss.length → (m.S i).o = (x.S i).o) (hp : ∀ d, parts m d = parts x d) : ∀ d, carTo m d = carTo x d
  | 0 => by rw [carTo, carTo, hs]
  | d + 1 => by rw [carTo, carTo, carTo_congr hs ho hp d, hp, ← hs, atTo_congr ho]
theorem car_congr {m x : MapD} (hd : m.old = x.old) (hs : m.ss.length = x.ss.length) (ho : ∀ i, i < m.ss.length → (m.S i).o = (x.S i).o ∧ (m.S i).wt = (x.S i).wt) : car m = car x := by
  unfold car
  rw [hd]
  refine carTo_congr hs (fun i hi => (ho i hi).1) (fun d => ?_) _
  unfold parts MapD.at_
  rw [hd, ← hs, wsTo_congr ho]
theorem car_times {m x : MapD} {n : Int} (hn : 1 ≤ n) (hd : m.old = x.old) (hs : m.ss.length = x.ss.length) (ho : ∀ i, i < m.ss.length → (m.S i).o = (x.S i).o ∧ (x.S i).wt = n * (m.S i).wt) : car m = car x := by
  unfold car
  rw [hd]
  refine carTo_congr hs (fun i hi => (ho i hi).1) (fun d => ?_) _
  unfold parts MapD.at_
  rw [hd, ← hs, wsTo_times ho, div_times hn]
end Go.Proofs.Ytoeabajigfdkaaa
/- New districts that are the old ones; two districts merged: counts and bounds, in plain words. Conditions stand at each theorem. -/
namespace Go.Proofs.Ytoeabajigfdkaaa

theorem conM_at {m : MapD} (h : conM m = true) {d : Nat} (hd : d < m.old.length) : sumO m d tt Stt.lo m.ss.length ≤ m.at_ d ∧ m.at_ d ≤ sumO m d tt Stt.hi m.ss.length := by
  unfold conM at h
  exact inB_iff.1 (List.all_eq_true.1 h d (List.mem_range.2 hd))
theorem cst_mk {m : MapD} (ok : OkM m) (h : ∀ d, d < m.old.length → sumO m d tt Stt.lo m.ss.length ≤ m.at_ d ∧ m.at_ d ≤ sumO m d tt Stt.hi m.ss.length) : cstM m = 0 := by
  rw [cst_of, if_pos (okm_chk ok), if_pos]
  unfold conM
  exact List.all_eq_true.2 fun d hd => inB_iff.2 (h d (List.mem_range.1 hd))
/-- the map with its streets changed -/
def updM (m : MapD) (nw : Int) (f : Stt → Stt) : MapD := ⟨m.old, nw, m.ss.map f, m.js⟩
theorem updM_S {m : MapD} {nw : Int} {f : Stt → Stt} {i : Nat} (hi : i < m.ss.length) : (updM m nw f).S i = f (m.S i) := by
  have e : m.ss[i]? = some m.ss[i] := List.getElem?_eq_getElem hi
  rw [MapD.S_eq e, MapD.S_eq (m := updM m nw f) (s := f m.ss[i])]
  show (m.ss.map f)[i]? = _
  rw [List.getElem?_map, e]; rfl
theorem updM_len (m : MapD) (nw : Int) (f : Stt → Stt) : (updM m nw f).ss.length = m.ss.length := by simp [updM]
theorem updM_sum {m : MapD} {nw : Int} {f : Stt → Stt} {d : Nat} {p q : Nat → Bool} {g : Stt → Int} {k : Nat} (hk : k ≤ m.ss.length) (hf : ∀ s, (f s).o = s.o ∧ g (f s) = g s) (hp : ∀ i, i < k → p i = q i) : sumO (updM m nw f) d p g k = sumO m d q g k := by
  unfold sumO
  refine sumN_congr fun i hi => ?_
  rw [updM_S (by omega), (hf _).1, (hf _).2, hp i hi]
theorem updM_ok {m : MapD} {nw : Int} {f : Stt → Stt} (ok : OkM m) (h1 : 1 ≤ nw) (h4 : nw ≤ 4) (hf : ∀ s, (f s).o = s.o ∧ (f s).wt = s.wt ∧ (f s).lo = s.lo ∧ (f s).hi = s.hi) (hn : ∀ s ∈ m.ss, 0 ≤ (f s).n ∧ (f s).n < nw) : OkM (updM m nw f) := by
  refine ⟨ok.d1, ok.d4, by rw [updM_len]; exact ok.s1, by rw [updM_len]; exact ok.s8, ok.j20, ok.cnt, h1, h4, fun s hs => ?_, fun d hd => ?_, fun j hj => ?_⟩
  · obtain ⟨t, ht, rfl⟩ := List.mem_map.1 hs
    have := ok.stt t ht
    have := hn t ht
    have := hf t
    show 0 ≤ _ ∧ _ < (m.old.length : Int) ∧ _ ∧ _ < nw ∧ _
    omega
  · rw [updM_len, updM_sum (Nat.le_refl _) (q := tt) (fun s => ⟨(hf s).1, (hf s).2.1⟩) fun i hi => rfl]
    exact ok.wgh d hd
  · rw [updM_len]; exact ok.jn j hj
theorem updM_cst {m : MapD} {nw : Int} {f : Stt → Stt} (hm : cstM m = 0) (h1 : 1 ≤ nw) (h4 : nw ≤ 4) (hf : ∀ s, (f s).o = s.o ∧ (f s).wt = s.wt ∧ (f s).lo = s.lo ∧ (f s).hi = s.hi) (hn : ∀ s ∈ m.ss, 0 ≤ (f s).n ∧ (f s).n < nw) : cstM (updM m nw f) = 0 := by
  obtain ⟨hc, hcon⟩ := cst_ok hm
  have ok := chk_okm hc
  refine cst_mk (updM_ok ok h1 h4 hf hn) fun d hd => ?_
  rw [updM_len, updM_sum (Nat.le_refl _) (q := tt) (fun s => ⟨(hf s).1, (hf s).2.2.1⟩) fun i hi => rfl, updM_sum (Nat.le_refl _) (q := tt) (fun s => ⟨(hf s).1, (hf s).2.2.2⟩) fun i hi => rfl]
  exact conM_at hcon hd
theorem updM_car {m : MapD} {nw : Int} {f : Stt → Stt} (hf : ∀ s, (f s).o = s.o ∧ (f s).wt = s.wt) : car (updM m nw f) = car m :=
  (car_congr (m := m) (x := updM m nw f) rfl (updM_len m nw f).symm fun i hi => by rw [updM_S hi]; exact ⟨(hf _).1.symm, (hf _).2.symm⟩).symm
/-- each new district is an old one -/
def sameF (s : Stt) : Stt := ⟨s.o, s.o, s.wt, s.lo, s.hi⟩
def sameM (m : MapD) : MapD := updM m m.old.length sameF
theorem sameF_f (s : Stt) : (sameF s).o = s.o ∧ (sameF s).wt = s.wt ∧ (sameF s).lo = s.lo ∧ (sameF s).hi = s.hi := ⟨rfl, rfl, rfl, rfl⟩
theorem same_cst {m : MapD} (h : cstM m = 0) : cstM (sameM m) = 0 := by
  have ok := chk_okm (cst_ok h).1
  refine updM_cst h (by have := ok.d1; omega) (by have := ok.d4; omega) sameF_f fun s hs => ?_
  have := ok.stt s hs
  show 0 ≤ s.o ∧ s.o < _
  omega
theorem same_car {m : MapD} (ok : OkM m) : smD (sameM m) (ownL (sameM m)) (car (sameM m)) = m.old := by
  have hc : car (sameM m) = car m := updM_car fun s => ⟨rfl, rfl⟩
  have hl : ∀ i, i < m.ss.length → ownL (sameM m) i = (m.S i).o := fun i hi => by
    unfold ownL sameM
    rw [updM_S hi]; rfl
  have hn : (sameM m).nw.toNat = m.old.length := by show ((m.old.length : Int)).toNat = _; omega
  have hL : (smD (sameM m) (ownL (sameM m)) (car (sameM m))).length = m.old.length := by unfold smD; rw [smTo_len, hn]
  refine List.ext_getElem? fun d => ?_
  by_cases hd : d < m.old.length
  · have h1 := smD_get (m := sameM m) (l := ownL (sameM m)) (xs := car (sameM m)) (q := d) (by rw [hn]; exact hd) (fun i hi => by
      rw [hc, car_len] at hi
      rw [hl i hi]
      have := ok.sAt hi
      omega)
    rw [hc, car_len] at h1
    rw [sumN_congr (g := fun i => if (m.S i).o = (d : Int) then (car m).getD i 0 else 0) (fun i hi => by rw [hl i hi]), car_sum ok hd] at h1
    rw [hc] at hL ⊢
    rw [List.getD_eq_getElem?_getD, List.getElem?_eq_getElem (by omega)] at h1
    unfold MapD.at_ at h1
    rw [List.getD_eq_getElem?_getD, List.getElem?_eq_getElem hd] at h1
    rw [List.getElem?_eq_getElem (by omega), List.getElem?_eq_getElem hd]
    exact congrArg some h1
  · rw [List.getElem?_eq_none (by omega), List.getElem?_eq_none (by omega)]
theorem same_bnd {m : MapD} (h : cstM m = 0) {d : Nat} (hd : d < m.old.length) : bndOne (sameM m) d = (m.at_ d, m.at_ d) := by
  obtain ⟨hc, hcon⟩ := cst_ok h
  have ok := chk_okm hc
  have hl : ∀ i, i < m.ss.length → ownL (sameM m) i = (m.S i).o := fun i hi => by
    unfold ownL sameM
    rw [updM_S hi]; rfl
  have key : ∀ d', d' < m.old.length → partLo (sameM m) (inD (ownL (sameM m)) (d : Int)) d' = (if d' = d then m.at_ d else 0) ∧ partHi (sameM m) (inD (ownL (sameM m)) (d : Int)) d' = (if d' = d then m.at_ d else 0) := by
    intro d' hd'
    obtain ⟨c1, c2⟩ := conM_at hcon hd'
    have hs : ∀ g : Stt → Int, (∀ s, g (sameF s) = g s) → sumO (sameM m) d' (inD (ownL (sameM m)) (d : Int)) g m.ss.length = (if d' = d then sumO m d' tt g m.ss.length else 0) ∧ sumO (sameM m) d' (nt (inD (ownL (sameM m)) (d : Int))) g m.ss.length = (if d' = d then 0 else sumO m d' tt g m.ss.length) := by
      intro g hg
      constructor
      · by_cases e : d' = d
        · rw [if_pos e]
          unfold sumO sameM
          refine sumN_congr fun i hi => ?_
          rw [updM_S hi, hg]
          have h1 := hl i hi
          unfold sameM at h1
          simp only [inD, h1, sameF, tt]
          by_cases e2 : (m.S i).o = (d' : Int)
          · rw [if_pos ⟨e2, by rw [e2, e]; simp⟩, if_pos ⟨e2, trivial⟩]
          · rw [if_neg (fun q => e2 q.1), if_neg (fun q => e2 q.1)]
        · rw [if_neg e]
          unfold sumO sameM
          refine sumN_null fun i hi => ?_
          rw [updM_S hi]
          have h1 := hl i hi
          unfold sameM at h1
          simp only [inD, h1, sameF]
          rw [if_neg]
          rintro ⟨q1, q2⟩
          rw [q1, beq_iff_eq] at q2
          omega
      · by_cases e : d' = d
        · rw [if_pos e]
          unfold sumO sameM
          refine sumN_null fun i hi => ?_
          rw [updM_S hi]
          have h1 := hl i hi
          unfold sameM at h1
          simp only [inD, nt, h1, sameF]
          rw [if_neg]
          rintro ⟨q1, q2⟩
          rw [q1, e] at q2
          simp at q2
        · rw [if_neg e]
          unfold sumO sameM
          refine sumN_congr fun i hi => ?_
          rw [updM_S hi, hg]
          have h1 := hl i hi
          unfold sameM at h1
          simp only [inD, nt, h1, sameF, tt]
          by_cases e2 : (m.S i).o = (d' : Int)
          · have q : (!((m.S i).o == (d : Int))) = true := by
              rw [e2, Bool.not_eq_true', beq_eq_false_iff_ne]
              omega
            rw [if_pos ⟨e2, q⟩, if_pos ⟨e2, trivial⟩]
          · rw [if_neg (fun q => e2 q.1), if_neg (fun q => e2 q.1)]
    unfold partLo partHi
    rw [show (sameM m).ss.length = m.ss.length from updM_len _ _ _, (hs Stt.lo fun _ => rfl).1, (hs Stt.lo fun _ => rfl).2, (hs Stt.hi fun _ => rfl).1, (hs Stt.hi fun _ => rfl).2, show (sameM m).at_ d' = m.at_ d' from rfl]
    have := (ok.atB hd').1
    by_cases e : d' = d
    · subst e
      simp only [if_true]
      omega
    · simp only [if_neg e]
      omega
  have e1 : sizeLo (sameM m) (inD (ownL (sameM m)) (d : Int)) m.old.length = m.at_ d := by
    unfold sizeLo
    rw [sumN_one hd fun i hi hne => by rw [(key i hi).1, if_neg hne], (key d hd).1, if_pos rfl]
  have e2 : sizeHi (sameM m) (inD (ownL (sameM m)) (d : Int)) m.old.length = m.at_ d := by
    unfold sizeHi
    rw [sumN_one hd fun i hi hne => by rw [(key i hi).2, if_neg hne], (key d hd).2, if_pos rfl]
  unfold bndOne
  exact Prod.ext e1 e2
end Go.Proofs.Ytoeabajigfdkaaa
