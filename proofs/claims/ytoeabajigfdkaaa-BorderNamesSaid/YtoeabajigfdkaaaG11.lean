/- The walks and the plain laws of this part of the program, part 11: what each computes. Conditions stand at each theorem. -/
import Derived.Test.YtoeabajigfdkaaaG7
import Derived.Test.YtoeabajigfdkaaaG10
/- The chapter's map. No condition. -/
namespace Go.Proofs.Ytoeabajigfdkaaa
open Go.RowKit Go.Shelf

def townM : MapD := ⟨[100, 60], 2, [⟨0, 0, 3, 40, 70⟩, ⟨0, 1, 2, 30, 50⟩, ⟨1, 1, 5, 20, 60⟩, ⟨1, 0, 1, 0, 30⟩], [⟨0, 1⟩, ⟨1, 2⟩, ⟨2, 3⟩]⟩
theorem stts_of {w : World} {g : Nat} {ss : List Stt} {cs : Array Value} (h : Blk w g 89 cs) (hc : ∀ k s, ss[k]? = some s → cs[k * 5]? = some (.int .i64 s.o) ∧ cs[k * 5 + 1]? = some (.int .i64 s.n) ∧ cs[k * 5 + 2]? = some (.int .i64 s.wt) ∧ cs[k * 5 + 3]? = some (.int .i64 s.lo) ∧ cs[k * 5 + 4]? = some (.int .i64 s.hi)) : IsStts w w.heap.size (some ⟨g, 0, none⟩) ss := fun k s hk => by
  obtain ⟨h0, h1, h2, h3, h4⟩ := hc k s hk
  refine ⟨_, rfl, h.lt, ?_⟩
  rw [add_blk]
  exact ⟨by rw [h.cell]; exact h0, by rw [h.cell]; exact h1, by rw [h.cell]; exact h2, by rw [h.cell]; exact h3, by rw [h.cell]; exact h4⟩
theorem jns_of {w : World} {g : Nat} {js : List Jn} {cs : Array Value} (h : Blk w g 90 cs) (hc : ∀ k s, js[k]? = some s → cs[k * 2]? = some (.int .i64 s.a) ∧ cs[k * 2 + 1]? = some (.int .i64 s.b)) : IsJns w w.heap.size (some ⟨g, 0, none⟩) js := fun k s hk => by
  obtain ⟨h0, h1⟩ := hc k s hk
  refine ⟨_, rfl, h.lt, ?_⟩
  rw [add_blk]
  exact ⟨by rw [h.cell]; exact h0, by rw [h.cell]; exact h1⟩
theorem ints_of {w : World} {g : Nat} {xs : List Int} {cs : Array Value} (h : Blk w g 3 cs) (hc : ∀ (k : Nat) x, xs[k]? = some x → cs[k]? = some (.int .i64 x)) : IsInts w w.heap.size (some ⟨g, 0, none⟩) xs := fun k x hk => by
  refine ⟨_, rfl, h.lt, ?_⟩
  rw [add_blk, h.cell]
  exact hc k x hk
def townO : Array Value := #[.int .i64 100, .int .i64 60]
def townS : Array Value := #[.int .i64 0, .int .i64 0, .int .i64 3, .int .i64 40, .int .i64 70, .int .i64 0, .int .i64 1, .int .i64 2, .int .i64 30, .int .i64 50, .int .i64 1, .int .i64 1, .int .i64 5, .int .i64 20, .int .i64 60, .int .i64 1, .int .i64 0, .int .i64 1, .int .i64 0, .int .i64 30]
def townJ : Array Value := #[.int .i64 0, .int .i64 1, .int .i64 1, .int .i64 2, .int .i64 2, .int .i64 3]
theorem town_s : ∀ k s, townM.ss[k]? = some s → townS[k * 5]? = some (.int .i64 s.o) ∧ townS[k * 5 + 1]? = some (.int .i64 s.n) ∧ townS[k * 5 + 2]? = some (.int .i64 s.wt) ∧ townS[k * 5 + 3]? = some (.int .i64 s.lo) ∧ townS[k * 5 + 4]? = some (.int .i64 s.hi) := fun k s hk => by
  match k, hk with
  | 0, hk => cases hk; exact ⟨rfl, rfl, rfl, rfl, rfl⟩
  | 1, hk => cases hk; exact ⟨rfl, rfl, rfl, rfl, rfl⟩
  | 2, hk => cases hk; exact ⟨rfl, rfl, rfl, rfl, rfl⟩
  | 3, hk => cases hk; exact ⟨rfl, rfl, rfl, rfl, rfl⟩
  | k + 4, hk => simp [townM] at hk
theorem town_j : ∀ k s, townM.js[k]? = some s → townJ[k * 2]? = some (.int .i64 s.a) ∧ townJ[k * 2 + 1]? = some (.int .i64 s.b) := fun k s hk => by
  match k, hk with
  | 0, hk => cases hk; exact ⟨rfl, rfl⟩
  | 1, hk => cases hk; exact ⟨rfl, rfl⟩
  | 2, hk => cases hk; exact ⟨rfl, rfl⟩
  | k + 3, hk => simp [townM] at hk
theorem town_o : ∀ (k : Nat) x, townM.old[k]? = some x → townO[k]? = some (.int .i64 x) := fun k s hk => by
  match k, hk with
  | 0, hk => cases hk; rfl
  | 1, hk => cases hk; rfl
  | k + 2, hk => simp [townM] at hk
/-- the chapter's map, in three blocks -/
def TownAt (g1 g2 g3 : Nat) (w : World) : Prop := Blk w g1 3 townO ∧ Blk w g2 89 townS ∧ Blk w g3 90 townJ
theorem TownAt.keep {g1 g2 g3 : Nat} {w w' : World} (h : TownAt g1 g2 g3 w) (hb : Below w.heap.size w w') : TownAt g1 g2 g3 w' := ⟨h.1.keep hb, h.2.1.keep hb, h.2.2.keep hb⟩
theorem TownAt.min {g1 g2 g3 : Nat} {w : World} (h : TownAt g1 g2 g3 w) : MIn townM (some ⟨g1, 0, none⟩) 2 (some ⟨g2, 0, none⟩) 4 (some ⟨g3, 0, none⟩) 3 w :=
  ⟨ints_of h.1 town_o, stts_of h.2.1 town_s, jns_of h.2.2 town_j, by decide, by decide, by decide, by decide, by decide, by decide⟩
def GivesTown (w : World) (e : Ending) (w' : World) : Prop := ∃ g1 g2 g3, e = .returned (.agg #[.slice (some ⟨g1, 0, none⟩) 2 2, .int .i64 2, .slice (some ⟨g2, 0, none⟩) 4 4, .slice (some ⟨g3, 0, none⟩) 3 3]) ∧ w.heap.size ≤ g1 ∧ w.heap.size ≤ g2 ∧ w.heap.size ≤ g3 ∧ TownAt g1 g2 g3 w' ∧ Below w.heap.size w w'
set_option maxRecDepth 100000 in
set_option maxHeartbeats 2000000 in
theorem town_any (w : World) : Calls Try.prog 54 #[] w (GivesTown w) := by
  have b1 := (Below.refl w.heap.size w).alloc (Nat.le_refl _) (.cells #[.slice none 0 0, .int .i64 0, .slice none 0 0, .slice none 0 0] 34)
  have b2 := b1.alloc (by simp) (.cells townO 3)
  have k1 := (Blk.new w 34 #[.slice none 0 0, .int .i64 0, .slice none 0 0, .slice none 0 0]).alloc (.cells townO 3)
  have k2 := Blk.new (w.alloc (.cells #[.slice none 0 0, .int .i64 0, .slice none 0 0, .slice none 0 0] 34)) 3 townO
  rw [World.size_alloc] at k2
  have H0 := hid (And.intro b2 (And.intro k1 k2))
  clear b1 b2 k1 k2
  go_enter Try.func54, Try.ntmps54
  go_wp2_with fail
  refine (between_any _ _ _).mono ?_
  rintro e w1 ⟨rfl, hb⟩
  have H1 := hid (And.intro (H0.out.1.trans (hb.mono H0.out.1.size)) (And.intro (H0.out.2.1.keep hb) (H0.out.2.2.keep hb)))
  clear hb H0
  go_wp2_with fail
  refine (between_any _ _ _).mono ?_
  rintro e w2 ⟨rfl, hb⟩
  have H2 := hid (And.intro (H1.out.1.trans (hb.mono H1.out.1.size)) (And.intro (H1.out.2.1.keep hb) (H1.out.2.2.keep hb)))
  clear hb H1
  go_wp2_with fail
  refine (between_any _ _ _).mono ?_
  rintro e w3 ⟨rfl, hb⟩
  have H3 := hid (And.intro (H2.out.1.trans (hb.mono H2.out.1.size)) (And.intro (H2.out.2.1.keep hb) (H2.out.2.2.keep hb)))
  clear hb H2
  go_wp2_with fail
  refine (between_any _ _ _).mono ?_
  rintro e w4 ⟨rfl, hb⟩
  have H4 := hid (And.intro (H3.out.1.trans (hb.mono H3.out.1.size)) (And.intro (H3.out.2.1.keep hb) (H3.out.2.2.keep hb)))
  clear hb H3
  have b4 := ((((H4.out.1.setCell (p := ⟨w.heap.size, 0, none⟩) (Nat.le_refl _) (.slice (some ⟨w.heap.size + 1, 0, none⟩) 2 2)).setCell (p := ⟨w.heap.size, 1, none⟩) (Nat.le_refl _) (.int .i64 2)).setCell (p := ⟨w.heap.size, 2, none⟩) (Nat.le_refl _) (.slice (some ⟨w4.heap.size, 0, none⟩) 4 4)).setCell (p := ⟨w.heap.size, 3, none⟩) (Nat.le_refl _) (.slice (some ⟨w4.heap.size + 1, 0, none⟩) 3 3))
  have k1 := ((((H4.out.2.1.set_ 0 (.slice (some ⟨w.heap.size + 1, 0, none⟩) 2 2)).set_ 1 (.int .i64 2)).set_ 2 (.slice (some ⟨w4.heap.size, 0, none⟩) 4 4)).set_ 3 (.slice (some ⟨w4.heap.size + 1, 0, none⟩) 3 3))
  have k2 := ((((H4.out.2.2.far (p := ⟨w.heap.size, 0, none⟩) (show w.heap.size + 1 ≠ w.heap.size by omega) (.slice (some ⟨w.heap.size + 1, 0, none⟩) 2 2)).far (p := ⟨w.heap.size, 1, none⟩) (show w.heap.size + 1 ≠ w.heap.size by omega) (.int .i64 2)).far (p := ⟨w.heap.size, 2, none⟩) (show w.heap.size + 1 ≠ w.heap.size by omega) (.slice (some ⟨w4.heap.size, 0, none⟩) 4 4)).far (p := ⟨w.heap.size, 3, none⟩) (show w.heap.size + 1 ≠ w.heap.size by omega) (.slice (some ⟨w4.heap.size + 1, 0, none⟩) 3 3))
  have hs5 : ((((w4.setCell ⟨w.heap.size, 0, none⟩ (.slice (some ⟨w.heap.size + 1, 0, none⟩) 2 2)).setCell ⟨w.heap.size, 1, none⟩ (.int .i64 2)).setCell ⟨w.heap.size, 2, none⟩ (.slice (some ⟨w4.heap.size, 0, none⟩) 4 4)).setCell ⟨w.heap.size, 3, none⟩ (.slice (some ⟨w4.heap.size + 1, 0, none⟩) 3 3)).heap.size = w4.heap.size := by simp [World.setCell]
  have HS5 := hid (And.intro b4 (And.intro k1 (And.intro k2 hs5)))
  obtain ⟨c0, c1, c2, c3⟩ := H4.out.2.1.c4
  have f0 := H4.out.2.1.frozen 0
  have f1 := H4.out.2.1.frozen 1
  have f2 := H4.out.2.1.frozen 2
  have f3 := H4.out.2.1.frozen 3
  have hlt := H4.out.2.1.lt
  clear b4 k1 k2 hs5 H4
  go_wp2
  revert HS5
  generalize ((((w4.setCell ⟨w.heap.size, 0, none⟩ (.slice (some ⟨w.heap.size + 1, 0, none⟩) 2 2)).setCell ⟨w.heap.size, 1, none⟩ (.int .i64 2)).setCell ⟨w.heap.size, 2, none⟩ (.slice (some ⟨w4.heap.size, 0, none⟩) 4 4)).setCell ⟨w.heap.size, 3, none⟩ (.slice (some ⟨w4.heap.size + 1, 0, none⟩) 3 3)) = w5
  intro HS5
  have b5 := (HS5.out.1.alloc HS5.out.1.size (.cells townS 89)).alloc (by have := HS5.out.1.size; simp; omega) (.cells townJ 90)
  have k1 : Blk _ w.heap.size 34 #[.slice (some ⟨w.heap.size + 1, 0, none⟩) 2 2, .int .i64 2, .slice (some ⟨w4.heap.size, 0, none⟩) 4 4, .slice (some ⟨w4.heap.size + 1, 0, none⟩) 3 3] := (HS5.out.2.1.alloc (.cells townS 89)).alloc (.cells townJ 90)
  have k2 := (HS5.out.2.2.1.alloc (.cells townS 89)).alloc (.cells townJ 90)
  have k3 := (Blk.new w5 89 townS).alloc (.cells townJ 90)
  have k4 := Blk.new (w5.alloc (.cells townS 89)) 90 townJ
  rw [World.size_alloc] at k4
  rw [HS5.out.2.2.2] at k3 k4
  refine gen (p := bodyPost _ _ _ _ _) (fun W => Below w.heap.size w W ∧ Blk W w.heap.size 34 #[.slice (some ⟨w.heap.size + 1, 0, none⟩) 2 2, .int .i64 2, .slice (some ⟨w4.heap.size, 0, none⟩) 4 4, .slice (some ⟨w4.heap.size + 1, 0, none⟩) 3 3] ∧ TownAt (w.heap.size + 1) w4.heap.size (w4.heap.size + 1) W) ⟨b5, k1, k2, k3, k4⟩ ?_
  rintro W ⟨hb, hk, ht⟩
  obtain ⟨e0, e1, e2, e3⟩ := hk.c4
  exact bodyPost_ret (v := .agg #[.slice (some ⟨w.heap.size + 1, 0, none⟩) 2 2, .int .i64 2, .slice (some ⟨w4.heap.size, 0, none⟩) 4 4, .slice (some ⟨w4.heap.size + 1, 0, none⟩) 3 3]) (by simp [results, Try.results54, go_sem, e0, e1, e2, e3]) rfl ⟨_, _, _, rfl, by omega, by omega, by omega, ht, hb⟩
end Go.Proofs.Ytoeabajigfdkaaa
/- Bounds of the carried counts; sums by the districts of borders. Conditions stand at each theorem. -/
namespace Go.Proofs.Ytoeabajigfdkaaa

theorem parts_bounds {m : MapD} (ok : OkM m) {d : Nat} (hd : d < m.old.length) : ∀ x ∈ parts m d, 0 ≤ x ∧ x ≤ 10000 := by
  obtain ⟨dok, hne, _, _⟩ := div_ok (ok.divE hd)
  have hn : ∀ y ∈ parts m d, 0 ≤ y := by
    intro y hy
    obtain ⟨i, hi⟩ := List.mem_iff_getElem?.1 hy
    have hl : i < (wsTo m d m.ss.length).length := by
      have := (List.getElem?_eq_some_iff.1 hi).1
      unfold parts at this
      rwa [div_len] at this
    obtain ⟨x, hx⟩ : ∃ x, (wsTo m d m.ss.length)[i]? = some x := ⟨_, List.getElem?_eq_getElem hl⟩
    obtain ⟨h1, h2⟩ := div_near dok hne hx hi
    have h3 := dok.s0
    have h4 := (wsTo_mem (fun i hi => by have := ok.sAt hi; omega) (Nat.le_refl _) x (List.mem_of_getElem? hx)).1
    have h5 := (ok.atB hd).1
    have h6 : 0 ≤ m.at_ d * x := Int.mul_nonneg h5 h4
    rcases Int.lt_or_le y 0 with hy0 | hy0
    · exfalso
      have h7 : y * (wsTo m d m.ss.length).sum ≤ (-1) * (wsTo m d m.ss.length).sum := Int.mul_le_mul_of_nonneg_right (by omega) (by omega)
      omega
    · exact hy0
  intro x hx
  refine ⟨hn x hx, ?_⟩
  have h1 := sum_ge (parts m d) hn x hx
  have h2 : (parts m d).sum = m.at_ d := div_sum dok hne
  have h3 := (ok.atB hd).2
  omega
theorem putTo_mem {out : List Int} {at_ : List Nat} {ps : List Int} {P : Int → Prop} (ho : ∀ x ∈ out, P x) (hp : ∀ x ∈ ps, P x) : ∀ j, j ≤ ps.length → ∀ x ∈ putTo out at_ ps j, P x
  | 0, _, x, hx => ho x hx
  | j + 1, hj, x, hx => by
    rw [putTo] at hx
    rcases List.mem_or_eq_of_mem_set hx with h | h
    · exact putTo_mem ho hp j (by omega) x h
    · subst h
      rw [List.getD, List.getElem?_eq_getElem (by omega)]
      exact hp _ (List.getElem_mem _)
theorem carTo_bounds {m : MapD} (ok : OkM m) : ∀ d, d ≤ m.old.length → ∀ x ∈ carTo m d, 0 ≤ x ∧ x ≤ 10000
  | 0, _, x, hx => by
    rw [carTo] at hx
    obtain ⟨_, rfl⟩ := List.mem_replicate.1 hx
    omega
  | d + 1, hd, x, hx => by
    rw [carTo] at hx
    exact putTo_mem (carTo_bounds ok d (by omega)) (parts_bounds ok (by omega)) _ (by rw [parts_len]; exact Nat.le_refl _) x hx
theorem car_bounds {m : MapD} (ok : OkM m) : ∀ x ∈ car m, 0 ≤ x ∧ x ≤ 10000 := carTo_bounds ok _ (Nat.le_refl _)
theorem car_len (m : MapD) : (car m).length = m.ss.length := carTo_len m _
/-- the sums of the first k numbers by districts -/
def smTo (nw : Nat) (l : Nat → Int) (xs : List Int) : Nat → List Int
  | 0 => List.replicate nw 0
  | k + 1 => (smTo nw l xs k).set (l k).toNat ((smTo nw l xs k).getD (l k).toNat 0 + xs.getD k 0)
theorem smTo_len (nw : Nat) (l : Nat → Int) (xs : List Int) : ∀ k, (smTo nw l xs k).length = nw
  | 0 => by simp [smTo]
  | k + 1 => by rw [smTo, List.length_set, smTo_len nw l xs k]
theorem smTo_bounds {nw : Nat} {l : Nat → Int} {xs : List Int} {M : Int} (hM : 0 ≤ M) (hx : ∀ x ∈ xs, 0 ≤ x ∧ x ≤ M) : ∀ k, ∀ x ∈ smTo nw l xs k, 0 ≤ x ∧ x ≤ k * M
  | 0, x, h => by
    rw [smTo] at h
    obtain ⟨_, rfl⟩ := List.mem_replicate.1 h
    simp
  | k + 1, x, h => by
    have ih := smTo_bounds hM hx (nw := nw) (l := l) k
    have e : ((k + 1 : Nat) : Int) * M = k * M + M := by rw [Int.natCast_add, Int.add_mul]; simp
    have hg : 0 ≤ xs.getD k 0 ∧ xs.getD k 0 ≤ M := by
      by_cases hk : k < xs.length
      · rw [List.getD, List.getElem?_eq_getElem hk]
        exact hx _ (List.getElem_mem hk)
      · rw [List.getD, List.getElem?_eq_none (by omega)]
        exact ⟨Int.le_refl _, hM⟩
    have hkm : 0 ≤ (k : Int) * M := Int.mul_nonneg (by omega) hM
    rw [smTo] at h
    rcases List.mem_or_eq_of_mem_set h with h | h
    · have := ih x h
      omega
    · have hq : 0 ≤ (smTo nw l xs k).getD (l k).toNat 0 ∧ (smTo nw l xs k).getD (l k).toNat 0 ≤ k * M := by
        by_cases hq : (l k).toNat < (smTo nw l xs k).length
        · rw [List.getD, List.getElem?_eq_getElem hq]
          exact ih _ (List.getElem_mem hq)
        · rw [List.getD, List.getElem?_eq_none (by omega)]
          exact ⟨Int.le_refl _, hkm⟩
      omega
/-- sums of numbers of streets by the districts of borders -/
def smD (m : MapD) (l : Nat → Int) (xs : List Int) : List Int := smTo m.nw.toNat l xs xs.length
end Go.Proofs.Ytoeabajigfdkaaa
/- The carried counts of all new districts. Conditions stand at each theorem. -/
namespace Go.Proofs.Ytoeabajigfdkaaa
open Go.RowKit Go.Shelf

set_option maxRecDepth 100000 in
set_option maxHeartbeats 2000000 in
theorem summed_any (m : MapD) (A : Option Addr) (c : Nat) (A2 : Option Addr) (c2 : Nat) (A3 : Option Addr) (c3 : Nat) (w : World) (h : MIn m A c A2 c2 A3 c3 w) (ok : OkM m) :
    Calls Try.prog 64 #[.agg #[.slice A m.old.length c, .int .i64 m.nw, .slice A2 m.ss.length c2, .slice A3 m.js.length c3]] w (GivesInts (smD m (ownL m) (car m)) w) := by
  have hs8 := ok.s8
  have hn1 := ok.n1
  have hn4 := ok.n4
  obtain ⟨N, hN⟩ : ∃ N : Nat, m.nw = (N : Int) := ⟨m.nw.toNat, by omega⟩
  have hN4 : N ≤ 4 := by omega
  have hB := below_box (w := w) #[.slice A m.old.length c, .int .i64 m.nw, .slice A2 m.ss.length c2, .slice A3 m.js.length c3] 34
  have hT := Blk.new w 34 #[.slice A m.old.length c, .int .i64 m.nw, .slice A2 m.ss.length c2, .slice A3 m.js.length c3]
  have hmk := run_make_row' (P := Try.prog) 22 3 (.int .i64 0) 8 Try.underlying22 int_info rfl .i64 .i64 N (by omega) (by omega)
  have hl2 := h.l2
  have hm2 := h.m2
  unfold maxLen at hm2
  have HH := hid h
  have OK := hid ok
  have HS := hid (show Blk ((w.alloc (.cells #[.slice A m.old.length c, .int .i64 m.nw, .slice A2 m.ss.length c2, .slice A3 m.js.length c3] 34)).alloc (.cells (madeCells #[.int .i64 0] N) 3)) (w.heap.size + 1) 3 (intC (smTo N (ownL m) (car m) 0)) ∧ Below w.heap.size w ((w.alloc (.cells #[.slice A m.old.length c, .int .i64 m.nw, .slice A2 m.ss.length c2, .slice A3 m.js.length c3] 34)).alloc (.cells (madeCells #[.int .i64 0] N) 3)) ∧ Blk ((w.alloc (.cells #[.slice A m.old.length c, .int .i64 m.nw, .slice A2 m.ss.length c2, .slice A3 m.js.length c3] 34)).alloc (.cells (madeCells #[.int .i64 0] N) 3)) w.heap.size 34 #[.slice A m.old.length c, .int .i64 m.nw, .slice A2 m.ss.length c2, .slice A3 m.js.length c3] from
    ⟨by have := Blk.new (w.alloc (.cells #[.slice A m.old.length c, .int .i64 m.nw, .slice A2 m.ss.length c2, .slice A3 m.js.length c3] 34)) 3 (madeCells #[.int .i64 0] N); rw [intC_zero] at this ⊢; rwa [World.size_alloc] at this, hB.alloc hB.size _, hT.alloc _⟩)
  have KC := hid (carried_any m A c A2 c2 A3 c3 _ (h.at_ HS.out.2.1) ok)
  have hcl := car_len m
  obtain ⟨t0, t1, t2, t3⟩ := hT.c4
  have bl := hT.lt
  rw [World.size_alloc] at bl
  rw [← hN] at hmk
  have HN := hid hN
  have hcl8 : (car m).length ≤ 8 := by omega
  have HCL := hid hcl
  clear h ok hB hT hN hcl
  go_enter Try.func64, Try.ntmps64
  go_wp2_with fail
  refine KC.out.mono ?_
  rintro e w2 ⟨A5, c5, rfl, q1, q2, q3, q4, q5, hb5⟩
  have H2 := hid (And.intro (HS.out.1.keep hb5) (And.intro (HS.out.2.1.trans (hb5.mono HS.out.2.1.size)) (HS.out.2.2.keep hb5)))
  have HI := hid (And.intro q3 (fun a e => (q4 a e).1))
  have HSZ := hid (show w.heap.size + 1 < ((w.alloc (.cells #[.slice A m.old.length c, .int .i64 m.nw, .slice A2 m.ss.length c2, .slice A3 m.js.length c3] 34)).alloc (.cells (madeCells #[.int .i64 0] N) 3)).heap.size from HS.out.1.lt)
  unfold maxLen at q2
  clear KC q3 q4 q5 hb5 t0 t1 t2 t3 hmk HS bl
  go_wp2
  go_loopw [12] (fun i W => ∃ k : Nat, k ≤ (car m).length ∧ i = .int .i64 k ∧ Blk W (w.heap.size + 1) 3 (intC (smTo N (ownL m) (car m) k)) ∧ Chg (fun q => q = w.heap.size + 1) w2 W) (fun i _ => (car m).length - (intOf i).toNat)
  case atStart => exact ⟨0, Nat.zero_le _, rfl, H2.out.1, Chg.refl⟩
  case round =>
    obtain ⟨k, hk, rfl, hbo, hcg⟩ := hrel
    have hbm := hcg.blk H2.out.2.2 (fun e => by omega)
    obtain ⟨t0, t1, t2, t3⟩ := hbm.c4
    by_cases hlt : k < (car m).length
    · have hkI : (k : Int) < ((car m).length : Int) := by omega
      have hks : k < m.ss.length := by have := HCL.out; omega
      have hksI : (k : Int) < (m.ss.length : Int) := by omega
      obtain ⟨x, hx⟩ : ∃ x, (car m)[k]? = some x := ⟨_, List.getElem?_eq_getElem hlt⟩
      obtain ⟨a5, e5, g1, g2⟩ := HI.out.1 k x hx
      have n5 := HI.out.2 a5 e5
      replace g2 := hcg.keep.cell g2 (by rw [block_of_add]; have := HSZ.out; omega)
      obtain ⟨s, hs⟩ : ∃ s, m.ss[k]? = some s := ⟨_, List.getElem?_eq_getElem hks⟩
      have hbw : Below w.heap.size w wr := H2.out.2.1.trans (hcg.below (fun q e => by omega) H2.out.2.1.size)
      obtain ⟨a, e2, g3, f0, f1, f2, f3, f4⟩ := (HH.out.at_ hbw).is k s hs
      have hso := OK.out.sAt hks
      rw [MapD.S_eq hs] at hso
      obtain ⟨q, hq⟩ : ∃ q : Nat, s.n = (q : Int) := ⟨s.n.toNat, by omega⟩
      have hqN : q < N := by have := HN.out; omega
      have hqI : (q : Int) < (N : Int) := by omega
      rw [hq] at f1
      obtain ⟨y, hy⟩ : ∃ y, (smTo N (ownL m) (car m) k)[q]? = some y := ⟨_, List.getElem?_eq_getElem (by rw [smTo_len]; exact hqN)⟩
      have yo := hbo.cell q
      rw [intC_get hy] at yo
      have fo := hbo.frozen q
      have lo := hbo.lt
      obtain ⟨yb1, yb2⟩ := smTo_bounds (M := 10000) (by omega) (car_bounds OK.out) k y (List.mem_of_getElem? hy)
      obtain ⟨xb1, xb2⟩ := car_bounds OK.out x (List.mem_of_getElem? hx)
      have HNX := hid (show Blk (wr.setCell ⟨w.heap.size + 1, q, none⟩ (.int .i64 (y + x))) (w.heap.size + 1) 3 (intC (smTo N (ownL m) (car m) (k + 1))) ∧ Chg (fun q => q = w.heap.size + 1) w2 (wr.setCell ⟨w.heap.size + 1, q, none⟩ (.int .i64 (y + x))) by
        refine ⟨?_, hcg.set rfl _⟩
        have := hbo.set_ q (.int .i64 (y + x))
        rw [intC_set] at this
        rw [smTo, show (ownL m k).toNat = q by unfold ownL; rw [MapD.S_eq hs, hq]; omega, List.getD, hy, List.getD, hx]
        exact this)
      subst e5 e2
      clear hbo hcg hbm hbw hx n5 hs hso hq hy g1 g3
      go_wp2
      go_roundw
      case rel => exact ⟨k + 1, by omega, by go_num, HNX.out⟩
      case measure => first | (simp [intOf]; done) | (simp [intOf]; omega)
    · have hkI : decide ((k : Int) < ((car m).length : Int)) = false := by simp; omega
      obtain rfl : k = (car m).length := by omega
      have hbe : Below w.heap.size w wr := H2.out.2.1.trans (hcg.below (fun q e => by omega) H2.out.2.1.size)
      have hsl : (smD m (ownL m) (car m)).length = N := by unfold smD; rw [smTo_len, HN.out]; omega
      have HFIN := hid (show GivesInts (smD m (ownL m) (car m)) w (.returned (.slice (some ⟨w.heap.size + 1, 0, none⟩) N N)) wr by
        have hbf : Blk wr (w.heap.size + 1) 3 (intC (smD m (ownL m) (car m))) := by unfold smD; rw [HN.out, Int.toNat_natCast]; exact hbo
        refine ⟨some ⟨w.heap.size + 1, 0, none⟩, N, by rw [hsl], by rw [hsl]; exact Nat.le_refl _, by unfold maxLen; omega, fun i y hy => ⟨_, rfl, hbf.lt, ?_⟩, fun a e => ?_, (fun e => by cases e), hbe⟩
        · rw [add_blk, hbf.cell]; exact intC_get hy
        · injection e with e
          subst e
          exact ⟨Nat.le_succ _, _, hbf⟩)
      clear hbo hcg hbm hbe hsl
      go_wp2
      go_ret
      exact HFIN.out

def GivesCarry (m : MapD) (w : World) (e : Ending) (w' : World) : Prop :=
  ∃ p q : Option Addr × Nat, e = .returned (.tuple #[.slice p.1 (car m).length p.2, .slice q.1 (smD m (ownL m) (car m)).length q.2, .int .i64 0]) ∧ IsInts w' w'.heap.size p.1 (car m) ∧ (car m).length ≤ p.2 ∧ p.2 ≤ maxLen ∧ IsInts w' w'.heap.size q.1 (smD m (ownL m) (car m)) ∧ (smD m (ownL m) (car m)).length ≤ q.2 ∧ q.2 ≤ maxLen ∧ Below w.heap.size w w'
set_option maxRecDepth 100000 in
set_option maxHeartbeats 2000000 in
theorem carry_any (m : MapD) (A : Option Addr) (c : Nat) (A2 : Option Addr) (c2 : Nat) (A3 : Option Addr) (c3 : Nat) (w : World) (h : MIn m A c A2 c2 A3 c3 w) :
    Calls Try.prog 20 #[.agg #[.slice A m.old.length c, .int .i64 m.nw, .slice A2 m.ss.length c2, .slice A3 m.js.length c3]] w fun e w' => if chkM m ≠ 0 then e = .returned (.tuple #[.slice none 0 0, .slice none 0 0, .int .i64 (chkM m)]) ∧ Below w.heap.size w w' else GivesCarry m w e w' := by
  have hB := below_box (w := w) #[.slice A m.old.length c, .int .i64 m.nw, .slice A2 m.ss.length c2, .slice A3 m.js.length c3] 34
  have hT := Blk.new w 34 #[.slice A m.old.length c, .int .i64 m.nw, .slice A2 m.ss.length c2, .slice A3 m.js.length c3]
  obtain ⟨t0, t1, t2, t3⟩ := hT.c4
  have HB := hid hB
  have HT := hid hT
  have HH := hid h
  have KC := hid (checkm_any m A c A2 c2 A3 c3 _ (h.at_ hB))
  clear h hB hT
  by_cases hc : chkM m = 0
  · rw [hc] at KC
    simp only [hc, ne_eq, not_true_eq_false, if_false]
    have OK := hid (chk_okm hc)
    clear hc
    go_enter Try.func20, Try.ntmps20
    go_wp2_with fail
    refine KC.out.mono ?_
    rintro e wc ⟨rfl, hb⟩
    have HBC := hid (HB.out.trans (hb.mono HB.out.size))
    have HTC := hid (HT.out.keep hb)
    clear hb KC t0 t1 t2 t3
    go_wp2
    refine (wpIn_wide (n := 0)).1 ?_
    refine wpIn_region_each 4 (fun i v W' => match i with | 0 => v = .agg #[.slice A m.old.length c, .int .i64 m.nw, .slice A2 m.ss.length c2, .slice A3 m.js.length c3] | 1 => ∃ (p5 : Option Addr × Nat), v = .slice p5.1 (car m).length p5.2 ∧ IsInts W' W'.heap.size p5.1 (car m) ∧ ((car m).length ≤ p5.2 ∧ p5.2 ≤ maxLen) | 2 => v = .agg #[.slice A m.old.length c, .int .i64 m.nw, .slice A2 m.ss.length c2, .slice A3 m.js.length c3] | 3 => ∃ (p6 : Option Addr × Nat), v = .slice p6.1 (smD m (ownL m) (car m)).length p6.2 ∧ IsInts W' W'.heap.size p6.1 (smD m (ownL m) (car m)) ∧ ((smD m (ownL m) (car m)).length ≤ p6.2 ∧ p6.2 ≤ maxLen) | _ => True) (fun A B => Below A.heap.size A B) (fun _ _ => True) (by kernel_rfl) (by kernel_rfl) ?_ (fun h k => h.trans (k.mono h.size)) ⟨rfl, rfl, rfl, Nat.le_refl _, fun _ _ => rfl⟩ trivial (by kernel_rfl) ?_ ?_
    · intro i v W1 W2 hb h
      match i, h with
      | 0, h => exact h
      | 1, h =>
        obtain ⟨p5, rfl, h1⟩ := h
        exact ⟨_, rfl, h1.1.at_ hb, h1.2⟩
      | 2, h => exact h
      | 3, h =>
        obtain ⟨p6, rfl, h1⟩ := h
        exact ⟨_, rfl, h1.1.at_ hb, h1.2⟩
      | i + 4, h => trivial
    · refine ⟨?_, ?_, ?_, ?_, trivial⟩
      · -- 0
        intro li a1 W2 hA K hK
        have e1 := hA.par 1 (by kernel_rfl)
        obtain ⟨q1, q2, q3, q4⟩ := (HTC.out.keep hA.st).c4
        refine opStep none 0 rfl rfl (fun c hc => by cases hc) ?_
        go_simp
        exact hK _ _ rfl (Below.refl _ _) trivial
      · -- 1
        intro li a1 W2 hA K hK
        have e11 : a1.tmps.getD 11 undef = .agg #[.slice A m.old.length c, .int .i64 m.nw, .slice A2 m.ss.length c2, .slice A3 m.js.length c3] := hA.val 0 11 (by kernel_rfl) (by kernel_rfl)
        refine opStep none 0 rfl rfl (fun c hc => by cases hc) ?_
        go_simp
        refine (carried_any m A c A2 c2 A3 c3 _ ((HH.out.at_ HBC.out).at_ hA.st) OK.out).mono ?_
        rintro e W4 ⟨A5, c5, rfl, g1, g2, g3, g4, g5, hb⟩
        exact hK _ _ ⟨(A5, c5), rfl, g3, g1, g2⟩ hb trivial
      · -- 2
        intro li a1 W2 hA K hK
        have e1 := hA.par 1 (by kernel_rfl)
        obtain ⟨q1, q2, q3, q4⟩ := (HTC.out.keep hA.st).c4
        refine opStep none 0 rfl rfl (fun c hc => by cases hc) ?_
        go_simp
        exact hK _ _ rfl (Below.refl _ _) trivial
      · -- 3
        intro li a1 W2 hA K hK
        have e13 : a1.tmps.getD 13 undef = .agg #[.slice A m.old.length c, .int .i64 m.nw, .slice A2 m.ss.length c2, .slice A3 m.js.length c3] := hA.val 2 13 (by kernel_rfl) (by kernel_rfl)
        refine opStep none 0 rfl rfl (fun c hc => by cases hc) ?_
        go_simp
        refine (summed_any m A c A2 c2 A3 c3 _ ((HH.out.at_ HBC.out).at_ hA.st) OK.out).mono ?_
        rintro e W4 ⟨A5, c5, rfl, g1, g2, g3, g4, g5, hb⟩
        exact hK _ _ ⟨(A5, c5), rfl, g3, g1, g2⟩ hb trivial
    · intro li a1 W2 hD
      obtain ⟨p5, e12, h2⟩ := hD.val 1 12 (by kernel_rfl) (by kernel_rfl)
      obtain ⟨p6, e14, h3⟩ := hD.val 3 14 (by kernel_rfl) (by kernel_rfl)
      have hd : a1.defers = [] := hD.defers
      have hst := hD.st
      have hsz : a1.tmps.size = 15 := hD.size
      have HFIN := hid (show GivesCarry m w (.returned (.tuple #[.slice p5.1 (car m).length p5.2, .slice p6.1 (smD m (ownL m) (car m)).length p6.2, .int .i64 0])) W2 from ⟨p5, p6, rfl, h2.1, h2.2.1, h2.2.2, h3.1, h3.2.1, h3.2.2, HBC.out.trans (hst.mono HBC.out.size)⟩)
      clear hD h2 h3 hst
      refine tail_val (i := 4) (v := .slice p5.1 (car m).length p5.2) (W' := W2) none 0 rfl rfl rfl (fun c hc => by cases hc) (by go_simp) (by rw [hsz]; decide) ?_
      intro a2 s2 d2 f2 o2
      have e14' : a2.tmps.getD 14 undef = .slice p6.1 (smD m (ownL m) (car m)).length p6.2 := (o2 14 (by decide)).trans e14
      refine tail_val (i := 5) (v := .slice p6.1 (smD m (ownL m) (car m)).length p6.2) (W' := W2) none 0 rfl rfl rfl (fun c hc => by cases hc) (by go_simp) (by rw [s2, hsz]; decide) ?_
      intro a3 s3 d3 f3 o3
      refine tail_val (i := 6) (v := .int .i64 0) (W' := W2) none 0 rfl rfl rfl (fun c hc => by cases hc) (by go_simp) (by rw [s3, s2, hsz]; decide) ?_
      intro a4 s4 d4 f4 o4
      have e2 : a4.tmps.getD 2 undef = .slice p5.1 (car m).length p5.2 := ((o4 2 (by decide)).trans (o3 2 (by decide))).trans f2
      have e3 : a4.tmps.getD 3 undef = .slice p6.1 (smD m (ownL m) (car m)).length p6.2 := (o4 3 (by decide)).trans f3
      have hd4 : a4.defers = [] := (d4.trans (d3.trans d2)).trans hd
      clear e12 e14 e14' s2 s3 s4 d2 d3 d4 o2 o3 o4 f2 f3 hd hsz
      refine wpListIn_nil ?_
      go_wp2
      exact bodyPost_ret (v := .tuple #[.slice p5.1 (car m).length p5.2, .slice p6.1 (smD m (ownL m) (car m)).length p6.2, .int .i64 0]) (by simp only [Array.getD_eq_getD_getElem?] at e2 e3 f4; simp [results, Try.results20, go_sem, e2, e3, f4]) hd4 HFIN.out
  · have hne : (chkM m != 0) = true := by simp [hc]
    simp only [ne_eq, hc, not_false_eq_true, if_true]
    obtain ⟨z, hz⟩ : ∃ z, chkM m = z := ⟨_, rfl⟩
    rw [hz] at KC hne ⊢
    clear hc hz
    go_enter Try.func20, Try.ntmps20
    go_wp2_with fail
    refine KC.out.mono ?_
    rintro e wc ⟨rfl, hb⟩
    have HBC := hid (HB.out.trans (hb.mono HB.out.size))
    clear hb KC t0 t1 t2 t3
    go_wp2
    go_ret3
    exact ⟨rfl, HBC.out⟩
end Go.Proofs.Ytoeabajigfdkaaa
/- By how much the carried counts can be off. No condition. -/
namespace Go.Proofs.Ytoeabajigfdkaaa
open Go.RowKit Go.Shelf

def offOne (m : MapD) (d : Nat) : Int := max ((bndOne m d).2 - (smD m (ownL m) (car m)).getD d 0) ((smD m (ownL m) (car m)).getD d 0 - (bndOne m d).1)
def offL (m : MapD) : List Int := (List.range m.nw.toNat).map (offOne m)
theorem smD_len {m : MapD} (l : Nat → Int) (xs : List Int) : (smD m l xs).length = m.nw.toNat := smTo_len _ _ _ _
theorem bndL_at {m : MapD} {d : Nat} (h : d < m.nw.toNat) : (bndL m)[d]? = some (bndOne m d) := by
  unfold bndL
  rw [List.getElem?_map, List.getElem?_range h]; rfl
theorem bndL_len (m : MapD) : (bndL m).length = m.nw.toNat := by simp [bndL]
theorem bndOne_bounds {m : MapD} (ok : OkM m) (d : Nat) : -320000 ≤ (bndOne m d).1 ∧ (bndOne m d).1 ≤ 320000 ∧ -320000 ≤ (bndOne m d).2 ∧ (bndOne m d).2 ≤ 320000 := by
  have h := size_bounds ok (inD (ownL m) (d : Int)) m.old.length (Nat.le_refl _)
  have h4 := ok.d4
  unfold bndOne
  dsimp only
  omega
set_option maxRecDepth 100000 in
set_option maxHeartbeats 2000000 in
theorem off_any (m : MapD) (A : Option Addr) (c : Nat) (A2 : Option Addr) (c2 : Nat) (A3 : Option Addr) (c3 : Nat) (w : World) (h : MIn m A c A2 c2 A3 c3 w) :
    Calls Try.prog 31 #[.agg #[.slice A m.old.length c, .int .i64 m.nw, .slice A2 m.ss.length c2, .slice A3 m.js.length c3]] w fun e w' => if cstM m ≠ 0 then e = .returned (.tuple #[.slice none 0 0, .int .i64 (cstM m)]) ∧ Below w.heap.size w w' else ∃ A c, e = .returned (.tuple #[.slice A (offL m).length c, .int .i64 0]) ∧ IsInts w' w'.heap.size A (offL m) ∧ (offL m).length ≤ c ∧ c ≤ maxLen ∧ Below w.heap.size w w' := by
  have hB := below_box (w := w) #[.slice A m.old.length c, .int .i64 m.nw, .slice A2 m.ss.length c2, .slice A3 m.js.length c3] 34
  have hT := Blk.new w 34 #[.slice A m.old.length c, .int .i64 m.nw, .slice A2 m.ss.length c2, .slice A3 m.js.length c3]
  obtain ⟨t0, t1, t2, t3⟩ := hT.c4
  have HB := hid hB
  have HT := hid hT
  have HH := hid h
  have KC := bounds_any m A c A2 c2 A3 c3 _ (h.at_ hB)
  clear h hB hT
  by_cases hc : cstM m = 0
  · simp only [hc, ne_eq, not_true_eq_false, if_false] at KC ⊢
    unfold GivesRngs at KC
    have KC := hid KC
    have hok : chkM m = 0 := by
      unfold cstM at hc
      by_cases h : chkM m = 0
      · exact h
      · rw [if_neg h] at hc; exact absurd hc h
    have OK := hid (chk_okm hok)
    have hs8 := OK.out.s8
    have hn1 := OK.out.n1
    have hn4 := OK.out.n4
    clear hc hok
    go_enter Try.func31, Try.ntmps31
    go_wp2_with fail
    refine KC.out.mono ?_
    rintro e wc ⟨A5, c5, rfl, q1, q2, q3, hb⟩
    have HBC := hid (HB.out.trans (hb.mono HB.out.size))
    have HTC := hid (HT.out.keep hb)
    have HI5 := hid q1
    unfold maxLen at q3
    have KS := hid (summed_any m A c A2 c2 A3 c3 wc (HH.out.at_ HBC.out) OK.out)
    clear hb KC t0 t1 t2 t3 q1
    obtain ⟨t0, t1, t2, t3⟩ := HTC.out.c4
    go_wp2_with fail
    refine KS.out.mono ?_
    rintro e wd ⟨A6, c6, rfl, q4, q5, q6, q7, q8, hb⟩
    have HBD := hid (HBC.out.trans (hb.mono HBC.out.size))
    have HI6 := hid q6
    have HJ5 := hid (HI5.out.at_ hb)
    unfold maxLen at q5
    have hln : (smD m (ownL m) (car m)).length = m.nw.toNat := smD_len _ _
    have hlb : (bndL m).length = m.nw.toNat := bndL_len m
    obtain ⟨N, hN⟩ : ∃ N, m.nw.toNat = N := ⟨_, rfl⟩
    rw [hN] at hln hlb
    rw [hln] at q4 ⊢
    rw [hlb] at q2 ⊢
    have HN := hid hN
    have HL := hid (And.intro hln hlb)
    have hN4 : N ≤ 4 := by omega
    clear hb KS t0 t1 t2 t3 q6 q7 q8 hN hln hlb
    go_wp2
    go_loopw [6, 20] (fun v i W => ∃ k : Nat, k ≤ N ∧ i = .int .i64 k ∧ W.ownsRow wd.heap.size 3 1 v k (((List.range k).map (offOne m)).map (Value.int .i64)) ∧ Below wd.heap.size wd W) (fun _ i _ => N - (intOf i).toNat)
    case atStart => exact ⟨0, Nat.zero_le _, rfl, ⟨rfl, .inl ⟨rfl, rfl⟩⟩, Below.refl _ _⟩
    case round =>
      obtain ⟨k, hk, rfl, ho, hbr⟩ := hrel
      have HO := hid (And.intro ho hbr)
      by_cases hlt : k < N
      · have hkI : (k : Int) < (N : Int) := by omega
        obtain ⟨x, hx⟩ : ∃ x, (smD m (ownL m) (car m))[k]? = some x := ⟨_, List.getElem?_eq_getElem (by rw [HL.out.1]; exact hlt)⟩
        obtain ⟨a6, e6, g1, g2⟩ := (HI6.out.at_ hbr) k x hx
        obtain ⟨a5, e5, g3, g4, g5⟩ := (HJ5.out.at_ hbr) k _ (bndL_at (m := m) (by rw [HN.out]; exact hlt))
        subst e6 e5
        obtain ⟨b1, b2, b3, b4⟩ := bndOne_bounds OK.out k
        have hxb := smTo_bounds (M := 10000) (by omega) (car_bounds OK.out) _ x (List.mem_of_getElem? hx)
        have hcl : ((car m).length : Int) ≤ 8 := by rw [car_len]; omega
        have hx1 : 0 ≤ x := hxb.1
        have hx2 : x ≤ 80000 := by have := hxb.2; omega
        have HV := hid (show offOne m k = max ((bndOne m k).2 - x) (x - (bndOne m k).1) by unfold offOne; rw [List.getD, hx]; rfl)
        obtain ⟨p1, hp1⟩ : ∃ p, (bndOne m k).1 = p := ⟨_, rfl⟩
        obtain ⟨p2, hp2⟩ : ∃ p, (bndOne m k).2 = p := ⟨_, rfl⟩
        rw [hp1] at b1 b2 HV g4
        rw [hp2] at b3 b4 HV g5
        have hw1 : IntKind.i64.wrap (p2 - x) = p2 - x := IntWalk.i64_in _ (by omega)
        have hw2 : IntKind.i64.wrap (x - p1) = x - p1 := IntWalk.i64_in _ (by omega)
        have G4 := hid g4
        have G5 := hid g5
        clear hp1 hp2 hxb hcl hx ho hbr g1 g3 g4 g5
        go_wp2
        refine (wpIn_wide (n := 0)).1 ?_
        refine wpIn_region_each 17 (fun i v W' => match i with | 0 => v = u6 | 1 => v = .slice (some a5) N c5 | 2 => v = .int .i64 (k : Int) | 3 => v = .pointer (some (a5.add (k * 2))) | 4 => v = .pointer (some ⟨(a5.add (k * 2)).block, (a5.add (k * 2)).off + 1, none⟩) | 5 => v = .int .i64 p2 | 6 => v = .int .i64 x | 7 => v = .int .i64 (p2 - x) | 8 => v = .int .i64 x | 9 => v = .slice (some a5) N c5 | 10 => v = .int .i64 (k : Int) | 11 => v = .pointer (some (a5.add (k * 2))) | 12 => v = .pointer (some (a5.add (k * 2))) | 13 => v = .int .i64 p1 | 14 => v = .int .i64 (x - p1) | 15 => v = .int .i64 (max (p2 - x) (x - p1)) | 16 => ∃ gl, v = .slice (some ⟨gl, 0, none⟩) 1 1 ∧ Blk W' gl 3 #[.int .i64 (max (p2 - x) (x - p1))] | _ => True) (fun A B => Below A.heap.size A B) (fun _ _ => True) (by kernel_rfl) (by kernel_rfl) ?_ (fun h k => h.trans (k.mono h.size)) ⟨rfl, rfl, rfl, Nat.le_refl _, fun _ _ => rfl⟩ trivial (by kernel_rfl) ?_ ?_
        · intro i v W1 W2 hb h
          match i, h with
          | 0, h => exact h
          | 1, h => exact h
          | 2, h => exact h
          | 3, h => exact h
          | 4, h => exact h
          | 5, h => exact h
          | 6, h => exact h
          | 7, h => exact h
          | 8, h => exact h
          | 9, h => exact h
          | 10, h => exact h
          | 11, h => exact h
          | 12, h => exact h
          | 13, h => exact h
          | 14, h => exact h
          | 15, h => exact h
          | 16, h =>
            obtain ⟨gl, rfl, h1⟩ := h
            exact ⟨_, rfl, h1.keep hb⟩
          | i + 17, h => trivial
        · refine ⟨?_, ?_, ?_, ?_, ?_, ?_, ?_, ?_, ?_, ?_, ?_, ?_, ?_, ?_, ?_, ?_, ?_, trivial⟩
          · -- 0
            intro li a1 W2 hA K hK
            have e6 := hA.par 6 (by kernel_rfl)
            refine opStep none 0 rfl rfl (fun c hc => by cases hc) ?_
            go_simp
            exact hK _ _ rfl (Below.refl _ _) trivial
          · -- 1
            intro li a1 W2 hA K hK
            have e4 := hA.par 4 (by kernel_rfl)
            refine opStep none 0 rfl rfl (fun c hc => by cases hc) ?_
            go_simp
            exact hK _ _ rfl (Below.refl _ _) trivial
          · -- 2
            intro li a1 W2 hA K hK
            have e7 := hA.par 7 (by kernel_rfl)
            refine opStep none 0 rfl rfl (fun c hc => by cases hc) ?_
            go_simp
            exact hK _ _ rfl (Below.refl _ _) trivial
          · -- 3
            intro li a1 W2 hA K hK
            have e26 : a1.tmps.getD 26 undef = .slice (some a5) N c5 := hA.val 1 26 (by kernel_rfl) (by kernel_rfl)
            have e27 : a1.tmps.getD 27 undef = .int .i64 (k : Int) := hA.val 2 27 (by kernel_rfl) (by kernel_rfl)
            refine opStep none 0 rfl rfl (fun c hc => by cases hc) ?_
            go_simp
            exact hK _ _ (by first | rfl | exact congrArg (fun q => Value.pointer (some q)) (add_blk _ _)) (Below.refl _ _) trivial
          · -- 4
            intro li a1 W2 hA K hK
            have e28 : a1.tmps.getD 28 undef = .pointer (some (a5.add (k * 2))) := hA.val 3 28 (by kernel_rfl) (by kernel_rfl)
            refine opStep none 0 rfl rfl (fun c hc => by cases hc) ?_
            go_simp
            exact hK _ _ rfl (Below.refl _ _) trivial
          · -- 5
            intro li a1 W2 hA K hK
            have e29 : a1.tmps.getD 29 undef = .pointer (some ⟨(a5.add (k * 2)).block, (a5.add (k * 2)).off + 1, none⟩) := hA.val 4 29 (by kernel_rfl) (by kernel_rfl)
            have q1 := (hA.st.cell (World.block_lt_of_cell? _ _ G5.out)).trans G5.out
            refine opStep none 0 rfl rfl (fun c hc => by cases hc) ?_
            go_simp
            exact hK _ _ rfl (Below.refl _ _) trivial
          · -- 6
            intro li a1 W2 hA K hK
            have e8 := hA.par 8 (by kernel_rfl)
            refine opStep none 0 rfl rfl (fun c hc => by cases hc) ?_
            go_simp
            exact hK _ _ rfl (Below.refl _ _) trivial
          · -- 7
            intro li a1 W2 hA K hK
            have e30 : a1.tmps.getD 30 undef = .int .i64 p2 := hA.val 5 30 (by kernel_rfl) (by kernel_rfl)
            have e31 : a1.tmps.getD 31 undef = .int .i64 x := hA.val 6 31 (by kernel_rfl) (by kernel_rfl)
            refine opStep none 0 rfl rfl (fun c hc => by cases hc) ?_
            go_simp
            exact hK _ _ (by first | rfl | exact congrArg (Value.int .i64) hw1 | (simp [hw1])) (Below.refl _ _) trivial
          · -- 8
            intro li a1 W2 hA K hK
            have e8 := hA.par 8 (by kernel_rfl)
            refine opStep none 0 rfl rfl (fun c hc => by cases hc) ?_
            go_simp
            exact hK _ _ rfl (Below.refl _ _) trivial
          · -- 9
            intro li a1 W2 hA K hK
            have e4 := hA.par 4 (by kernel_rfl)
            refine opStep none 0 rfl rfl (fun c hc => by cases hc) ?_
            go_simp
            exact hK _ _ rfl (Below.refl _ _) trivial
          · -- 10
            intro li a1 W2 hA K hK
            have e7 := hA.par 7 (by kernel_rfl)
            refine opStep none 0 rfl rfl (fun c hc => by cases hc) ?_
            go_simp
            exact hK _ _ rfl (Below.refl _ _) trivial
          · -- 11
            intro li a1 W2 hA K hK
            have e34 : a1.tmps.getD 34 undef = .slice (some a5) N c5 := hA.val 9 34 (by kernel_rfl) (by kernel_rfl)
            have e35 : a1.tmps.getD 35 undef = .int .i64 (k : Int) := hA.val 10 35 (by kernel_rfl) (by kernel_rfl)
            refine opStep none 0 rfl rfl (fun c hc => by cases hc) ?_
            go_simp
            exact hK _ _ (by first | rfl | exact congrArg (fun q => Value.pointer (some q)) (add_blk _ _)) (Below.refl _ _) trivial
          · -- 12
            intro li a1 W2 hA K hK
            have e36 : a1.tmps.getD 36 undef = .pointer (some (a5.add (k * 2))) := hA.val 11 36 (by kernel_rfl) (by kernel_rfl)
            refine opStep none 0 rfl rfl (fun c hc => by cases hc) ?_
            go_simp
            exact hK _ _ rfl (Below.refl _ _) trivial
          · -- 13
            intro li a1 W2 hA K hK
            have e37 : a1.tmps.getD 37 undef = .pointer (some (a5.add (k * 2))) := hA.val 12 37 (by kernel_rfl) (by kernel_rfl)
            have q1 := (hA.st.cell (World.block_lt_of_cell? _ _ G4.out)).trans G4.out
            refine opStep none 0 rfl rfl (fun c hc => by cases hc) ?_
            go_simp
            exact hK _ _ rfl (Below.refl _ _) trivial
          · -- 14
            intro li a1 W2 hA K hK
            have e33 : a1.tmps.getD 33 undef = .int .i64 x := hA.val 8 33 (by kernel_rfl) (by kernel_rfl)
            have e38 : a1.tmps.getD 38 undef = .int .i64 p1 := hA.val 13 38 (by kernel_rfl) (by kernel_rfl)
            refine opStep none 0 rfl rfl (fun c hc => by cases hc) ?_
            go_simp
            exact hK _ _ (by first | rfl | exact congrArg (Value.int .i64) hw2 | (simp [hw2])) (Below.refl _ _) trivial
          · -- 15
            intro li a1 W2 hA K hK
            have e32 : a1.tmps.getD 32 undef = .int .i64 (p2 - x) := hA.val 7 32 (by kernel_rfl) (by kernel_rfl)
            have e39 : a1.tmps.getD 39 undef = .int .i64 (x - p1) := hA.val 14 39 (by kernel_rfl) (by kernel_rfl)
            refine opStep none 0 rfl rfl (fun c hc => by cases hc) ?_
            go_simp
            exact hK _ _ (congrArg (Value.int .i64) (by split <;> omega)) (Below.refl _ _) trivial
          · -- 16
            intro li a1 W2 hA K hK
            have e40 : a1.tmps.getD 40 undef = .int .i64 (max (p2 - x) (x - p1)) := hA.val 15 40 (by kernel_rfl) (by kernel_rfl)
            have e40' := e40
            rw [Array.getD_eq_getD_getElem?] at e40'
            refine opStep none 0 rfl rfl (fun c hc => by cases hc) ?_
            go_simp
            exact hK _ _ ⟨_, rfl, Blk.new _ _ _⟩ ((Below.refl _ _).alloc (Nat.le_refl _) _) trivial
        · intro li a1 W2 hD
          obtain ⟨gl, e41, hgl⟩ := hD.val 16 41 (by kernel_rfl) (by kernel_rfl)
          have e25 : a1.tmps.getD 25 undef = u6 := hD.val 0 25 (by kernel_rfl) (by kernel_rfl)
          have hst := hD.st
          have ho2 := row_kept (vo := .slice none 0 0) HO.out.1 (grown_of_below hst _) (.inl rfl)
          have hbw2 := HO.out.2.trans (hst.mono HO.out.2.size)
          have hsz2 := hbw2.size
          obtain ⟨i0, hi0, hz0, hz1, hz2⟩ := info_parts int_info
          obtain ⟨v', w7, hrun, hr7, hg7, _, hf7⟩ := run_append_own_at (P := Try.prog) W2 wd.heap.size 22 22 3 i0 (.int .i64 0) 1 8 Try.underlying22 hi0 hz0 hz1 hz2 rfl (by decide) u6 k _ ho2 ⟨gl, 0, none⟩ 1 1 [.int .i64 (max (p2 - x) (x - p1))] rfl (one_blk hgl) (by intro u hu; simp at hu; subst hu; rfl) (by simp only [maxLen]; omega) (by omega) (by omega)
          have b6 := below_row' hbw2 ho2 (Nat.le_refl _) hg7 hsz2
          have HN2 := hid (show w7.ownsRow wd.heap.size 3 1 v' (k + 1) (((List.range (k + 1)).map (offOne m)).map (Value.int .i64)) ∧ Below wd.heap.size wd w7 from ⟨by rw [map_range_succ, List.map_append, HV.out]; exact hr7, b6⟩)
          have hkp2 := hD.keeps (ds := [25, 26, 27, 28, 29, 30, 31, 32, 33, 34, 35, 36, 37, 38, 39, 40, 41, 42, 6]) (by kernel_rfl)
          have hds := hD.size
          have hsz : a1.tmps.size = 45 := hD.size
          have hdd := hD.defers
          clear hst hr7 hg7 hf7 hgl ho2 hbw2 hsz2 b6
          refine tail_val (i := 17) (v := v') (W' := w7) none 0 rfl rfl rfl (fun c hc => by cases hc) (by simp [execOp, resolve, invoke, builtin, Act.eval, e25, e41, hrun, Result.andThen]) (by rw [hsz]; decide) ?_
          intro a3 s3 d3 f3 o3
          have hkp3 := keeps_then hkp2 o3 (by decide)
          refine tail_val (i := 18) (v := v') (W' := w7) none 0 rfl rfl rfl (fun c hc => by cases hc) (by go_simp) (by rw [s3, hsz]; decide) ?_
          intro a4 s4 d4 f4 o4
          have hkp4 := keeps_then hkp3 o4 (by decide)
          have e := act_mix [25, 26, 27, 28, 29, 30, 31, 32, 33, 34, 35, 36, 37, 38, 39, 40, 41, 42, 6] (s4.trans (s3.trans hds)) (d4.trans (d3.trans hdd)) (fun i _ hc => hkp4 i hc)
          have hg5 : (fun i => a4.tmps.getD i undef) 6 = v' := f4
          generalize (fun i => a4.tmps.getD i undef) = g' at e hg5
          refine wpListIn_nil ?_
          rw [e]
          clear e hD hkp2 hkp3 hkp4 s3 s4 d3 d4 f3 f4 o3 o4 e25 e41 hds hdd hsz hi0 hz0 hz1 hz2 hrun HO HV G4 G5
          simp only [mix, List.contains_cons, List.contains_nil, Nat.reduceAdd, Nat.reduceBEq, Bool.or_false, Bool.or_true, cond_true, cond_false, hg5]
          clear hg5
          go_wp2
          go_roundw
          case rel => exact ⟨k + 1, by omega, by go_num, HN2.out⟩
          case measure => first | (simp [intOf]; done) | (simp [intOf]; omega)
      · have hkI : decide ((k : Int) < (N : Int)) = false := by simp; omega
        obtain rfl : k = N := by omega
        obtain ⟨A7, c7, e7, r1, r2, r3, _, _⟩ := own_ints (by simp) ho
        have hol : offL m = (List.range k).map (offOne m) := by unfold offL; rw [HN.out]
        rw [← hol] at e7 r1 r3
        have hlk : (offL m).length = k := by rw [hol]; simp
        rw [hlk] at e7
        subst e7
        have HFIN := hid (show ∃ A c, Ending.returned (.tuple #[.slice A7 k c7, .int .i64 0]) = .returned (.tuple #[.slice A (offL m).length c, .int .i64 0]) ∧ IsInts wr wr.heap.size A (offL m) ∧ (offL m).length ≤ c ∧ c ≤ maxLen ∧ Below w.heap.size w wr from ⟨A7, c7, by rw [hlk], r3, r1, r2, HBD.out.trans (hbr.mono HBD.out.size)⟩)
        clear ho hbr r1 r2 r3 hol hlk HO
        go_wp2
        go_ret2
        exact HFIN.out
  · have hne : (cstM m != 0) = true := by simp [hc]
    simp only [ne_eq, hc, not_false_eq_true, if_true] at KC ⊢
    obtain ⟨z, hz⟩ : ∃ z, cstM m = z := ⟨_, rfl⟩
    rw [hz] at KC hne ⊢
    have KC := hid KC
    clear hc hz
    go_enter Try.func31, Try.ntmps31
    go_wp2_with fail
    refine KC.out.mono ?_
    rintro e wc ⟨rfl, hb⟩
    have HBC := hid (HB.out.trans (hb.mono HB.out.size))
    clear hb KC t0 t1 t2 t3
    go_wp2
    go_ret2
    exact ⟨rfl, HBC.out⟩
end Go.Proofs.Ytoeabajigfdkaaa
/- awake: the chapter's examples hold. No condition. -/
namespace Go.Proofs.Ytoeabajigfdkaaa
open Go.RowKit Go.Shelf

theorem town_chk : chkM townM = 0 := by decide +kernel
theorem town_cst : cstM townM = 0 := by decide +kernel
theorem town_car : car townM = [60, 40, 50, 10] := by decide +kernel
theorem town_sm : smD townM (ownL townM) (car townM) = [70, 90] := by decide +kernel
theorem town_bnd : bndL townM = [(50, 100), (60, 110)] := by decide +kernel
theorem town_off : offL townM = [30, 30] := by decide +kernel
theorem town_ask : askE townM 30 130 = 0 := by decide +kernel
theorem town_best : (bestB townM 30 130).map (fun p => (p.1, lst townM p.2)) = some (1, [0, 1, 1, 1]) := by decide +kernel
theorem ints_lit {w : World} {g : Nat} {xs : List Int} (h : Blk w g 3 (xs.map (Value.int .i64)).toArray) : IsInts w w.heap.size (some ⟨g, 0, none⟩) xs := ints_of h fun k x hk => by
  rw [List.getElem?_toArray, List.getElem?_map, hk]; rfl
theorem rng_at {w : World} {n : Nat} {a : Addr} {rs : List (Int × Int)} {k : Nat} {x y : Int} (h : IsRngs w n (some a) rs) (hk : rs[k]? = some (x, y)) : w.cell? (a.add (k * 2)) = some (.int .i64 x) ∧ w.cell? ⟨(a.add (k * 2)).block, (a.add (k * 2)).off + 1, none⟩ = some (.int .i64 y) := by
  obtain ⟨a', e, _, h0, h1⟩ := h k _ hk
  cases e
  exact ⟨h0, h1⟩
theorem carry_town {w : World} {g1 g2 g3 : Nat} (h : TownAt g1 g2 g3 w) : Calls Try.prog 20 #[.agg #[.slice (some ⟨g1, 0, none⟩) 2 2, .int .i64 2, .slice (some ⟨g2, 0, none⟩) 4 4, .slice (some ⟨g3, 0, none⟩) 3 3]] w fun e w' => ∃ A1 c1 A2 c2, e = .returned (.tuple #[.slice A1 4 c1, .slice A2 2 c2, .int .i64 0]) ∧ (IsInts w' w'.heap.size A1 [60, 40, 50, 10] ∧ 4 ≤ c1 ∧ c1 ≤ maxLen) ∧ (IsInts w' w'.heap.size A2 [70, 90] ∧ 2 ≤ c2 ∧ c2 ≤ maxLen) ∧ Below w.heap.size w w' := by
  refine (carry_any townM _ _ _ _ _ _ w h.min).mono fun e w' h' => ?_
  rw [if_neg (by simp [town_chk])] at h'
  obtain ⟨⟨A1, c1⟩, ⟨A2, c2⟩, he, h1, h2, h3, h4, h5, h6, h7⟩ := h'
  rw [town_car] at he h1 h2 h4 h5
  rw [show smD townM (ownL townM) [60, 40, 50, 10] = [70, 90] by rw [← town_car]; exact town_sm] at he h4 h5
  exact ⟨A1, c1, A2, c2, he, ⟨h1, h2, h3⟩, ⟨h4, h5, h6⟩, h7⟩
theorem bounds_town {w : World} {g1 g2 g3 : Nat} (h : TownAt g1 g2 g3 w) : Calls Try.prog 27 #[.agg #[.slice (some ⟨g1, 0, none⟩) 2 2, .int .i64 2, .slice (some ⟨g2, 0, none⟩) 4 4, .slice (some ⟨g3, 0, none⟩) 3 3]] w fun e w' => ∃ a c, e = .returned (.tuple #[.slice (some a) 2 c, .int .i64 0]) ∧ IsRngs w' w'.heap.size (some a) [(50, 100), (60, 110)] ∧ Below w.heap.size w w' := by
  refine (bounds_any townM _ _ _ _ _ _ w h.min).mono fun e w' h' => ?_
  rw [if_neg (by simp [town_cst])] at h'
  obtain ⟨A, c, he, h1, h2, h3, h4⟩ := h'
  rw [town_bnd] at he h1
  obtain ⟨a, e2, _⟩ := h1 0 _ rfl
  subst e2
  exact ⟨a, c, he, h1, h4⟩
theorem off_town {w : World} {g1 g2 g3 : Nat} (h : TownAt g1 g2 g3 w) : Calls Try.prog 31 #[.agg #[.slice (some ⟨g1, 0, none⟩) 2 2, .int .i64 2, .slice (some ⟨g2, 0, none⟩) 4 4, .slice (some ⟨g3, 0, none⟩) 3 3]] w fun e w' => ∃ A c, e = .returned (.tuple #[.slice A 2 c, .int .i64 0]) ∧ (IsInts w' w'.heap.size A [30, 30] ∧ 2 ≤ c ∧ c ≤ maxLen) ∧ Below w.heap.size w w' := by
  refine (off_any townM _ _ _ _ _ _ w h.min).mono fun e w' h' => ?_
  rw [if_neg (by simp [town_cst])] at h'
  obtain ⟨A, c, he, h1, h2, h3, h4⟩ := h'
  rw [town_off] at he h1 h2
  exact ⟨A, c, he, ⟨h1, h2, h3⟩, h4⟩
theorem best_town {w : World} {g1 g2 g3 : Nat} (h : TownAt g1 g2 g3 w) : Calls Try.prog 29 #[.agg #[.slice (some ⟨g1, 0, none⟩) 2 2, .int .i64 2, .slice (some ⟨g2, 0, none⟩) 4 4, .slice (some ⟨g3, 0, none⟩) 3 3], .agg #[.int .i64 30, .int .i64 130]] w fun e w' => ∃ A c, e = .returned (.tuple #[.slice A 4 c, .int .i64 1, .int .i64 0]) ∧ (IsInts w' w'.heap.size A [0, 1, 1, 1] ∧ 4 ≤ c ∧ c ≤ maxLen) ∧ Below w.heap.size w w' := by
  refine (bbest_ok townM _ _ _ _ _ _ 30 130 w h.min town_ask).mono fun e w' h' => ?_
  obtain ⟨hb, h'⟩ := h'
  have q := town_best
  cases hx : bestB townM 30 130 with
  | none => rw [hx] at q; cases q
  | some p =>
    obtain ⟨j, l⟩ := p
    rw [hx] at q h'
    simp only [Option.map_some, Option.some.injEq, Prod.mk.injEq] at q
    obtain ⟨rfl, q2⟩ := q
    obtain ⟨A, c, he, h1, h2, h3⟩ := h'
    rw [q2] at he h1 h3
    exact ⟨A, c, he, ⟨h3, h1, h2⟩, hb⟩

set_option maxRecDepth 100000 in
set_option maxHeartbeats 4000000 in
theorem awake_any (w : World) : Calls Try.prog 17 #[] w fun e w' => e = .returned (.bool true) ∧ Below w.heap.size w w' := by
  go_enter Try.func17, Try.ntmps17
  go_wp2_with fail
  refine (town_any w).mono ?_
  rintro e w1 ⟨g1, g2, g3, rfl, _, _, _, ht, hb⟩
  have H1 := hid (And.intro ht hb)
  clear ht hb
  go_wp2_with fail
  refine (carry_town H1.out.1).mono ?_
  rintro e w2 ⟨A1, c1, A2, c2, rfl, h1, h2, hb⟩
  have H2 := hid (And.intro h1 (And.intro h2 (H1.out.2.trans (hb.mono H1.out.2.size))))
  clear h1 h2 hb H1
  go_wp2_with fail
  refine (town_any w2).mono ?_
  rintro e w3 ⟨g4, g5, g6, rfl, _, _, _, ht, hb⟩
  have H3 := hid (And.intro ht (And.intro (H2.out.1.imp (fun q => q.at_ hb) id) (And.intro (H2.out.2.1.imp (fun q => q.at_ hb) id) (H2.out.2.2.trans (hb.mono H2.out.2.2.size)))))
  clear ht hb H2
  go_wp2_with fail
  refine (bounds_town H3.out.1).mono ?_
  rintro e w4 ⟨aB, cB, rfl, h3, hb⟩
  have H4 := hid (And.intro (H3.out.2.1.imp (fun q => q.at_ hb) id) (And.intro (H3.out.2.2.1.imp (fun q => q.at_ hb) id) (And.intro h3 (H3.out.2.2.2.trans (hb.mono H3.out.2.2.2.size)))))
  clear h3 hb H3
  go_wp2_with fail
  refine (town_any w4).mono ?_
  rintro e w5 ⟨g7, g8, g9, rfl, _, _, _, ht, hb⟩
  have H5 := hid (And.intro ht (And.intro (H4.out.1.imp (fun q => q.at_ hb) id) (And.intro (H4.out.2.1.imp (fun q => q.at_ hb) id) (And.intro (H4.out.2.2.1.at_ hb) (H4.out.2.2.2.trans (hb.mono H4.out.2.2.2.size))))))
  clear ht hb H4
  go_wp2_with fail
  refine (off_town H5.out.1).mono ?_
  rintro e w6 ⟨A3, c3, rfl, h3, hb⟩
  have H6 := hid (And.intro (H5.out.2.1.imp (fun q => q.at_ hb) id) (And.intro (H5.out.2.2.1.imp (fun q => q.at_ hb) id) (And.intro (H5.out.2.2.2.1.at_ hb) (And.intro h3 (H5.out.2.2.2.2.trans (hb.mono H5.out.2.2.2.2.size))))))
  clear h3 hb H5
  go_wp2_with fail
  refine (town_any w6).mono ?_
  rintro e w7 ⟨ga, gb, gc, rfl, _, _, _, ht, hb⟩
  have H7 := hid (And.intro ht (And.intro (H6.out.1.imp (fun q => q.at_ hb) id) (And.intro (H6.out.2.1.imp (fun q => q.at_ hb) id) (And.intro (H6.out.2.2.1.at_ hb) (And.intro (H6.out.2.2.2.1.imp (fun q => q.at_ hb) id) (H6.out.2.2.2.2.trans (hb.mono H6.out.2.2.2.2.size)))))))
  clear ht hb H6
  go_wp2_with fail
  refine (between_any _ _ _).mono ?_
  rintro e w8 ⟨rfl, hb⟩
  have H8 := hid (And.intro (H7.out.1.keep hb) (And.intro (H7.out.2.1.imp (fun q => q.at_ hb) id) (And.intro (H7.out.2.2.1.imp (fun q => q.at_ hb) id) (And.intro (H7.out.2.2.2.1.at_ hb) (And.intro (H7.out.2.2.2.2.1.imp (fun q => q.at_ hb) id) (H7.out.2.2.2.2.2.trans (hb.mono H7.out.2.2.2.2.2.size)))))))
  clear hb H7
  go_wp2_with fail
  refine (best_town H8.out.1).mono ?_
  rintro e w9 ⟨A4, c4, rfl, h4, hb⟩
  have H9 := hid (And.intro (H8.out.2.1.imp (fun q => q.at_ hb) id) (And.intro (H8.out.2.2.1.imp (fun q => q.at_ hb) id) (And.intro (H8.out.2.2.2.1.at_ hb) (And.intro (H8.out.2.2.2.2.1.imp (fun q => q.at_ hb) id) (And.intro h4 (H8.out.2.2.2.2.2.trans (hb.mono H8.out.2.2.2.2.2.size)))))))
  clear h4 hb H8
  have H8 := H9
  clear H9
  go_wp2
  refine (wpIn_wide (n := 0)).1 ?_
  refine wpIn_region_each 57 (fun i v W' => match i with | 0 => v = .int .i64 0 | 1 => v = .bool true | 2 => v = .bool true | 3 => v = .slice A1 4 c1 | 4 => ∃ g, v = .slice (some ⟨g, 0, none⟩) 4 4 ∧ Blk W' g 3 #[.int .i64 60, .int .i64 40, .int .i64 50, .int .i64 10] | 5 => v = .bool true | 6 => v = .bool true | 7 => v = .bool true | 8 => v = .slice A2 2 c2 | 9 => ∃ g, v = .slice (some ⟨g, 0, none⟩) 2 2 ∧ Blk W' g 3 #[.int .i64 70, .int .i64 90] | 10 => v = .bool true | 11 => v = .bool true | 12 => v = .bool true | 13 => v = .int .i64 0 | 14 => v = .bool true | 15 => v = .bool true | 16 => v = .bool true | 17 => v = .slice (some aB) 2 cB | 18 => v = .int .i64 2 | 19 => v = .bool true | 20 => v = .bool true | 21 => v = .bool true | 22 => v = .slice (some aB) 2 cB | 23 => v = .pointer (some (aB.add 0)) | 24 => v = .agg #[.int .i64 50, .int .i64 100] | 25 => v = .agg #[.int .i64 50, .int .i64 100] | 26 => v = .bool true | 27 => v = .bool true | 28 => v = .bool true | 29 => v = .slice (some aB) 2 cB | 30 => v = .pointer (some (aB.add 2)) | 31 => v = .agg #[.int .i64 60, .int .i64 110] | 32 => v = .agg #[.int .i64 60, .int .i64 110] | 33 => v = .bool true | 34 => v = .bool true | 35 => v = .bool true | 36 => v = .int .i64 0 | 37 => v = .bool true | 38 => v = .bool true | 39 => v = .bool true | 40 => v = .slice A3 2 c3 | 41 => ∃ g, v = .slice (some ⟨g, 0, none⟩) 2 2 ∧ Blk W' g 3 #[.int .i64 30, .int .i64 30] | 42 => v = .bool true | 43 => v = .bool true | 44 => v = .bool true | 45 => v = .int .i64 0 | 46 => v = .bool true | 47 => v = .bool true | 48 => v = .bool true | 49 => v = .slice A4 4 c4 | 50 => ∃ g, v = .slice (some ⟨g, 0, none⟩) 4 4 ∧ Blk W' g 3 #[.int .i64 0, .int .i64 1, .int .i64 1, .int .i64 1] | 51 => v = .bool true | 52 => v = .bool true | 53 => v = .bool true | 54 => v = .int .i64 1 | 55 => v = .bool true | 56 => v = .bool true | _ => True) (fun A B => Below A.heap.size A B) (fun _ _ => True) (by kernel_rfl) (by kernel_rfl) ?_ (fun h k => h.trans (k.mono h.size)) ⟨rfl, rfl, rfl, Nat.le_refl _, fun _ _ => rfl⟩ trivial (by kernel_rfl) ?_ ?_
  · intro i v W1 W2 hb h
    match i, h with
    | 0, h => exact h
    | 1, h => exact h
    | 2, h => exact h
    | 3, h => exact h
    | 4, h =>
      obtain ⟨g, rfl, h1⟩ := h
      exact ⟨g, rfl, h1.keep hb⟩
    | 5, h => exact h
    | 6, h => exact h
    | 7, h => exact h
    | 8, h => exact h
    | 9, h =>
      obtain ⟨g, rfl, h1⟩ := h
      exact ⟨g, rfl, h1.keep hb⟩
    | 10, h => exact h
    | 11, h => exact h
    | 12, h => exact h
    | 13, h => exact h
    | 14, h => exact h
    | 15, h => exact h
    | 16, h => exact h
    | 17, h => exact h
    | 18, h => exact h
    | 19, h => exact h
    | 20, h => exact h
    | 21, h => exact h
    | 22, h => exact h
    | 23, h => exact h
    | 24, h => exact h
    | 25, h => exact h
    | 26, h => exact h
    | 27, h => exact h
    | 28, h => exact h
    | 29, h => exact h
    | 30, h => exact h
    | 31, h => exact h
    | 32, h => exact h
    | 33, h => exact h
    | 34, h => exact h
    | 35, h => exact h
    | 36, h => exact h
    | 37, h => exact h
    | 38, h => exact h
    | 39, h => exact h
    | 40, h => exact h
    | 41, h =>
      obtain ⟨g, rfl, h1⟩ := h
      exact ⟨g, rfl, h1.keep hb⟩
    | 42, h => exact h
    | 43, h => exact h
    | 44, h => exact h
    | 45, h => exact h
    | 46, h => exact h
    | 47, h => exact h
    | 48, h => exact h
    | 49, h => exact h
    | 50, h =>
      obtain ⟨g, rfl, h1⟩ := h
      exact ⟨g, rfl, h1.keep hb⟩
    | 51, h => exact h
    | 52, h => exact h
    | 53, h => exact h
    | 54, h => exact h
    | 55, h => exact h
    | 56, h => exact h
    | i + 57, h => trivial
  · refine ⟨?_, ?_, ?_, ?_, ?_, ?_, ?_, ?_, ?_, ?_, ?_, ?_, ?_, ?_, ?_, ?_, ?_, ?_, ?_, ?_, ?_, ?_, ?_, ?_, ?_, ?_, ?_, ?_, ?_, ?_, ?_, ?_, ?_, ?_, ?_, ?_, ?_, ?_, ?_, ?_, ?_, ?_, ?_, ?_, ?_, ?_, ?_, ?_, ?_, ?_, ?_, ?_, ?_, ?_, ?_, ?_, ?_, trivial⟩
    · -- 0
      intro li a1 W2 hA K hK
      have e3 := hA.par 3 (by kernel_rfl)
      refine opStep none 0 rfl rfl (fun c hc => by cases hc) ?_
      go_simp
      exact hK _ _ rfl (Below.refl _ _) trivial
    · -- 1
      intro li a1 W2 hA K hK
      have e34 : a1.tmps.getD 34 undef = .int .i64 0 := hA.val 0 34 (by kernel_rfl) (by kernel_rfl)
      refine opStep none 0 rfl rfl (fun c hc => by cases hc) ?_
      go_simp
      exact hK _ _ rfl (Below.refl _ _) trivial
    · -- 2
      intro li a1 W2 hA K hK
      have e35 : a1.tmps.getD 35 undef = .bool true := hA.val 1 35 (by kernel_rfl) (by kernel_rfl)
      refine opStep none 0 rfl rfl (fun c hc => by cases hc) ?_
      go_simp
      exact hK _ _ rfl (Below.refl _ _) trivial
    · -- 3
      intro li a1 W2 hA K hK
      have e1 := hA.par 1 (by kernel_rfl)
      have eg36 : a1.tmps.getD 36 undef = .bool true := hA.val 2 36 (by kernel_rfl) (by kernel_rfl)
      refine opStep none 0 rfl (wanted_yes (j := 2) (d := 36) (b := true) rfl (by kernel_rfl) eg36) (fun c hc => by cases hc) ?_
      go_simp
      exact hK _ _ rfl (Below.refl _ _) trivial
    · -- 4
      intro li a1 W2 hA K hK
      have eg36 : a1.tmps.getD 36 undef = .bool true := hA.val 2 36 (by kernel_rfl) (by kernel_rfl)
      refine opStep none 0 rfl (wanted_yes (j := 2) (d := 36) (b := true) rfl (by kernel_rfl) eg36) (fun c hc => by cases hc) ?_
      go_simp
      exact hK _ _ ⟨_, rfl, Blk.new _ _ _⟩ ((Below.refl _ _).alloc (Nat.le_refl _) _) trivial
    · -- 5
      intro li a1 W2 hA K hK
      have e37 : a1.tmps.getD 37 undef = .slice A1 4 c1 := hA.val 3 37 (by kernel_rfl) (by kernel_rfl)
      have e38 := hA.val 4 38 (by kernel_rfl) (by kernel_rfl)
      have eg36 : a1.tmps.getD 36 undef = .bool true := hA.val 2 36 (by kernel_rfl) (by kernel_rfl)
      obtain ⟨gg, e38', hg1⟩ := e38
      have HS := hid (mints_any A1 c1 [60, 40, 50, 10] (some ⟨gg, 0, none⟩) 4 [60, 40, 50, 10] W2 (H8.out.1.1.at_ hA.st) (ints_lit hg1) H8.out.1.2.1 H8.out.1.2.2 (by decide) (by decide))
      refine opStep none 0 rfl (wanted_yes (j := 2) (d := 36) (b := true) rfl (by kernel_rfl) eg36) (fun c hc => by cases hc) ?_
      go_simp
      refine HS.out.mono ?_
      rintro e W3 ⟨rfl, hb3⟩
      exact hK _ _ rfl hb3 trivial
    · -- 6
      intro li a1 W2 hA K hK
      have e36 : a1.tmps.getD 36 undef = .bool true := hA.val 2 36 (by kernel_rfl) (by kernel_rfl)
      have e39 : a1.tmps.getD 39 undef = .bool true := hA.val 5 39 (by kernel_rfl) (by kernel_rfl)
      refine opStep none 0 rfl rfl (fun c hc => by cases hc) ?_
      go_simp
      exact hK _ _ rfl (Below.refl _ _) trivial
    · -- 7
      intro li a1 W2 hA K hK
      have e40 : a1.tmps.getD 40 undef = .bool true := hA.val 6 40 (by kernel_rfl) (by kernel_rfl)
      refine opStep none 0 rfl rfl (fun c hc => by cases hc) ?_
      go_simp
      exact hK _ _ rfl (Below.refl _ _) trivial
    · -- 8
      intro li a1 W2 hA K hK
      have e2 := hA.par 2 (by kernel_rfl)
      have eg41 : a1.tmps.getD 41 undef = .bool true := hA.val 7 41 (by kernel_rfl) (by kernel_rfl)
      refine opStep none 0 rfl (wanted_yes (j := 7) (d := 41) (b := true) rfl (by kernel_rfl) eg41) (fun c hc => by cases hc) ?_
      go_simp
      exact hK _ _ rfl (Below.refl _ _) trivial
    · -- 9
      intro li a1 W2 hA K hK
      have eg41 : a1.tmps.getD 41 undef = .bool true := hA.val 7 41 (by kernel_rfl) (by kernel_rfl)
      refine opStep none 0 rfl (wanted_yes (j := 7) (d := 41) (b := true) rfl (by kernel_rfl) eg41) (fun c hc => by cases hc) ?_
      go_simp
      exact hK _ _ ⟨_, rfl, Blk.new _ _ _⟩ ((Below.refl _ _).alloc (Nat.le_refl _) _) trivial
    · -- 10
      intro li a1 W2 hA K hK
      have e42 : a1.tmps.getD 42 undef = .slice A2 2 c2 := hA.val 8 42 (by kernel_rfl) (by kernel_rfl)
      have e43 := hA.val 9 43 (by kernel_rfl) (by kernel_rfl)
      have eg41 : a1.tmps.getD 41 undef = .bool true := hA.val 7 41 (by kernel_rfl) (by kernel_rfl)
      obtain ⟨gg, e43', hg1⟩ := e43
      have HS := hid (mints_any A2 c2 [70, 90] (some ⟨gg, 0, none⟩) 2 [70, 90] W2 (H8.out.2.1.1.at_ hA.st) (ints_lit hg1) H8.out.2.1.2.1 H8.out.2.1.2.2 (by decide) (by decide))
      refine opStep none 0 rfl (wanted_yes (j := 7) (d := 41) (b := true) rfl (by kernel_rfl) eg41) (fun c hc => by cases hc) ?_
      go_simp
      refine HS.out.mono ?_
      rintro e W3 ⟨rfl, hb3⟩
      exact hK _ _ rfl hb3 trivial
    · -- 11
      intro li a1 W2 hA K hK
      have e41 : a1.tmps.getD 41 undef = .bool true := hA.val 7 41 (by kernel_rfl) (by kernel_rfl)
      have e44 : a1.tmps.getD 44 undef = .bool true := hA.val 10 44 (by kernel_rfl) (by kernel_rfl)
      refine opStep none 0 rfl rfl (fun c hc => by cases hc) ?_
      go_simp
      exact hK _ _ rfl (Below.refl _ _) trivial
    · -- 12
      intro li a1 W2 hA K hK
      have e45 : a1.tmps.getD 45 undef = .bool true := hA.val 11 45 (by kernel_rfl) (by kernel_rfl)
      refine opStep none 0 rfl rfl (fun c hc => by cases hc) ?_
      go_simp
      exact hK _ _ rfl (Below.refl _ _) trivial
    · -- 13
      intro li a1 W2 hA K hK
      have e5 := hA.par 5 (by kernel_rfl)
      have eg46 : a1.tmps.getD 46 undef = .bool true := hA.val 12 46 (by kernel_rfl) (by kernel_rfl)
      refine opStep none 0 rfl (wanted_yes (j := 12) (d := 46) (b := true) rfl (by kernel_rfl) eg46) (fun c hc => by cases hc) ?_
      go_simp
      exact hK _ _ rfl (Below.refl _ _) trivial
    · -- 14
      intro li a1 W2 hA K hK
      have e47 : a1.tmps.getD 47 undef = .int .i64 0 := hA.val 13 47 (by kernel_rfl) (by kernel_rfl)
      have eg46 : a1.tmps.getD 46 undef = .bool true := hA.val 12 46 (by kernel_rfl) (by kernel_rfl)
      refine opStep none 0 rfl (wanted_yes (j := 12) (d := 46) (b := true) rfl (by kernel_rfl) eg46) (fun c hc => by cases hc) ?_
      go_simp
      exact hK _ _ rfl (Below.refl _ _) trivial
    · -- 15
      intro li a1 W2 hA K hK
      have e46 : a1.tmps.getD 46 undef = .bool true := hA.val 12 46 (by kernel_rfl) (by kernel_rfl)
      have e48 : a1.tmps.getD 48 undef = .bool true := hA.val 14 48 (by kernel_rfl) (by kernel_rfl)
      refine opStep none 0 rfl rfl (fun c hc => by cases hc) ?_
      go_simp
      exact hK _ _ rfl (Below.refl _ _) trivial
    · -- 16
      intro li a1 W2 hA K hK
      have e49 : a1.tmps.getD 49 undef = .bool true := hA.val 15 49 (by kernel_rfl) (by kernel_rfl)
      refine opStep none 0 rfl rfl (fun c hc => by cases hc) ?_
      go_simp
      exact hK _ _ rfl (Below.refl _ _) trivial
    · -- 17
      intro li a1 W2 hA K hK
      have e4 := hA.par 4 (by kernel_rfl)
      have eg50 : a1.tmps.getD 50 undef = .bool true := hA.val 16 50 (by kernel_rfl) (by kernel_rfl)
      refine opStep none 0 rfl (wanted_yes (j := 16) (d := 50) (b := true) rfl (by kernel_rfl) eg50) (fun c hc => by cases hc) ?_
      go_simp
      exact hK _ _ rfl (Below.refl _ _) trivial
    · -- 18
      intro li a1 W2 hA K hK
      have e51 : a1.tmps.getD 51 undef = .slice (some aB) 2 cB := hA.val 17 51 (by kernel_rfl) (by kernel_rfl)
      have eg50 : a1.tmps.getD 50 undef = .bool true := hA.val 16 50 (by kernel_rfl) (by kernel_rfl)
      refine opStep none 0 rfl (wanted_yes (j := 16) (d := 50) (b := true) rfl (by kernel_rfl) eg50) (fun c hc => by cases hc) ?_
      go_simp
      exact hK _ _ rfl (Below.refl _ _) trivial
    · -- 19
      intro li a1 W2 hA K hK
      have e52 : a1.tmps.getD 52 undef = .int .i64 2 := hA.val 18 52 (by kernel_rfl) (by kernel_rfl)
      have eg50 : a1.tmps.getD 50 undef = .bool true := hA.val 16 50 (by kernel_rfl) (by kernel_rfl)
      refine opStep none 0 rfl (wanted_yes (j := 16) (d := 50) (b := true) rfl (by kernel_rfl) eg50) (fun c hc => by cases hc) ?_
      go_simp
      exact hK _ _ rfl (Below.refl _ _) trivial
    · -- 20
      intro li a1 W2 hA K hK
      have e50 : a1.tmps.getD 50 undef = .bool true := hA.val 16 50 (by kernel_rfl) (by kernel_rfl)
      have e53 : a1.tmps.getD 53 undef = .bool true := hA.val 19 53 (by kernel_rfl) (by kernel_rfl)
      refine opStep none 0 rfl rfl (fun c hc => by cases hc) ?_
      go_simp
      exact hK _ _ rfl (Below.refl _ _) trivial
    · -- 21
      intro li a1 W2 hA K hK
      have e54 : a1.tmps.getD 54 undef = .bool true := hA.val 20 54 (by kernel_rfl) (by kernel_rfl)
      refine opStep none 0 rfl rfl (fun c hc => by cases hc) ?_
      go_simp
      exact hK _ _ rfl (Below.refl _ _) trivial
    · -- 22
      intro li a1 W2 hA K hK
      have e4 := hA.par 4 (by kernel_rfl)
      have eg55 : a1.tmps.getD 55 undef = .bool true := hA.val 21 55 (by kernel_rfl) (by kernel_rfl)
      refine opStep none 0 rfl (wanted_yes (j := 21) (d := 55) (b := true) rfl (by kernel_rfl) eg55) (fun c hc => by cases hc) ?_
      go_simp
      exact hK _ _ rfl (Below.refl _ _) trivial
    · -- 23
      intro li a1 W2 hA K hK
      have e56 : a1.tmps.getD 56 undef = .slice (some aB) 2 cB := hA.val 22 56 (by kernel_rfl) (by kernel_rfl)
      have eg55 : a1.tmps.getD 55 undef = .bool true := hA.val 21 55 (by kernel_rfl) (by kernel_rfl)
      refine opStep none 0 rfl (wanted_yes (j := 21) (d := 55) (b := true) rfl (by kernel_rfl) eg55) (fun c hc => by cases hc) ?_
      go_simp
      exact hK _ _ rfl (Below.refl _ _) trivial
    · -- 24
      intro li a1 W2 hA K hK
      have e57 : a1.tmps.getD 57 undef = .pointer (some (aB.add 0)) := hA.val 23 57 (by kernel_rfl) (by kernel_rfl)
      have eg55 : a1.tmps.getD 55 undef = .bool true := hA.val 21 55 (by kernel_rfl) (by kernel_rfl)
      obtain ⟨q1, q2⟩ := rng_at (H8.out.2.2.1.at_ hA.st) (k := 0) (x := 50) (y := 100) rfl
      have q3 : W2.cell? aB = some (.int .i64 50) := by simpa [Addr.add] using q1
      have q4 : W2.cell? ⟨aB.block, aB.off + 1, none⟩ = some (.int .i64 100) := q2
      clear q1 q2
      refine opStep none 0 rfl (wanted_yes (j := 21) (d := 55) (b := true) rfl (by kernel_rfl) eg55) (fun c hc => by cases hc) ?_
      go_simp
      exact hK _ _ rfl (Below.refl _ _) trivial
    · -- 25
      intro li a1 W2 hA K hK
      have eg55 : a1.tmps.getD 55 undef = .bool true := hA.val 21 55 (by kernel_rfl) (by kernel_rfl)
      refine opStep none 0 rfl (wanted_yes (j := 21) (d := 55) (b := true) rfl (by kernel_rfl) eg55) (fun c hc => by cases hc) ?_
      go_simp
      refine (between_any _ _ _).mono ?_
      rintro e W3 ⟨rfl, hb3⟩
      exact hK _ _ rfl hb3 trivial
    · -- 26
      intro li a1 W2 hA K hK
      have e58 : a1.tmps.getD 58 undef = .agg #[.int .i64 50, .int .i64 100] := hA.val 24 58 (by kernel_rfl) (by kernel_rfl)
      have e59 : a1.tmps.getD 59 undef = .agg #[.int .i64 50, .int .i64 100] := hA.val 25 59 (by kernel_rfl) (by kernel_rfl)
      have eg55 : a1.tmps.getD 55 undef = .bool true := hA.val 21 55 (by kernel_rfl) (by kernel_rfl)
      refine opStep none 0 rfl (wanted_yes (j := 21) (d := 55) (b := true) rfl (by kernel_rfl) eg55) (fun c hc => by cases hc) ?_
      go_simp
      exact hK _ _ rfl (Below.refl _ _) trivial
    · -- 27
      intro li a1 W2 hA K hK
      have e55 : a1.tmps.getD 55 undef = .bool true := hA.val 21 55 (by kernel_rfl) (by kernel_rfl)
      have e60 : a1.tmps.getD 60 undef = .bool true := hA.val 26 60 (by kernel_rfl) (by kernel_rfl)
      refine opStep none 0 rfl rfl (fun c hc => by cases hc) ?_
      go_simp
      exact hK _ _ rfl (Below.refl _ _) trivial
    · -- 28
      intro li a1 W2 hA K hK
      have e61 : a1.tmps.getD 61 undef = .bool true := hA.val 27 61 (by kernel_rfl) (by kernel_rfl)
      refine opStep none 0 rfl rfl (fun c hc => by cases hc) ?_
      go_simp
      exact hK _ _ rfl (Below.refl _ _) trivial
    · -- 29
      intro li a1 W2 hA K hK
      have e4 := hA.par 4 (by kernel_rfl)
      have eg62 : a1.tmps.getD 62 undef = .bool true := hA.val 28 62 (by kernel_rfl) (by kernel_rfl)
      refine opStep none 0 rfl (wanted_yes (j := 28) (d := 62) (b := true) rfl (by kernel_rfl) eg62) (fun c hc => by cases hc) ?_
      go_simp
      exact hK _ _ rfl (Below.refl _ _) trivial
    · -- 30
      intro li a1 W2 hA K hK
      have e63 : a1.tmps.getD 63 undef = .slice (some aB) 2 cB := hA.val 29 63 (by kernel_rfl) (by kernel_rfl)
      have eg62 : a1.tmps.getD 62 undef = .bool true := hA.val 28 62 (by kernel_rfl) (by kernel_rfl)
      refine opStep none 0 rfl (wanted_yes (j := 28) (d := 62) (b := true) rfl (by kernel_rfl) eg62) (fun c hc => by cases hc) ?_
      go_simp
      exact hK _ _ rfl (Below.refl _ _) trivial
    · -- 31
      intro li a1 W2 hA K hK
      have e64 : a1.tmps.getD 64 undef = .pointer (some (aB.add 2)) := hA.val 30 64 (by kernel_rfl) (by kernel_rfl)
      have eg62 : a1.tmps.getD 62 undef = .bool true := hA.val 28 62 (by kernel_rfl) (by kernel_rfl)
      obtain ⟨q1, q2⟩ := rng_at (H8.out.2.2.1.at_ hA.st) (k := 1) (x := 60) (y := 110) rfl
      have q3 : W2.cell? ⟨aB.block, aB.off + 2, none⟩ = some (.int .i64 60) := by simpa [Addr.add] using q1
      have q4 : W2.cell? ⟨aB.block, aB.off + 2 + 1, none⟩ = some (.int .i64 110) := q2
      clear q1 q2
      refine opStep none 0 rfl (wanted_yes (j := 28) (d := 62) (b := true) rfl (by kernel_rfl) eg62) (fun c hc => by cases hc) ?_
      go_simp
      exact hK _ _ rfl (Below.refl _ _) trivial
    · -- 32
      intro li a1 W2 hA K hK
      have eg62 : a1.tmps.getD 62 undef = .bool true := hA.val 28 62 (by kernel_rfl) (by kernel_rfl)
      refine opStep none 0 rfl (wanted_yes (j := 28) (d := 62) (b := true) rfl (by kernel_rfl) eg62) (fun c hc => by cases hc) ?_
      go_simp
      refine (between_any _ _ _).mono ?_
      rintro e W3 ⟨rfl, hb3⟩
      exact hK _ _ rfl hb3 trivial
    · -- 33
      intro li a1 W2 hA K hK
      have e65 : a1.tmps.getD 65 undef = .agg #[.int .i64 60, .int .i64 110] := hA.val 31 65 (by kernel_rfl) (by kernel_rfl)
      have e66 : a1.tmps.getD 66 undef = .agg #[.int .i64 60, .int .i64 110] := hA.val 32 66 (by kernel_rfl) (by kernel_rfl)
      have eg62 : a1.tmps.getD 62 undef = .bool true := hA.val 28 62 (by kernel_rfl) (by kernel_rfl)
      refine opStep none 0 rfl (wanted_yes (j := 28) (d := 62) (b := true) rfl (by kernel_rfl) eg62) (fun c hc => by cases hc) ?_
      go_simp
      exact hK _ _ rfl (Below.refl _ _) trivial
    · -- 34
      intro li a1 W2 hA K hK
      have e62 : a1.tmps.getD 62 undef = .bool true := hA.val 28 62 (by kernel_rfl) (by kernel_rfl)
      have e67 : a1.tmps.getD 67 undef = .bool true := hA.val 33 67 (by kernel_rfl) (by kernel_rfl)
      refine opStep none 0 rfl rfl (fun c hc => by cases hc) ?_
      go_simp
      exact hK _ _ rfl (Below.refl _ _) trivial
    · -- 35
      intro li a1 W2 hA K hK
      have e68 : a1.tmps.getD 68 undef = .bool true := hA.val 34 68 (by kernel_rfl) (by kernel_rfl)
      refine opStep none 0 rfl rfl (fun c hc => by cases hc) ?_
      go_simp
      exact hK _ _ rfl (Below.refl _ _) trivial
    · -- 36
      intro li a1 W2 hA K hK
      have e7 := hA.par 7 (by kernel_rfl)
      have eg69 : a1.tmps.getD 69 undef = .bool true := hA.val 35 69 (by kernel_rfl) (by kernel_rfl)
      refine opStep none 0 rfl (wanted_yes (j := 35) (d := 69) (b := true) rfl (by kernel_rfl) eg69) (fun c hc => by cases hc) ?_
      go_simp
      exact hK _ _ rfl (Below.refl _ _) trivial
    · -- 37
      intro li a1 W2 hA K hK
      have e70 : a1.tmps.getD 70 undef = .int .i64 0 := hA.val 36 70 (by kernel_rfl) (by kernel_rfl)
      have eg69 : a1.tmps.getD 69 undef = .bool true := hA.val 35 69 (by kernel_rfl) (by kernel_rfl)
      refine opStep none 0 rfl (wanted_yes (j := 35) (d := 69) (b := true) rfl (by kernel_rfl) eg69) (fun c hc => by cases hc) ?_
      go_simp
      exact hK _ _ rfl (Below.refl _ _) trivial
    · -- 38
      intro li a1 W2 hA K hK
      have e69 : a1.tmps.getD 69 undef = .bool true := hA.val 35 69 (by kernel_rfl) (by kernel_rfl)
      have e71 : a1.tmps.getD 71 undef = .bool true := hA.val 37 71 (by kernel_rfl) (by kernel_rfl)
      refine opStep none 0 rfl rfl (fun c hc => by cases hc) ?_
      go_simp
      exact hK _ _ rfl (Below.refl _ _) trivial
    · -- 39
      intro li a1 W2 hA K hK
      have e72 : a1.tmps.getD 72 undef = .bool true := hA.val 38 72 (by kernel_rfl) (by kernel_rfl)
      refine opStep none 0 rfl rfl (fun c hc => by cases hc) ?_
      go_simp
      exact hK _ _ rfl (Below.refl _ _) trivial
    · -- 40
      intro li a1 W2 hA K hK
      have e6 := hA.par 6 (by kernel_rfl)
      have eg73 : a1.tmps.getD 73 undef = .bool true := hA.val 39 73 (by kernel_rfl) (by kernel_rfl)
      refine opStep none 0 rfl (wanted_yes (j := 39) (d := 73) (b := true) rfl (by kernel_rfl) eg73) (fun c hc => by cases hc) ?_
      go_simp
      exact hK _ _ rfl (Below.refl _ _) trivial
    · -- 41
      intro li a1 W2 hA K hK
      have eg73 : a1.tmps.getD 73 undef = .bool true := hA.val 39 73 (by kernel_rfl) (by kernel_rfl)
      refine opStep none 0 rfl (wanted_yes (j := 39) (d := 73) (b := true) rfl (by kernel_rfl) eg73) (fun c hc => by cases hc) ?_
      go_simp
      exact hK _ _ ⟨_, rfl, Blk.new _ _ _⟩ ((Below.refl _ _).alloc (Nat.le_refl _) _) trivial
    · -- 42
      intro li a1 W2 hA K hK
      have e74 : a1.tmps.getD 74 undef = .slice A3 2 c3 := hA.val 40 74 (by kernel_rfl) (by kernel_rfl)
      have e75 := hA.val 41 75 (by kernel_rfl) (by kernel_rfl)
      have eg73 : a1.tmps.getD 73 undef = .bool true := hA.val 39 73 (by kernel_rfl) (by kernel_rfl)
      obtain ⟨gg, e75', hg1⟩ := e75
      have HS := hid (mints_any A3 c3 [30, 30] (some ⟨gg, 0, none⟩) 2 [30, 30] W2 (H8.out.2.2.2.1.1.at_ hA.st) (ints_lit hg1) H8.out.2.2.2.1.2.1 H8.out.2.2.2.1.2.2 (by decide) (by decide))
      refine opStep none 0 rfl (wanted_yes (j := 39) (d := 73) (b := true) rfl (by kernel_rfl) eg73) (fun c hc => by cases hc) ?_
      go_simp
      refine HS.out.mono ?_
      rintro e W3 ⟨rfl, hb3⟩
      exact hK _ _ rfl hb3 trivial
    · -- 43
      intro li a1 W2 hA K hK
      have e73 : a1.tmps.getD 73 undef = .bool true := hA.val 39 73 (by kernel_rfl) (by kernel_rfl)
      have e76 : a1.tmps.getD 76 undef = .bool true := hA.val 42 76 (by kernel_rfl) (by kernel_rfl)
      refine opStep none 0 rfl rfl (fun c hc => by cases hc) ?_
      go_simp
      exact hK _ _ rfl (Below.refl _ _) trivial
    · -- 44
      intro li a1 W2 hA K hK
      have e77 : a1.tmps.getD 77 undef = .bool true := hA.val 43 77 (by kernel_rfl) (by kernel_rfl)
      refine opStep none 0 rfl rfl (fun c hc => by cases hc) ?_
      go_simp
      exact hK _ _ rfl (Below.refl _ _) trivial
    · -- 45
      intro li a1 W2 hA K hK
      have e10 := hA.par 10 (by kernel_rfl)
      have eg78 : a1.tmps.getD 78 undef = .bool true := hA.val 44 78 (by kernel_rfl) (by kernel_rfl)
      refine opStep none 0 rfl (wanted_yes (j := 44) (d := 78) (b := true) rfl (by kernel_rfl) eg78) (fun c hc => by cases hc) ?_
      go_simp
      exact hK _ _ rfl (Below.refl _ _) trivial
    · -- 46
      intro li a1 W2 hA K hK
      have e79 : a1.tmps.getD 79 undef = .int .i64 0 := hA.val 45 79 (by kernel_rfl) (by kernel_rfl)
      have eg78 : a1.tmps.getD 78 undef = .bool true := hA.val 44 78 (by kernel_rfl) (by kernel_rfl)
      refine opStep none 0 rfl (wanted_yes (j := 44) (d := 78) (b := true) rfl (by kernel_rfl) eg78) (fun c hc => by cases hc) ?_
      go_simp
      exact hK _ _ rfl (Below.refl _ _) trivial
    · -- 47
      intro li a1 W2 hA K hK
      have e78 : a1.tmps.getD 78 undef = .bool true := hA.val 44 78 (by kernel_rfl) (by kernel_rfl)
      have e80 : a1.tmps.getD 80 undef = .bool true := hA.val 46 80 (by kernel_rfl) (by kernel_rfl)
      refine opStep none 0 rfl rfl (fun c hc => by cases hc) ?_
      go_simp
      exact hK _ _ rfl (Below.refl _ _) trivial
    · -- 48
      intro li a1 W2 hA K hK
      have e81 : a1.tmps.getD 81 undef = .bool true := hA.val 47 81 (by kernel_rfl) (by kernel_rfl)
      refine opStep none 0 rfl rfl (fun c hc => by cases hc) ?_
      go_simp
      exact hK _ _ rfl (Below.refl _ _) trivial
    · -- 49
      intro li a1 W2 hA K hK
      have e8 := hA.par 8 (by kernel_rfl)
      have eg82 : a1.tmps.getD 82 undef = .bool true := hA.val 48 82 (by kernel_rfl) (by kernel_rfl)
      refine opStep none 0 rfl (wanted_yes (j := 48) (d := 82) (b := true) rfl (by kernel_rfl) eg82) (fun c hc => by cases hc) ?_
      go_simp
      exact hK _ _ rfl (Below.refl _ _) trivial
    · -- 50
      intro li a1 W2 hA K hK
      have eg82 : a1.tmps.getD 82 undef = .bool true := hA.val 48 82 (by kernel_rfl) (by kernel_rfl)
      refine opStep none 0 rfl (wanted_yes (j := 48) (d := 82) (b := true) rfl (by kernel_rfl) eg82) (fun c hc => by cases hc) ?_
      go_simp
      exact hK _ _ ⟨_, rfl, Blk.new _ _ _⟩ ((Below.refl _ _).alloc (Nat.le_refl _) _) trivial
    · -- 51
      intro li a1 W2 hA K hK
      have e83 : a1.tmps.getD 83 undef = .slice A4 4 c4 := hA.val 49 83 (by kernel_rfl) (by kernel_rfl)
      have e84 := hA.val 50 84 (by kernel_rfl) (by kernel_rfl)
      have eg82 : a1.tmps.getD 82 undef = .bool true := hA.val 48 82 (by kernel_rfl) (by kernel_rfl)
      obtain ⟨gg, e84', hg1⟩ := e84
      have HS := hid (mints_any A4 c4 [0, 1, 1, 1] (some ⟨gg, 0, none⟩) 4 [0, 1, 1, 1] W2 (H8.out.2.2.2.2.1.1.at_ hA.st) (ints_lit hg1) H8.out.2.2.2.2.1.2.1 H8.out.2.2.2.2.1.2.2 (by decide) (by decide))
      refine opStep none 0 rfl (wanted_yes (j := 48) (d := 82) (b := true) rfl (by kernel_rfl) eg82) (fun c hc => by cases hc) ?_
      go_simp
      refine HS.out.mono ?_
      rintro e W3 ⟨rfl, hb3⟩
      exact hK _ _ rfl hb3 trivial
    · -- 52
      intro li a1 W2 hA K hK
      have e82 : a1.tmps.getD 82 undef = .bool true := hA.val 48 82 (by kernel_rfl) (by kernel_rfl)
      have e85 : a1.tmps.getD 85 undef = .bool true := hA.val 51 85 (by kernel_rfl) (by kernel_rfl)
      refine opStep none 0 rfl rfl (fun c hc => by cases hc) ?_
      go_simp
      exact hK _ _ rfl (Below.refl _ _) trivial
    · -- 53
      intro li a1 W2 hA K hK
      have e86 : a1.tmps.getD 86 undef = .bool true := hA.val 52 86 (by kernel_rfl) (by kernel_rfl)
      refine opStep none 0 rfl rfl (fun c hc => by cases hc) ?_
      go_simp
      exact hK _ _ rfl (Below.refl _ _) trivial
    · -- 54
      intro li a1 W2 hA K hK
      have e9 := hA.par 9 (by kernel_rfl)
      have eg87 : a1.tmps.getD 87 undef = .bool true := hA.val 53 87 (by kernel_rfl) (by kernel_rfl)
      refine opStep none 0 rfl (wanted_yes (j := 53) (d := 87) (b := true) rfl (by kernel_rfl) eg87) (fun c hc => by cases hc) ?_
      go_simp
      exact hK _ _ rfl (Below.refl _ _) trivial
    · -- 55
      intro li a1 W2 hA K hK
      have e88 : a1.tmps.getD 88 undef = .int .i64 1 := hA.val 54 88 (by kernel_rfl) (by kernel_rfl)
      have eg87 : a1.tmps.getD 87 undef = .bool true := hA.val 53 87 (by kernel_rfl) (by kernel_rfl)
      refine opStep none 0 rfl (wanted_yes (j := 53) (d := 87) (b := true) rfl (by kernel_rfl) eg87) (fun c hc => by cases hc) ?_
      go_simp
      exact hK _ _ rfl (Below.refl _ _) trivial
    · -- 56
      intro li a1 W2 hA K hK
      have e87 : a1.tmps.getD 87 undef = .bool true := hA.val 53 87 (by kernel_rfl) (by kernel_rfl)
      have e89 : a1.tmps.getD 89 undef = .bool true := hA.val 55 89 (by kernel_rfl) (by kernel_rfl)
      refine opStep none 0 rfl rfl (fun c hc => by cases hc) ?_
      go_simp
      exact hK _ _ rfl (Below.refl _ _) trivial
  · intro li a1 W2 hD
    have e90 : a1.tmps.getD 90 undef = .bool true := hD.val 56 90 (by kernel_rfl) (by kernel_rfl)
    have hds := hD.size
    have hs91 : a1.tmps.size = 91 := hD.size
    have hdd : a1.defers = [] := hD.defers
    have hst := hD.st
    refine tail_val (i := 57) (v := .bool true) (W' := W2) none 0 rfl rfl rfl (fun c hc => by cases hc) (by go_simp) (by rw [hs91]; decide) ?_
    intro a2 s2 d2 f2 o2
    refine wpListIn_nil ?_
    have e := act_eq (s2.trans hs91) (d2.trans hdd)
    have g0 : (fun i => a2.tmps.getD i undef) 0 = .bool true := f2
    generalize (fun i => a2.tmps.getD i undef) = g at e g0
    rw [e]
    have HF := hid (H8.out.2.2.2.2.2.trans (hst.mono H8.out.2.2.2.2.2.size))
    clear e hD e90 hds hs91 hdd hst s2 d2 f2 o2 H8
    simp only [List.range, List.range.loop, List.map_cons, List.map_nil, g0]
    go_wp2
    go_ret
    exact ⟨rfl, HF.out⟩
end Go.Proofs.Ytoeabajigfdkaaa
