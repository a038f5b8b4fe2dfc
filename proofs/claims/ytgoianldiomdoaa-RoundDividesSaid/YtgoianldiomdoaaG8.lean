/- The reference's Divide: it is the program's. Conditions stand at each theorem. -/
import Derived.Test.YtgoianldiomdoaaG1
import Derived.Test.YtgoianldiomdoaaG7
/- One more to the part that lacks most, one after the other: the order of Divide's parts. -/
namespace Go.Proofs.Ytgoianldiomdoaa

/-- the first of the greatest among the first numbers -/
def bestTo (l : List Int) : Nat → Nat
  | 0 => 0
  | j + 1 => if l.getD (bestTo l j) 0 < l.getD (j + 1) 0 then j + 1 else bestTo l j
theorem bestTo_spec (l : List Int) : ∀ j, bestTo l j ≤ j ∧ (∀ x, x < bestTo l j → l.getD x 0 < l.getD (bestTo l j) 0) ∧ ∀ x, bestTo l j < x → x ≤ j → l.getD x 0 ≤ l.getD (bestTo l j) 0
  | 0 => ⟨Nat.le_refl _, fun x h => absurd h (Nat.not_lt_zero _), fun x h1 h2 => by simp only [bestTo] at h1; omega⟩
  | j + 1 => by
    obtain ⟨h1, h2, h3⟩ := bestTo_spec l j
    unfold bestTo
    by_cases hc : l.getD (bestTo l j) 0 < l.getD (j + 1) 0
    · rw [if_pos hc]
      refine ⟨Nat.le_refl _, fun x hx => ?_, fun x h4 h5 => by omega⟩
      rcases Nat.lt_trichotomy x (bestTo l j) with h | h | h
      · have := h2 x h; omega
      · rw [h]; exact hc
      · have := h3 x h (by omega); omega
    · rw [if_neg hc]
      refine ⟨by omega, h2, fun x h4 h5 => ?_⟩
      by_cases e : x = j + 1
      · rw [e]; omega
      · exact h3 x h4 (by omega)
def restL (whole sum : Int) (ws : List Int) : List Int := ws.map fun x => (whole * x) % sum
/-- what each part lacks when j are given out -/
def lackTo (whole sum : Int) (ws : List Int) (j : Nat) : List Int := ((orderOf whole sum ws).take j).foldl (fun l i => l.set i (l.getD i 0 - sum)) (restL whole sum ws)
theorem lackTo_succ {whole sum : Int} {ws : List Int} {j i : Nat} (h : (orderOf whole sum ws)[j]? = some i) : lackTo whole sum ws (j + 1) = (lackTo whole sum ws j).set i ((lackTo whole sum ws j).getD i 0 - sum) := by
  obtain ⟨hj, rfl⟩ := List.getElem?_eq_some_iff.1 h
  unfold lackTo
  rw [List.take_succ_eq_append_getElem hj, List.foldl_append]; rfl
theorem lackTo_len (whole sum : Int) (ws : List Int) (j : Nat) : (lackTo whole sum ws j).length = ws.length := by
  unfold lackTo
  have : ∀ (l : List Nat) (o : List Int), (l.foldl (fun l i => l.set i (l.getD i 0 - sum)) o).length = o.length := by
    intro l
    induction l with
    | nil => intro o; rfl
    | cons i l ih => intro o; rw [List.foldl_cons, ih]; simp
  rw [this]; simp [restL]
theorem order_get {whole sum : Int} {ws : List Int} {j : Nat} (hj : j < ws.length) : (orderOf whole sum ws)[j]? = some ((orderOf whole sum ws).getD j 0) := by
  have hl := order_len whole sum ws
  rw [List.getElem?_eq_getElem (show j < (orderOf whole sum ws).length by omega)]
  simp [List.getD, List.getElem?_eq_getElem (show j < (orderOf whole sum ws).length by omega)]
theorem lackTo_at (whole sum : Int) (ws : List Int) {i p : Nat} (hp : p < ws.length) (hi : (orderOf whole sum ws).getD p 0 = i) : ∀ j, j ≤ ws.length →
    (lackTo whole sum ws j).getD i 0 = restOf whole sum ws i - if p < j then sum else 0
  | 0, _ => by
    have hil : i < ws.length := by rw [← hi]; exact (order_ord whole sum ws).lt p hp
    simp [lackTo, restL, restOf, List.getD, List.getElem?_eq_getElem hil]
  | j + 1, hj => by
    have O := order_ord whole sum ws
    have ih := lackTo_at whole sum ws hp hi j (by omega)
    rw [lackTo_succ (order_get (by omega : j < ws.length))]
    have hjl := O.lt j (by omega)
    rw [getD_set_at _ _ _ _ _ (by rw [lackTo_len]; exact hjl)]
    by_cases e : j = p
    · subst e
      rw [if_pos hi, hi, ih, if_neg (show ¬ j < j by omega), if_pos (show j < j + 1 by omega)]; omega
    · have hne : (orderOf whole sum ws).getD j 0 ≠ i := fun h => e (O.inj (by omega) hp (h.trans hi.symm))
      rw [if_neg hne, ih]
      by_cases hpj : p < j
      · rw [if_pos hpj, if_pos (show p < j + 1 by omega)]
      · rw [if_neg hpj, if_neg (show ¬ p < j + 1 by omega)]
theorem lackTo_bound {whole : Int} {ws : List Int} (ok : DOk whole ws.sum ws) {j : Nat} (hj : j ≤ ws.length) : ∀ y ∈ lackTo whole ws.sum ws j, -ws.sum ≤ y ∧ y ≤ ws.sum := by
  intro y hy
  obtain ⟨i, hi⟩ := List.getElem?_of_mem hy
  have hil := (List.getElem?_eq_some_iff.1 hi).1
  rw [lackTo_len] at hil
  obtain ⟨p, hp, e⟩ := (order_ord whole ws.sum ws).mem hil
  have h := lackTo_at whole ws.sum ws hp e j hj
  rw [getD_some hi] at h
  have := rest_range ok i
  have := ok.s0
  split at h <;> omega
/-- the part that lacks most is the next of the order -/
theorem best_next {whole : Int} {ws : List Int} (ok : DOk whole ws.sum ws) {j : Nat} (hj : j < ws.length) : bestTo (lackTo whole ws.sum ws j) (ws.length - 1) = (orderOf whole ws.sum ws).getD j 0 := by
  have O := order_ord whole ws.sum ws
  obtain ⟨b1, b2, b3⟩ := bestTo_spec (lackTo whole ws.sum ws j) (ws.length - 1)
  generalize bestTo (lackTo whole ws.sum ws j) (ws.length - 1) = b at *
  have hi := lackTo_at whole ws.sum ws hj rfl j (by omega)
  rw [if_neg (show ¬ j < j by omega)] at hi
  have hil := O.lt j hj
  obtain ⟨q, hq, e⟩ := O.mem (show b < ws.length by omega)
  have hb := lackTo_at whole ws.sum ws hq e j (by omega)
  have hrb := rest_range ok b
  have hri := rest_range ok ((orderOf whole ws.sum ws).getD j 0)
  have hkey : b = (orderOf whole ws.sum ws).getD j 0 ∨ (lackTo whole ws.sum ws j).getD b 0 < (lackTo whole ws.sum ws j).getD ((orderOf whole ws.sum ws).getD j 0) 0 ∨
      ((lackTo whole ws.sum ws j).getD b 0 = (lackTo whole ws.sum ws j).getD ((orderOf whole ws.sum ws).getD j 0) 0 ∧ (orderOf whole ws.sum ws).getD j 0 < b) := by
    rcases Nat.lt_trichotomy q j with h | h | h
    · rw [if_pos h] at hb
      exact .inr (.inl (by omega))
    · subst h
      exact .inl e.symm
    · rw [if_neg (show ¬ q < j by omega)] at hb
      have := O.srt j q h hq
      rw [e] at this
      rcases this with h1 | ⟨h1, h2⟩
      · exact .inr (.inl (by omega))
      · exact .inr (.inr ⟨by omega, h2⟩)
  rcases hkey with h | h | ⟨h, h'⟩
  · exact h
  · rcases Nat.lt_trichotomy b ((orderOf whole ws.sum ws).getD j 0) with hl | hl | hl
    · have := b3 _ hl (by omega); omega
    · exact hl
    · have := b2 _ hl; omega
  · have := b2 _ h'; omega
end Go.Proofs.Ytgoianldiomdoaa
/- The reference's Divide: it is the program's. -/
namespace Go.Proofs.Ytgoianldiomdoaa
open Go.RowKit Go.Shelf

/-- when k parts are reckoned -/
structure RdI (whole : Int) (A : Option Addr) (ws : List Int) (w : World) (k : Nat) (vo vr : Value) (W : World) : Prop where
  iw : IsInts W w.heap.size A ws
  o : W.ownsRow w.heap.size 3 1 vo k (((baseOf whole ws.sum ws).take k).map (Value.int .i64))
  r : W.ownsRow w.heap.size 3 1 vr k (((restL whole ws.sum ws).take k).map (Value.int .i64))
  ne : vo.ownBlock = none ∨ vo.ownBlock ≠ vr.ownBlock
  below : Below w.heap.size w W
/-- the parts, in memory of their own -/
def GivesParts (ws : List Int) (whole : Int) (w : World) (e : Ending) (w' : World) : Prop :=
  ∃ A c, e = .returned (.slice A ws.length c) ∧ IsInts w' w'.heap.size A (divOf ws whole) ∧ ws.length ≤ c ∧ c ≤ maxLen ∧ Below w.heap.size w w'
theorem part_le {ws : List Int} (hx : ∀ x ∈ ws, 0 ≤ x) (k : Nat) : 0 ≤ (ws.take k).sum ∧ (ws.take k).sum ≤ ws.sum := by
  have e : (ws.take k).sum + (ws.drop k).sum = ws.sum := by rw [← List.sum_append, List.take_append_drop]
  have h1 := sum_nonneg (ws.take k) fun y hy => hx y (List.mem_of_mem_take hy)
  have h2 := sum_nonneg (ws.drop k) fun y hy => hx y (List.mem_of_mem_drop hy)
  omega

set_option maxRecDepth 100000 in
set_option maxHeartbeats 4000000 in
theorem rdivide_any (A : Option Addr) (c : Nat) (ws : List Int) (whole : Int) (w : World) (h : IsInts w w.heap.size A ws) (hl : ws.length ≤ c) (hm : c ≤ maxLen) (he : divE ws whole = 0) :
    Calls Try.prog 32 #[.slice A ws.length c, .int .i64 whole] w (GivesParts ws whole w) := by
  unfold maxLen at hm
  obtain ⟨ok, hne, _, _⟩ := div_ok he
  have hl12 := ok.l
  have hs0 := ok.s0
  have hs1 := ok.s1
  have hw0 := ok.w0
  have hw1 := ok.w1
  have OK := hid (And.intro ok hne)
  have HI0 := hid h
  have HI := hid (show RdI whole A ws w 0 (.slice none 0 0) (.slice none 0 0) w from ⟨h, World.ownsRow_nil _ _ _ _, World.ownsRow_nil _ _ _ _, .inl rfl, Below.refl _ _⟩)
  clear h ok he hne
  go_enter Try.func32, Try.ntmps32
  go_wp2
  go_loop [5, 7] (fun l i => ∃ k : Nat, k ≤ ws.length ∧ i = .int .i64 k ∧ l = .int .i64 ((ws.take k).sum)) (fun _ i => ws.length - (intOf i).toNat)
  case atStart => exact ⟨0, Nat.zero_le _, rfl, rfl⟩
  case round =>
    obtain ⟨k, hk, rfl, rfl⟩ := hrel
    by_cases hlt : k < ws.length
    · have hkI : (k : Int) < (ws.length : Int) := by omega
      obtain ⟨x, hx⟩ : ∃ x, ws[k]? = some x := ⟨_, List.getElem?_eq_getElem hlt⟩
      have hxb := OK.out.1.x x (List.mem_of_getElem? hx)
      obtain ⟨a, rfl, hab, hac⟩ := HI.out.iw k x hx
      have hpl := part_le (fun x hx => (OK.out.1.x x hx).1) k
      have HSK := hid (show (ws.take (k + 1)).sum = (ws.take k).sum + x by
        obtain ⟨hk', e⟩ := List.getElem?_eq_some_iff.1 hx
        rw [List.take_succ_eq_append_getElem hk', List.sum_append, e]; simp)
      clear hx hab
      go_wp2
      go_round
      case rel => exact ⟨k + 1, by omega, by go_num, (by first | rfl | (rw [HSK.out]))⟩
      case measure => first | (simp [intOf]; done) | (simp [intOf]; omega)
    · have hkI : decide ((k : Int) < (ws.length : Int)) = false := by simp; omega
      obtain rfl : k = ws.length := by omega
      rw [List.take_length]
      go_wp2
      clear hkI
      go_loopw [8, 9, 6, 10] (fun vo vr l i wr => ∃ k : Nat, k ≤ ws.length ∧ i = .int .i64 k ∧ l = .int .i64 (whole - ((baseOf whole ws.sum ws).take k).sum) ∧ RdI whole A ws w k vo vr wr) (fun _ _ _ i _ => ws.length - (intOf i).toNat)
      case atStart => exact ⟨0, Nat.zero_le _, rfl, by simp, HI.out⟩
      case round =>
        obtain ⟨k, hk, rfl, rfl, hi⟩ := hrel
        clear HI
        by_cases hlt : k < ws.length
        · have hkI : (k : Int) < (ws.length : Int) := by omega
          obtain ⟨x, hxk⟩ : ∃ x, ws[k]? = some x := ⟨_, List.getElem?_eq_getElem hlt⟩
          obtain ⟨hx1, hx2⟩ := OK.out.1.x x (List.mem_of_getElem? hxk)
          obtain ⟨a, rfl, hab, hac⟩ := hi.iw k x hxk
          obtain ⟨y, hy⟩ : ∃ y, y = whole * x := ⟨_, rfl⟩
          obtain ⟨q, hq⟩ : ∃ q, q = y / ws.sum := ⟨_, rfl⟩
          obtain ⟨z, hz⟩ : ∃ z, z = q * ws.sum := ⟨_, rfl⟩
          have hbk : (baseOf whole ws.sum ws)[k]? = some q := by simp [baseOf, hxk, hq, hy]
          have hyz : y - z = whole * x % ws.sum := by
            have := Int.mul_ediv_add_emod y ws.sum
            rw [hz, hq, ← hy, Int.mul_comm (y / ws.sum)]; omega
          have hrk : (restL whole ws.sum ws)[k]? = some (y - z) := by simp [restL, hxk, hyz]
          have hm1 := mul_bound hw0 hw1 hx1 hx2
          rw [← hy] at hm1
          obtain ⟨hm1, hm2⟩ := hm1
          have hq0 : 0 ≤ q := by rw [hq]; exact Int.ediv_nonneg hm1 (by omega)
          have hq1 : q ≤ y := by rw [hq]; exact Int.ediv_le_self _ hm1
          have hyz0 : 0 ≤ y - z := by rw [hyz]; exact Int.emod_nonneg _ (by omega)
          have hyz1 : y - z < ws.sum := by rw [hyz]; exact Int.emod_lt_of_pos _ (by omega)
          have hbp := base_part (whole := whole) (ws := ws) hw0 hs0 (fun x hx => (OK.out.1.x x hx).1)
          have hbp0 := hbp k
          have hbp1 := hbp (k + 1)
          have hbq := left_bounds (whole := whole) hs0 OK.out.2
          have hsk : ((baseOf whole ws.sum ws).take (k + 1)).sum = ((baseOf whole ws.sum ws).take k).sum + q := by
            obtain ⟨hk', e⟩ := List.getElem?_eq_some_iff.1 hbk
            rw [List.take_succ_eq_append_getElem hk', List.sum_append, e]; simp
          have hw6 : IntKind.i64.wrap (whole * x) = y := by rw [IntKind.wrap_i64, ← hy]; omega
          have hw12 : IntKind.i64.wrap (q * ws.sum) = z := by rw [IntKind.wrap_i64, ← hz]; omega
          have hw13 : IntKind.i64.wrap (y - z) = y - z := by rw [IntKind.wrap_i64]; omega
          obtain ⟨i0, hi0, hz0, hz1, hz2⟩ := info_parts int_info
          have HO := hid (hi.o.alloc (.cells #[.int .i64 q] 3))
          have HH := hid hi
          have HK := hid (And.intro hbk (And.intro hrk hsk))
          have HQ := hid hq
          have HXK := hid hxk
          have HZZ := hid (And.intro hz (And.intro hyz hy))
          clear hi hab hbk hrk hsk hxk hz hyz hbp hy
          have hwrs := HH.out.below.size
          have hk2 : (k : Int) < (k : Int) + 1 := by omega
          rw [hq] at HO
          clear hq
          go_wp2_with (at_builtin; refine wpList_append_own_at _ rfl (.tmp 32) (.tmp 41) 56 rfl w.heap.size 3 i0 (.int .i64 0) 1 8 Try.underlying56 hi0 hz0 hz1 hz2 rfl (by decide) u8 k _ rfl HO.out ⟨wr.heap.size, 0, none⟩ 1 1 [.int .i64 (y / ws.sum)] rfl rfl (by intro q u hq; cases q with | zero => simp at hq; subst hq; exact (World.cell?_alloc_new _ _ _ _) | succ q => simp at hq) (by intro u hu; simp at hu; subst hu; rfl) (by simp only [maxLen]; omega) (by omega) (by simp; omega) ?_; intro vo' w5 hown' hgrow _ hfr; have HR5 := hid (row_kept (HH.out.r.alloc _) hgrow HH.out.ne); have hs5 := hgrow.size; rw [World.size_alloc] at hs5; have HQ5 := hid (And.intro hown' (And.intro hgrow hfr)); clear hown' hgrow hfr)
          obtain ⟨ho5, hg5, hf5⟩ := HQ5.out
          obtain ⟨g, cap, rfl⟩ := Go.ownsRow_succ ho5
          rw [← HQ.out] at ho5
          rw [map_take_succ (Value.int .i64) HK.out.1] at ho5
          have hne5 : u9.ownBlock = none ∨ u9.ownBlock ≠ some g := by
            rcases hf5 with h | h
            · rcases HH.out.ne with h' | h'
              · rw [h'] at h; cases h
              · exact .inr fun e => h' (h.symm.trans e.symm)
            · injection h with h
              simp only [World.size_alloc] at h
              refine .inr fun e => ?_
              have := (HH.out.r.lt _ e).2
              omega
          have hb5 := below_row' (HH.out.below.alloc HH.out.below.size (.cells #[.int .i64 (y / ws.sum)] 3)) (HH.out.o.alloc _) (Nat.le_refl _) hg5 (by simp; omega)
          have c5 : w5.cell? ⟨g, k, none⟩ = some (.int .i64 q) := by
            have := ho5.cells (g := g) rfl k (.int .i64 q) (by rw [List.getElem?_map, List.getElem?_take, if_pos (by omega), HK.out.1]; rfl)
            rwa [show (⟨g, 0, none⟩ : Addr).add k = ⟨g, k, none⟩ by unfold Addr.add; split <;> simp_all] at this
          have hgl5 := (ho5.lt g rfl).2
          have KOC := hid (fun (W2 : World) (hW : Below w5.heap.size w5 W2) => (hW.cell (p := ⟨g, k, none⟩) hgl5).trans c5)
          have KIW : Hid (∀ W2 : World, Below w5.heap.size w5 W2 → W2.cell? (a.add k) = some (.int .i64 x)) := hid (fun W2 hW => by
            obtain ⟨a', e, h1, h2⟩ := HI0.out.below (hb5.trans (hW.mono hb5.size)) k x HXK.out
            injection e with e
            subst e
            exact h2)
          have H5 := hid (And.intro ho5 (And.intro hb5 hne5))
          clear HQ5 ho5 hg5 hf5 hne5 hb5 c5 HO hac
          refine (wpIn_wide (n := 0)).1 ?_
          refine wpIn_region_each 15 (fun i v W' => match i with | 0 => v = u9 | 1 => v = .int .i64 whole | 2 => v = .slice (some a) ws.length c | 3 => v = .int .i64 (k : Int) | 4 => v = .pointer (some (a.add k)) | 5 => v = .int .i64 x | 6 => v = .int .i64 y | 7 => v = .slice (some ⟨g, 0, none⟩) (k + 1) cap | 8 => v = .int .i64 (k : Int) | 9 => v = .pointer (some ⟨g, k, none⟩) | 10 => v = .int .i64 q | 11 => v = .int .i64 ws.sum | 12 => v = .int .i64 z | 13 => v = .int .i64 (y - z) | 14 => ∃ gl, v = .slice (some ⟨gl, 0, none⟩) 1 1 ∧ Blk W' gl 3 #[.int .i64 (y - z)] | _ => True) (fun A B => Below A.heap.size A B) (fun _ _ => True) (by kernel_rfl) (by kernel_rfl) ?_ (fun h k => h.trans (k.mono h.size)) ⟨rfl, rfl, rfl, Nat.le_refl _, fun _ _ => rfl⟩ trivial (by kernel_rfl) ?_ ?_
          · intro i v W1 W2 hb h
            match i, h with
            | 0, h => exact h
            | 1, h => exact h
            | 2, h => exact h
            | 3, h => exact h
            | 4, h => exact h
            | 5, h => exact h
            | 6, h => exact h
            | 7, h => exact h
            | 8, h => exact h
            | 9, h => exact h
            | 10, h => exact h
            | 11, h => exact h
            | 12, h => exact h
            | 13, h => exact h
            | 14, h =>
              obtain ⟨gl, rfl, h1⟩ := h
              exact ⟨gl, rfl, h1.keep hb⟩
            | i + 15, h => trivial
          · refine ⟨?_, ?_, ?_, ?_, ?_, ?_, ?_, ?_, ?_, ?_, ?_, ?_, ?_, ?_, ?_, trivial⟩
            · -- 0
              intro li a1 W2 hA K hK
              have e9 := hA.par 9 (by kernel_rfl)
              refine opStep none 0 rfl rfl (fun c hc => by cases hc) ?_
              go_simp
              exact hK _ _ rfl (Below.refl _ _) trivial
            · -- 1
              intro li a1 W2 hA K hK
              have e1 := hA.par 1 (by kernel_rfl)
              refine opStep none 0 rfl rfl (fun c hc => by cases hc) ?_
              go_simp
              exact hK _ _ rfl (Below.refl _ _) trivial
            · -- 2
              intro li a1 W2 hA K hK
              have e0 := hA.par 0 (by kernel_rfl)
              refine opStep none 0 rfl rfl (fun c hc => by cases hc) ?_
              go_simp
              exact hK _ _ rfl (Below.refl _ _) trivial
            · -- 3
              intro li a1 W2 hA K hK
              have e10 := hA.par 10 (by kernel_rfl)
              refine opStep none 0 rfl rfl (fun c hc => by cases hc) ?_
              go_simp
              exact hK _ _ rfl (Below.refl _ _) trivial
            · -- 4
              intro li a1 W2 hA K hK
              have e45 : a1.tmps.getD 45 undef = .slice (some a) ws.length c := hA.val 2 45 (by kernel_rfl) (by kernel_rfl)
              have e46 : a1.tmps.getD 46 undef = .int .i64 (k : Int) := hA.val 3 46 (by kernel_rfl) (by kernel_rfl)
              refine opStep none 0 rfl rfl (fun c hc => by cases hc) ?_
              go_simp
              exact hK _ _ rfl (Below.refl _ _) trivial
            · -- 5
              intro li a1 W2 hA K hK
              have e47 : a1.tmps.getD 47 undef = .pointer (some (a.add k)) := hA.val 4 47 (by kernel_rfl) (by kernel_rfl)
              have hcell := (KIW.out W2 hA.st)
              refine opStep none 0 rfl rfl (fun c hc => by cases hc) ?_
              go_simp
              exact hK _ _ rfl (Below.refl _ _) trivial
            · -- 6
              intro li a1 W2 hA K hK
              have e44 : a1.tmps.getD 44 undef = .int .i64 whole := hA.val 1 44 (by kernel_rfl) (by kernel_rfl)
              have e48 : a1.tmps.getD 48 undef = .int .i64 x := hA.val 5 48 (by kernel_rfl) (by kernel_rfl)
              refine opStep none 0 rfl rfl (fun c hc => by cases hc) ?_
              go_simp
              exact hK _ _ (by first | rfl | exact congrArg (Value.int .i64) hw6 | (simp [hw6])) (Below.refl _ _) trivial
            · -- 7
              intro li a1 W2 hA K hK
              have e8 := hA.par 8 (by kernel_rfl)
              refine opStep none 0 rfl rfl (fun c hc => by cases hc) ?_
              go_simp
              exact hK _ _ rfl (Below.refl _ _) trivial
            · -- 8
              intro li a1 W2 hA K hK
              have e10 := hA.par 10 (by kernel_rfl)
              refine opStep none 0 rfl rfl (fun c hc => by cases hc) ?_
              go_simp
              exact hK _ _ rfl (Below.refl _ _) trivial
            · -- 9
              intro li a1 W2 hA K hK
              have e50 : a1.tmps.getD 50 undef = .slice (some ⟨g, 0, none⟩) (k + 1) cap := hA.val 7 50 (by kernel_rfl) (by kernel_rfl)
              have e51 : a1.tmps.getD 51 undef = .int .i64 (k : Int) := hA.val 8 51 (by kernel_rfl) (by kernel_rfl)
              refine opStep none 0 rfl rfl (fun c hc => by cases hc) ?_
              go_simp
              exact hK _ _ (by first | rfl | exact congrArg (fun q => Value.pointer (some q)) (add_blk _ _)) (Below.refl _ _) trivial
            · -- 10
              intro li a1 W2 hA K hK
              have e52 : a1.tmps.getD 52 undef = .pointer (some ⟨g, k, none⟩) := hA.val 9 52 (by kernel_rfl) (by kernel_rfl)
              have hcell := (KOC.out W2 hA.st)
              refine opStep none 0 rfl rfl (fun c hc => by cases hc) ?_
              go_simp
              exact hK _ _ rfl (Below.refl _ _) trivial
            · -- 11
              intro li a1 W2 hA K hK
              have e5 := hA.par 5 (by kernel_rfl)
              refine opStep none 0 rfl rfl (fun c hc => by cases hc) ?_
              go_simp
              exact hK _ _ rfl (Below.refl _ _) trivial
            · -- 12
              intro li a1 W2 hA K hK
              have e53 : a1.tmps.getD 53 undef = .int .i64 q := hA.val 10 53 (by kernel_rfl) (by kernel_rfl)
              have e54 : a1.tmps.getD 54 undef = .int .i64 ws.sum := hA.val 11 54 (by kernel_rfl) (by kernel_rfl)
              refine opStep none 0 rfl rfl (fun c hc => by cases hc) ?_
              go_simp
              exact hK _ _ (by first | rfl | exact congrArg (Value.int .i64) hw12 | (simp [hw12])) (Below.refl _ _) trivial
            · -- 13
              intro li a1 W2 hA K hK
              have e49 : a1.tmps.getD 49 undef = .int .i64 y := hA.val 6 49 (by kernel_rfl) (by kernel_rfl)
              have e55 : a1.tmps.getD 55 undef = .int .i64 z := hA.val 12 55 (by kernel_rfl) (by kernel_rfl)
              refine opStep none 0 rfl rfl (fun c hc => by cases hc) ?_
              go_simp
              exact hK _ _ (by first | rfl | exact congrArg (Value.int .i64) hw13) (Below.refl _ _) trivial
            · -- 14
              intro li a1 W2 hA K hK
              have e56 : a1.tmps.getD 56 undef = .int .i64 (y - z) := hA.val 13 56 (by kernel_rfl) (by kernel_rfl)
              have e56' := e56
              rw [Array.getD_eq_getD_getElem?] at e56'
              refine opStep none 0 rfl rfl (fun c hc => by cases hc) ?_
              go_simp
              exact hK _ _ ⟨_, rfl, Blk.new _ _ _⟩ ((Below.refl _ _).alloc (Nat.le_refl _) _) trivial
          · intro li a1 W2 hD
            have e43 : a1.tmps.getD 43 undef = u9 := hD.val 0 43 (by kernel_rfl) (by kernel_rfl)
            obtain ⟨gl, e57, hgl⟩ := hD.val 14 57 (by kernel_rfl) (by kernel_rfl)
            have hst := hD.st
            obtain ⟨ho5, hb5, hne5⟩ := H5.out
            have hr2 : W2.ownsRow w.heap.size 3 1 u9 k (((restL whole ws.sum ws).take k).map (Value.int .i64)) := row_kept (vo := .slice none 0 0) HR5.out (grown_of_below hst _) (.inl rfl)
            have ho2 := row_kept (vo := .slice none 0 0) ho5 (grown_of_below hst _) (.inl rfl)
            have hs2 := hst.size
            obtain ⟨v', w7, hrun, hr7, hg7, _, hf7⟩ := run_append_own_at (P := Try.prog) W2 w.heap.size 56 56 3 i0 (.int .i64 0) 1 8 Try.underlying56 hi0 hz0 hz1 hz2 rfl (by decide) u9 k _ hr2 ⟨gl, 0, none⟩ 1 1 [.int .i64 (y - z)] rfl (by intro q u hq; cases q with | zero => simp at hq; subst hq; exact hgl.c1 | succ q => simp at hq) (by intro u hu; simp at hu; subst hu; rfl) (by simp only [maxLen]; omega) (by omega) (by omega)
            rw [map_take_succ (Value.int .i64) HK.out.2.1] at hr7
            have ho7 := row_kept ho2 hg7 hne5
            have hne7 : Value.ownBlock (.slice (some ⟨g, 0, none⟩) (k + 1) cap) ≠ v'.ownBlock := by
              intro e
              rcases hf7 with h | h
              · rw [h] at e
                rcases hne5 with h' | h'
                · rw [h'] at e; cases e
                · exact h' e.symm
              · rw [h] at e
                injection e with e
                have e' : g = W2.heap.size := e
                omega
            have hb7 := below_row' (hb5.trans (hst.mono hb5.size)) hr2 (Nat.le_refl _) hg7 (by omega)
            have c7 : w7.cell? ⟨g, k, none⟩ = some (.int .i64 q) := by
              have := ho7.cells (g := g) rfl k (.int .i64 q) (by rw [List.getElem?_map, List.getElem?_take, if_pos (by omega), HK.out.1]; rfl)
              rwa [show (⟨g, 0, none⟩ : Addr).add k = ⟨g, k, none⟩ by unfold Addr.add; split <;> simp_all] at this
            have HNN := hid (show RdI whole (some a) ws w (k + 1) (.slice (some ⟨g, 0, none⟩) (k + 1) cap) v' w7 from ⟨HI0.out.below hb7, ho7, hr7, .inr hne7, hb7⟩)
            have hkp2 := hD.keeps (ds := [43, 44, 45, 46, 47, 48, 49, 50, 51, 52, 53, 54, 55, 56, 57, 58, 9]) (by kernel_rfl)
            have hds := hD.size
            have hs99 : a1.tmps.size = 99 := hD.size
            have hdd := hD.defers
            clear hst ho5 hb5 hne5 hr2 ho2 hr7 hg7 hf7 ho7 hne7 hb7 hgl
            refine tail_val (i := 15) (v := v') (W' := w7) none 0 rfl rfl rfl (fun c hc => by cases hc) (by simp [execOp, resolve, invoke, builtin, Act.eval, e43, e57, hrun, Result.andThen]) (by rw [hs99]; decide) ?_
            intro a3 s3 d3 f3 o3
            have hkp3 := keeps_then hkp2 o3 (by decide)
            refine tail_val (i := 16) (v := v') (W' := w7) none 0 rfl rfl rfl (fun c hc => by cases hc) (by go_simp) (by rw [s3, hs99]; decide) ?_
            intro a4 s4 d4 f4 o4
            have hkp4 := keeps_then hkp3 o4 (by decide)
            have e := act_mix [43, 44, 45, 46, 47, 48, 49, 50, 51, 52, 53, 54, 55, 56, 57, 58, 9] (s4.trans (s3.trans hds)) (d4.trans (d3.trans hdd)) (fun i _ hc => hkp4 i hc)
            have f9 : (fun i => a4.tmps.getD i undef) 9 = v' := f4
            generalize (fun i => a4.tmps.getD i undef) = g' at e f9
            refine wpListIn_nil ?_
            rw [e]
            have HSK := hid HK.out.2.2
            have hsk' := HSK.out
            have hwl : IntKind.i64.wrap (whole - ((baseOf whole ws.sum ws).take k).sum - q) = whole - ((baseOf whole ws.sum ws).take (k + 1)).sum := by rw [IntKind.wrap_i64, hsk']; omega
            clear e hD hkp2 hkp3 hkp4 s3 s4 d3 d4 f3 f4 o3 o4 e43 e57 hds hdd hs99 hsk' KOC KIW HK HH H5 HR5
            simp only [mix, List.contains_cons, List.contains_nil, Nat.reduceAdd, Nat.reduceBEq, Bool.or_false, Bool.or_true, cond_true, cond_false, f9]
            have hk1 : (k : Int) < ((k + 1 : Nat) : Int) := by omega
            go_wp2
            go_roundw
            case rel => exact ⟨k + 1, by omega, by go_num, (by first | rfl | (rw [HSK.out]) | exact congrArg (Value.int .i64) (by rw [HSK.out]; omega)), HNN.out⟩
            case measure => first | (simp [intOf]; done) | (simp [intOf]; omega)
        · have hkI : decide ((k : Int) < (ws.length : Int)) = false := by simp; omega
          obtain rfl : k = ws.length := by omega
          have hbq := left_bounds (whole := whole) hs0 OK.out.2
          have hn1 : 1 ≤ ws.length := by
            cases ws with
            | nil => exact absurd rfl OK.out.2
            | cons x l => simp
          have hshape : ∀ {v : Value} {vs : List Value}, wr.ownsRow w.heap.size 3 1 v ws.length vs → ∃ g cap, v = .slice (some ⟨g, 0, none⟩) ws.length cap := by
            intro v vs hv
            obtain ⟨n', hn'⟩ : ∃ n', ws.length = n' + 1 := ⟨ws.length - 1, by omega⟩
            rw [hn'] at hv ⊢
            exact Go.ownsRow_succ hv
          obtain ⟨go, co, rfl⟩ := hshape hi.o
          obtain ⟨gr, cr, rfl⟩ := hshape hi.r
          obtain ⟨lf, hlf⟩ : ∃ lf : Nat, whole - (baseOf whole ws.sum ws).sum = (lf : Int) := ⟨leftOf whole ws.sum ws, by unfold leftOf; omega⟩
          have hbl : (baseOf whole ws.sum ws).length = ws.length := by simp [baseOf]
          have hrl : (restL whole ws.sum ws).length = ws.length := by simp [restL]
          have htb : (baseOf whole ws.sum ws).take ws.length = baseOf whole ws.sum ws := List.take_of_length_le (by omega)
          have htr : (restL whole ws.sum ws).take ws.length = restL whole ws.sum ws := List.take_of_length_le (by omega)
          rw [htb, hlf]
          rw [hlf] at hbq
          have ho := hi.o
          have hr := hi.r
          rw [htb] at ho
          rw [htr] at hr
          have HLF := hid (show leftOf whole ws.sum ws = lf by unfold leftOf; omega)
          have hlo : LB wr go co (bumpTo whole ws.sum ws 0) := lb_of_own ho
          have hlr : LB wr gr cr (lackTo whole ws.sum ws 0) := lb_of_own hr
          have hcoo : ws.length ≤ co ∧ co ≤ maxLen := by
            rcases ho.2 with ⟨e, _⟩ | ⟨g', cap', cur, e, _, _, h1, h2, _⟩
            · cases e
            · injection e with _ _ e3; subst e3; exact ⟨h1, h2⟩
          have HLS := hid (show w.heap.size ≤ go ∧ w.heap.size ≤ gr ∧ go ≠ gr from ⟨(ho.lt go rfl).1, (hr.lt gr rfl).1, by
            rcases hi.ne with h | h
            · cases h
            · exact fun e => h (by rw [e]; rfl)⟩)
          have HCO := hid hcoo
          have HF := hid (And.intro hlo (And.intro hlr hi.below))
          obtain ⟨hbq1, hbq2⟩ := hbq
          clear hi ho hr hlo hlr hcoo htb htr hbl hrl hshape hlf
          go_wp2
          clear hkI
          go_loopw [6] (fun l wr => ∃ j : Nat, j ≤ lf ∧ l = .int .i64 ((lf : Int) - j) ∧ LB wr go co (bumpTo whole ws.sum ws j) ∧ LB wr gr cr (lackTo whole ws.sum ws j) ∧ Below w.heap.size w wr) (fun l _ => (intOf l).toNat)
          case atStart => exact ⟨0, Nat.zero_le _, by simp, HF.out⟩
          case round =>
            obtain ⟨j, hj, rfl, hlb, hlk, hbe⟩ := hrel
            clear HF
            by_cases hlt : j < lf
            · have hjI : (0 : Int) < (lf : Int) - (j : Int) := by omega
              have HJ := hid (And.intro hlb (And.intro hlk hbe))
              clear hlb hlk hbe
              go_wp2
              clear hjI
              go_loopw [11, 12] (fun b i wr2 => ∃ m : Nat, m + 1 ≤ ws.length ∧ i = .int .i64 ((m : Int) + 1) ∧ b = .int .i64 (bestTo (lackTo whole ws.sum ws j) m : Nat) ∧ Below wr.heap.size wr wr2) (fun _ i _ => ws.length - (intOf i).toNat)
              case atStart => exact ⟨0, by omega, rfl, rfl, Below.refl _ _⟩
              case round =>
                obtain ⟨m, hm2, rfl, rfl, hbr⟩ := hrel
                have hbs := bestTo_spec (lackTo whole ws.sum ws j) m
                have hll := lackTo_len whole ws.sum ws j
                by_cases hltm : m + 1 < ws.length
                · have hmI : (m : Int) + 1 < (ws.length : Int) := by omega
                  obtain ⟨u, hu⟩ : ∃ u, (lackTo whole ws.sum ws j)[m + 1]? = some u := ⟨_, List.getElem?_eq_getElem (by omega)⟩
                  obtain ⟨v, hv⟩ : ∃ v, (lackTo whole ws.sum ws j)[bestTo (lackTo whole ws.sum ws j) m]? = some v := ⟨_, List.getElem?_eq_getElem (by omega)⟩
                  have hlk2 := HJ.out.2.1.below hbr
                  have c1 := hlk2.cell hu
                  have c2 := hlk2.cell hv
                  have hbt : bestTo (lackTo whole ws.sum ws j) (m + 1) = if v < u then m + 1 else bestTo (lackTo whole ws.sum ws j) m := by
                    rw [bestTo, getD_some hu, getD_some hv]
                  have hbm := hbs.1
                  obtain ⟨p, hp⟩ : ∃ p, p = bestTo (lackTo whole ws.sum ws j) m := ⟨_, rfl⟩
                  rw [← hp] at hbt c2 hbm ⊢
                  have HBT := hid hbt
                  have HBR := hid hbr
                  have q1 := xt_cell c1
                  have q2 := xt_cell c2
                  have hpI : (p : Int) < (ws.length : Int) := by omega
                  clear hbs hll hu hv hlk2 hbt hbr hp
                  go_wp2
                  refine wp_region_quiet_xt (by kernel_rfl) (by kernel_rfl) ?_
                  repeat go_big_quiet_step (fail)
                  refine wpQuiet_nil ?_
                  intro W7 hw7
                  have HW7 := hid (HBR.out.trans ((of_xt hw7).mono HBR.out.size))
                  clear hw7 q1 q2 c1 c2
                  by_cases hvu : v < u
                  · have hbt := HBT.out
                    rw [if_pos hvu] at hbt
                    have HB2 := hid hbt
                    clear hbt
                    go_wp2
                    go_roundw
                    case rel => exact ⟨m + 1, by omega, by go_num, (by rw [HB2.out]; first | rfl | go_num), HW7.out⟩
                    case measure => first | (simp [intOf]; done) | (simp [intOf]; omega)
                  · have hbt := HBT.out
                    rw [if_neg hvu] at hbt
                    have HB2 := hid hbt
                    have hvd : decide (v < u) = false := by simp; omega
                    clear hbt
                    go_wp2
                    go_roundw
                    case rel => exact ⟨m + 1, by omega, by go_num, (by rw [HB2.out]), HW7.out⟩
                    case measure => first | (simp [intOf]; done) | (simp [intOf]; omega)
                · have hmI : decide ((m : Int) + 1 < (ws.length : Int)) = false := by simp; omega
                  obtain rfl : m = ws.length - 1 := by omega
                  have hbn := best_next OK.out.1 (show j < ws.length by omega)
                  have hog := order_get (whole := whole) (sum := ws.sum) (show j < ws.length by omega)
                  rw [← hbn] at hog
                  obtain ⟨i, hi⟩ : ∃ i, i = bestTo (lackTo whole ws.sum ws j) (ws.length - 1) := ⟨_, rfl⟩
                  rw [← hi] at hog ⊢
                  have hil : i < ws.length := by rw [hi]; have := hbs.1; omega
                  have hbl := bumpTo_len whole ws.sum ws j
                  obtain ⟨y, hy⟩ : ∃ y, (bumpTo whole ws.sum ws j)[i]? = some y := ⟨_, List.getElem?_eq_getElem (by omega)⟩
                  obtain ⟨u, hu⟩ : ∃ u, (lackTo whole ws.sum ws j)[i]? = some u := ⟨_, List.getElem?_eq_getElem (by omega)⟩
                  have hyb := bumpTo_bound OK.out.1 j (by omega) y (List.mem_of_getElem? hy)
                  have hub := lackTo_bound OK.out.1 (show j ≤ ws.length by omega) u (List.mem_of_getElem? hu)
                  obtain ⟨z1, z2, z3⟩ := HLS.out
                  have hlb2 := HJ.out.1.below hbr
                  have hlk2 := HJ.out.2.1.below hbr
                  have hbe2 := HJ.out.2.2.trans (hbr.mono HJ.out.2.2.size)
                  have c1 := hlb2.cell hy
                  have f1 := hlb2.frozen i
                  have l1 := hlb2.lt
                  have hlb3 := hlb2.set_ i (y + 1)
                  have hlk3 := hlk2.other (grown_put wr ⟨go, i, none⟩ (.int .i64 (y + 1))) z3
                  have c2 := hlk3.cell hu
                  have f2 := hlk3.frozen i
                  have l2 := hlk3.lt
                  have hlk4 := hlk3.set_ i (u - ws.sum)
                  have hlb4 := hlb3.other (grown_put _ ⟨gr, i, none⟩ (.int .i64 (u - ws.sum))) (fun e => z3 e.symm)
                  have hbe4 := (hbe2.setCell (p := ⟨go, i, none⟩) (by show w.heap.size ≤ go; omega) (.int .i64 (y + 1))).setCell (p := ⟨gr, i, none⟩) (by show w.heap.size ≤ gr; omega) (.int .i64 (u - ws.sum))
                  have hb5 : bumpTo whole ws.sum ws (j + 1) = (bumpTo whole ws.sum ws j).set i (y + 1) := by rw [bumpTo_succ hog, bump, getD_some hy]
                  have hk5 : lackTo whole ws.sum ws (j + 1) = (lackTo whole ws.sum ws j).set i (u - ws.sum) := by rw [lackTo_succ hog, getD_some hu]
                  rw [← hb5] at hlb4
                  rw [← hk5] at hlk4
                  have HN := hid (And.intro hlb4 (And.intro hlk4 hbe4))
                  have hiI : (i : Int) < (ws.length : Int) := by omega
                  clear hbn hog hi hbl hy hu hlb2 hlk2 hbe2 hlb3 hlk3 hlk4 hlb4 hbe4 hb5 hk5 hbs hll hbr
                  go_wp2
                  go_roundw
                  case rel => exact ⟨j + 1, by omega, (by first | go_num | exact congrArg (Value.int .i64) (by omega)), HN.out⟩
                  case measure => first | (simp [intOf]; done) | (simp [intOf]; omega)
            · obtain rfl : j = lf := by omega
              have hjI : decide ((0 : Int) < (j : Int) - (j : Int)) = false := by simp
              have HN := hid (And.intro hlb hbe)
              clear hlb hlk hbe
              go_wp2
              refine bodyPost_ret (v := .slice (some ⟨go, 0, none⟩) ws.length co) (by simp [results, Try.results32, go_sem]) rfl ?_
              refine ⟨_, _, rfl, ?_, HCO.out.1, HCO.out.2, HN.out.2⟩
              unfold divOf
              rw [HLF.out]
              exact HN.out.1.ints HN.out.1.lt
end Go.Proofs.Ytgoianldiomdoaa
