/- The walks and the plain laws of this part of the program, part 12: what each computes. Conditions stand at each theorem. -/
import Derived.StillTailTactics
import Derived.Test.YtoeabajigfdkaaaG3
import Derived.Test.YtoeabajigfdkaaaG7
import Derived.Test.YtoeabajigfdkaaaG9
import Derived.Test.YtoeabajigfdkaaaG10
import Derived.Test.YtoeabajigfdkaaaG11
/- The reference of layer 11: sums of numbers by the districts of borders. Conditions stand at the theorem. -/
namespace Go.Proofs.Ytoeabajigfdkaaa
open Go.RowKit Go.Shelf

set_option maxRecDepth 100000 in
set_option maxHeartbeats 4000000 in
theorem qsums_any (m : MapD) (A : Option Addr) (c : Nat) (A2 : Option Addr) (c2 : Nat) (A3 : Option Addr) (c3 : Nat) (B1 : Option Addr) (d1 : Nat) (bs : List Int) (B2 : Option Addr) (d2 : Nat) (xs : List Int) (w : World)
    (hn1 : 1 ≤ m.nw) (hn4 : m.nw ≤ 4) (hbs : IsInts w w.heap.size B1 bs) (hxs : IsInts w w.heap.size B2 xs) (hl : xs.length ≤ bs.length) (hl8 : bs.length ≤ 1000) (hb : ∀ i, i < xs.length → 0 ≤ fnO bs i ∧ fnO bs i < m.nw) (hx : ∀ x ∈ xs, 0 ≤ x ∧ x ≤ 10000) :
    Calls Try.prog 24 #[.agg #[.slice A m.old.length c, .int .i64 m.nw, .slice A2 m.ss.length c2, .slice A3 m.js.length c3], .slice B1 bs.length d1, .slice B2 xs.length d2] w (GivesInts (smD m (fnO bs) xs) w) := by
  obtain ⟨N, hN⟩ : ∃ N : Nat, m.nw = (N : Int) := ⟨m.nw.toNat, by omega⟩
  have hN4 : N ≤ 4 := by omega
  have hB := below_box (w := w) #[.slice A m.old.length c, .int .i64 m.nw, .slice A2 m.ss.length c2, .slice A3 m.js.length c3] 26
  have hT := Blk.new w 26 #[.slice A m.old.length c, .int .i64 m.nw, .slice A2 m.ss.length c2, .slice A3 m.js.length c3]
  have hmk := run_make_row' (P := Try.prog) 22 3 (.int .i64 0) 8 Try.underlying22 int_info rfl .i64 .i64 N (by omega) (by omega)
  rw [intC_zero] at hmk
  have hZ := Blk.new (w.alloc (.cells #[.slice A m.old.length c, .int .i64 m.nw, .slice A2 m.ss.length c2, .slice A3 m.js.length c3] 26)) 3 (intC (List.replicate N 0))
  rw [World.size_alloc] at hZ
  have hB2 := hB.alloc hB.size (.cells (intC (List.replicate N 0)) 3)
  have HS := hid (And.intro (show Blk _ (w.heap.size + 1) 3 (intC (smTo N (fnO bs) xs 0)) from hZ) hB2)
  have HA := hid (And.intro hbs hxs)
  have HX := hid hx
  have HBB := hid hb
  obtain ⟨t0, t1, t2, t3⟩ := hT.c4
  rw [← hN] at hmk
  have HN := hid hN
  clear hB hT hZ hB2 hN hbs hxs hx hb hn1 hn4
  go_enter Try.func24, Try.ntmps24
  go_wp2

  clear t0 t1 t2 t3 hmk
  go_loopw [8] (fun i W => ∃ k : Nat, k ≤ xs.length ∧ i = .int .i64 k ∧ Blk W (w.heap.size + 1) 3 (intC (smTo N (fnO bs) xs k)) ∧ Below w.heap.size w W) (fun i _ => xs.length - (intOf i).toNat)
  case atStart => exact ⟨0, Nat.zero_le _, rfl, HS.out⟩
  case round =>
    clear HS
    obtain ⟨k, hk, rfl, hbo, hbr⟩ := hrel
    by_cases hlt : k < xs.length
    · have hkI : (k : Int) < (xs.length : Int) := by omega
      have hkJ : (k : Int) < (bs.length : Int) := by omega
      obtain ⟨x, hx⟩ : ∃ x, xs[k]? = some x := ⟨_, List.getElem?_eq_getElem hlt⟩
      obtain ⟨b, hbk⟩ : ∃ b, bs[k]? = some b := ⟨_, List.getElem?_eq_getElem (by omega)⟩
      obtain ⟨ab, eb, g1, g2⟩ := (HA.out.1.at_ hbr) k b hbk
      obtain ⟨ax, ex, g3, g4⟩ := (HA.out.2.at_ hbr) k x hx
      have hbb := HBB.out k hlt
      have hfb : fnO bs k = b := fnO_get hbk
      rw [hfb] at hbb
      obtain ⟨q, hq⟩ : ∃ q : Nat, b = (q : Int) := ⟨b.toNat, by omega⟩
      have hqN : q < N := by have := HN.out; omega
      have hqI : (q : Int) < (N : Int) := by omega
      obtain ⟨y, hy⟩ : ∃ y, (smTo N (fnO bs) xs k)[q]? = some y := ⟨_, List.getElem?_eq_getElem (by rw [smTo_len]; exact hqN)⟩
      have yo := hbo.cell q
      rw [intC_get hy] at yo
      have fo := hbo.frozen q
      have lo := hbo.lt
      obtain ⟨yb1, yb2⟩ := smTo_bounds (M := 10000) (by omega) HX.out k y (List.mem_of_getElem? hy)
      obtain ⟨xb1, xb2⟩ := HX.out x (List.mem_of_getElem? hx)
      have HNX := hid (show Blk (wr.setCell ⟨w.heap.size + 1, q, none⟩ (.int .i64 (y + x))).drew (w.heap.size + 1) 3 (intC (smTo N (fnO bs) xs (k + 1))) ∧ Below w.heap.size w (wr.setCell ⟨w.heap.size + 1, q, none⟩ (.int .i64 (y + x))).drew by
        refine ⟨?_, ?_⟩
        · have := hbo.set_ q (.int .i64 (y + x))
          rw [intC_set] at this
          rw [smTo, show (fnO bs k).toNat = q by rw [hfb, hq]; omega, List.getD, hy, List.getD, hx]
          exact this.drew
        · exact (hbr.setCell (p := ⟨w.heap.size + 1, q, none⟩) (show w.heap.size ≤ w.heap.size + 1 by omega) _).drew)
      have hw1 : IntKind.i64.wrap (y + x) = y + x := IntWalk.i64_in _ (by omega)
      subst eb ex hq
      clear hbo hbr hx hbk hbb hfb hy g1 g3
      go_wp2
      go_still_tail 12, (by kernel_rfl)
      go_wp2
      go_roundw
      case rel => exact ⟨k + 1, by omega, by go_num, HNX.out⟩
      case measure => first | (simp [intOf]; done) | (simp [intOf]; omega)
    · have hkI : decide ((k : Int) < (xs.length : Int)) = false := by simp; omega
      obtain rfl : k = xs.length := by omega
      have hsl : (smD m (fnO bs) xs).length = N := by unfold smD; rw [smTo_len, HN.out]; omega
      have hbf : Blk wr (w.heap.size + 1) 3 (intC (smD m (fnO bs) xs)) := by unfold smD; rw [HN.out, Int.toNat_natCast]; exact hbo
      have HFIN := hid (show GivesInts (smD m (fnO bs) xs) w (.returned (.slice (some ⟨w.heap.size + 1, 0, none⟩) N N)) wr from
        ⟨some ⟨w.heap.size + 1, 0, none⟩, N, by rw [hsl], by rw [hsl]; exact Nat.le_refl _, by unfold maxLen; omega, ints_blk hbf, (fun a e => by cases e; exact ⟨Nat.le_succ _, _, hbf⟩), (fun e => by cases e), hbr⟩)
      clear hbo hbr hsl hbf
      go_wp2
      go_ret
      exact HFIN.out
end Go.Proofs.Ytoeabajigfdkaaa
/- One more to the part that lacks most, one after the other: the order of Divide's parts. -/
namespace Go.Proofs.Ytoeabajigfdkaaa

/-- the first of the greatest among the first numbers -/
def bestTo (l : List Int) : Nat → Nat
  | 0 => 0
  | j + 1 => if l.getD (bestTo l j) 0 < l.getD (j + 1) 0 then j + 1 else bestTo l j
theorem bestTo_spec (l : List Int) : ∀ j, bestTo l j ≤ j ∧ (∀ x, x < bestTo l j → l.getD x 0 < l.getD (bestTo l j) 0) ∧ ∀ x, bestTo l j < x → x ≤ j → l.getD x 0 ≤ l.getD (bestTo l j) 0
  | 0 => ⟨Nat.le_refl _, fun x h => absurd h (Nat.not_lt_zero _), fun x h1 h2 => by simp only [bestTo] at h1; omega⟩
  | j + 1 => by
    obtain ⟨h1, h2, h3⟩ := bestTo_spec l j
    unfold bestTo
    by_cases hc : l.getD (bestTo l j) 0 < l.getD (j + 1) 0
    · rw [if_pos hc]
      refine ⟨Nat.le_refl _, fun x hx => ?_, fun x h4 h5 => by omega⟩
      rcases Nat.lt_trichotomy x (bestTo l j) with h | h | h
      · have := h2 x h; omega
      · rw [h]; exact hc
      · have := h3 x h (by omega); omega
    · rw [if_neg hc]
      refine ⟨by omega, h2, fun x h4 h5 => ?_⟩
      by_cases e : x = j + 1
      · rw [e]; omega
      · exact h3 x h4 (by omega)
def restL (whole sum : Int) (ws : List Int) : List Int := ws.map fun x => (whole * x) % sum
/-- what each part lacks when j are given out -/
def lackTo (whole sum : Int) (ws : List Int) (j : Nat) : List Int := ((orderOf whole sum ws).take j).foldl (fun l i => l.set i (l.getD i 0 - sum)) (restL whole sum ws)
theorem lackTo_succ {whole sum : Int} {ws : List Int} {j i : Nat} (h : (orderOf whole sum ws)[j]? = some i) : lackTo whole sum ws (j + 1) = (lackTo whole sum ws j).set i ((lackTo whole sum ws j).getD i 0 - sum) := by
  obtain ⟨hj, rfl⟩ := List.getElem?_eq_some_iff.1 h
  unfold lackTo
  rw [List.take_succ_eq_append_getElem hj, List.foldl_append]; rfl
theorem lackTo_len (whole sum : Int) (ws : List Int) (j : Nat) : (lackTo whole sum ws j).length = ws.length := by
  unfold lackTo
  have : ∀ (l : List Nat) (o : List Int), (l.foldl (fun l i => l.set i (l.getD i 0 - sum)) o).length = o.length := by
    intro l
    induction l with
    | nil => intro o; rfl
    | cons i l ih => intro o; rw [List.foldl_cons, ih]; simp
  rw [this]; simp [restL]
theorem order_get {whole sum : Int} {ws : List Int} {j : Nat} (hj : j < ws.length) : (orderOf whole sum ws)[j]? = some ((orderOf whole sum ws).getD j 0) := by
  have hl := order_len whole sum ws
  rw [List.getElem?_eq_getElem (show j < (orderOf whole sum ws).length by omega)]
  simp [List.getD, List.getElem?_eq_getElem (show j < (orderOf whole sum ws).length by omega)]
theorem lackTo_at (whole sum : Int) (ws : List Int) {i p : Nat} (hp : p < ws.length) (hi : (orderOf whole sum ws).getD p 0 = i) : ∀ j, j ≤ ws.length →
    (lackTo whole sum ws j).getD i 0 = restOf whole sum ws i - if p < j then sum else 0
  | 0, _ => by
    have hil : i < ws.length := by rw [← hi]; exact (order_ord whole sum ws).lt p hp
    simp [lackTo, restL, restOf, List.getD, List.getElem?_eq_getElem hil]
  | j + 1, hj => by
    have O := order_ord whole sum ws
    have ih := lackTo_at whole sum ws hp hi j (by omega)
    rw [lackTo_succ (order_get (by omega : j < ws.length))]
    have hjl := O.lt j (by omega)
    rw [getD_set_at _ _ _ _ _ (by rw [lackTo_len]; exact hjl)]
    by_cases e : j = p
    · subst e
      rw [if_pos hi, hi, ih, if_neg (show ¬ j < j by omega), if_pos (show j < j + 1 by omega)]; omega
    · have hne : (orderOf whole sum ws).getD j 0 ≠ i := fun h => e (O.inj (by omega) hp (h.trans hi.symm))
      rw [if_neg hne, ih]
      by_cases hpj : p < j
      · rw [if_pos hpj, if_pos (show p < j + 1 by omega)]
      · rw [if_neg hpj, if_neg (show ¬ p < j + 1 by omega)]
theorem lackTo_bound {whole : Int} {ws : List Int} (ok : DOk whole ws.sum ws) {j : Nat} (hj : j ≤ ws.length) : ∀ y ∈ lackTo whole ws.sum ws j, -ws.sum ≤ y ∧ y ≤ ws.sum := by
  intro y hy
  obtain ⟨i, hi⟩ := List.getElem?_of_mem hy
  have hil := (List.getElem?_eq_some_iff.1 hi).1
  rw [lackTo_len] at hil
  obtain ⟨p, hp, e⟩ := (order_ord whole ws.sum ws).mem hil
  have h := lackTo_at whole ws.sum ws hp e j hj
  rw [getD_some hi] at h
  have := rest_range ok i
  have := ok.s0
  split at h <;> omega
/-- the part that lacks most is the next of the order -/
theorem best_next {whole : Int} {ws : List Int} (ok : DOk whole ws.sum ws) {j : Nat} (hj : j < ws.length) : bestTo (lackTo whole ws.sum ws j) (ws.length - 1) = (orderOf whole ws.sum ws).getD j 0 := by
  have O := order_ord whole ws.sum ws
  obtain ⟨b1, b2, b3⟩ := bestTo_spec (lackTo whole ws.sum ws j) (ws.length - 1)
  generalize bestTo (lackTo whole ws.sum ws j) (ws.length - 1) = b at *
  have hi := lackTo_at whole ws.sum ws hj rfl j (by omega)
  rw [if_neg (show ¬ j < j by omega)] at hi
  have hil := O.lt j hj
  obtain ⟨q, hq, e⟩ := O.mem (show b < ws.length by omega)
  have hb := lackTo_at whole ws.sum ws hq e j (by omega)
  have hrb := rest_range ok b
  have hri := rest_range ok ((orderOf whole ws.sum ws).getD j 0)
  have hkey : b = (orderOf whole ws.sum ws).getD j 0 ∨ (lackTo whole ws.sum ws j).getD b 0 < (lackTo whole ws.sum ws j).getD ((orderOf whole ws.sum ws).getD j 0) 0 ∨
      ((lackTo whole ws.sum ws j).getD b 0 = (lackTo whole ws.sum ws j).getD ((orderOf whole ws.sum ws).getD j 0) 0 ∧ (orderOf whole ws.sum ws).getD j 0 < b) := by
    rcases Nat.lt_trichotomy q j with h | h | h
    · rw [if_pos h] at hb
      exact .inr (.inl (by omega))
    · subst h
      exact .inl e.symm
    · rw [if_neg (show ¬ q < j by omega)] at hb
      have := O.srt j q h hq
      rw [e] at this
      rcases this with h1 | ⟨h1, h2⟩
      · exact .inr (.inl (by omega))
      · exact .inr (.inr ⟨by omega, h2⟩)
  rcases hkey with h | h | ⟨h, h'⟩
  · exact h
  · rcases Nat.lt_trichotomy b ((orderOf whole ws.sum ws).getD j 0) with hl | hl | hl
    · have := b3 _ hl (by omega); omega
    · exact hl
    · have := b2 _ hl; omega
  · have := b2 _ h'; omega
end Go.Proofs.Ytoeabajigfdkaaa
/- The reference's Divide: it is the program's. -/
namespace Go.Proofs.Ytoeabajigfdkaaa
open Go.RowKit Go.Shelf

/-- when k parts are reckoned -/
structure RdI (whole : Int) (A : Option Addr) (ws : List Int) (w : World) (k : Nat) (vo vr : Value) (W : World) : Prop where
  iw : IsInts W w.heap.size A ws
  o : W.ownsRow w.heap.size 3 1 vo k (((baseOf whole ws.sum ws).take k).map (Value.int .i64))
  r : W.ownsRow w.heap.size 3 1 vr k (((restL whole ws.sum ws).take k).map (Value.int .i64))
  ne : vo.ownBlock = none ∨ vo.ownBlock ≠ vr.ownBlock
  below : Below w.heap.size w W
/-- the parts, in memory of their own -/
def GivesParts (ws : List Int) (whole : Int) (w : World) (e : Ending) (w' : World) : Prop :=
  ∃ A c, e = .returned (.slice A ws.length c) ∧ IsInts w' w'.heap.size A (divOf ws whole) ∧ ws.length ≤ c ∧ c ≤ maxLen ∧ Below w.heap.size w w'
def GivesPartsF (ws : List Int) (whole : Int) (w : World) (e : Ending) (w' : World) : Prop :=
  ∃ A c, e = .returned (.slice A ws.length c) ∧ IsInts w' w'.heap.size A (divOf ws whole) ∧ ws.length ≤ c ∧ c ≤ maxLen ∧ (∀ a, A = some a → w.heap.size ≤ a.block) ∧ Below w.heap.size w w'
theorem part_le {ws : List Int} (hx : ∀ x ∈ ws, 0 ≤ x) (k : Nat) : 0 ≤ (ws.take k).sum ∧ (ws.take k).sum ≤ ws.sum := by
  have e : (ws.take k).sum + (ws.drop k).sum = ws.sum := by rw [← List.sum_append, List.take_append_drop]
  have h1 := sum_nonneg (ws.take k) fun y hy => hx y (List.mem_of_mem_take hy)
  have h2 := sum_nonneg (ws.drop k) fun y hy => hx y (List.mem_of_mem_drop hy)
  omega

set_option maxRecDepth 100000 in
set_option maxHeartbeats 4000000 in
theorem rdivide_far (A : Option Addr) (c : Nat) (ws : List Int) (whole : Int) (w : World) (h : IsInts w w.heap.size A ws) (hl : ws.length ≤ c) (_hm : c ≤ maxLen) (he : divE ws whole = 0) :
    Calls Try.prog 66 #[.slice A ws.length c, .int .i64 whole] w (GivesPartsF ws whole w) := by
  obtain ⟨ok, hne, _, _⟩ := div_ok he
  have hl12 := ok.l
  have hs0 := ok.s0
  have hs1 := ok.s1
  have hw0 := ok.w0
  have hw1 := ok.w1
  have OK := hid (And.intro ok hne)
  have HI0 := hid h
  have HI := hid (show RdI whole A ws w 0 (.slice none 0 0) (.slice none 0 0) w from ⟨h, World.ownsRow_nil _ _ _ _, World.ownsRow_nil _ _ _ _, .inl rfl, Below.refl _ _⟩)
  clear h ok he hne
  go_enter Try.func66, Try.ntmps66
  go_wp2
  go_loop [5, 7] (fun l i => ∃ k : Nat, k ≤ ws.length ∧ i = .int .i64 k ∧ l = .int .i64 ((ws.take k).sum)) (fun _ i => ws.length - (intOf i).toNat)
  case atStart => exact ⟨0, Nat.zero_le _, rfl, rfl⟩
  case round =>
    obtain ⟨k, hk, rfl, rfl⟩ := hrel
    by_cases hlt : k < ws.length
    · have hkI : (k : Int) < (ws.length : Int) := by omega
      obtain ⟨x, hx⟩ : ∃ x, ws[k]? = some x := ⟨_, List.getElem?_eq_getElem hlt⟩
      have hxb := OK.out.1.x x (List.mem_of_getElem? hx)
      obtain ⟨a, rfl, hab, hac⟩ := HI.out.iw k x hx
      have hpl := part_le (fun x hx => (OK.out.1.x x hx).1) k
      have HSK := hid (show (ws.take (k + 1)).sum = (ws.take k).sum + x by
        obtain ⟨hk', e⟩ := List.getElem?_eq_some_iff.1 hx
        rw [List.take_succ_eq_append_getElem hk', List.sum_append, e]; simp)
      clear hx hab
      go_wp2
      go_round
      case rel => exact ⟨k + 1, by omega, by go_num, (by first | rfl | (rw [HSK.out]))⟩
      case measure => first | (simp [intOf]; done) | (simp [intOf]; omega)
    · have hkI : decide ((k : Int) < (ws.length : Int)) = false := by simp; omega
      obtain rfl : k = ws.length := by omega
      rw [List.take_length]
      go_wp2
      clear hkI
      go_loopw [8, 9, 6, 10] (fun vo vr l i wr => ∃ k : Nat, k ≤ ws.length ∧ i = .int .i64 k ∧ l = .int .i64 (whole - ((baseOf whole ws.sum ws).take k).sum) ∧ RdI whole A ws w k vo vr wr) (fun _ _ _ i _ => ws.length - (intOf i).toNat)
      case atStart => exact ⟨0, Nat.zero_le _, rfl, by simp, HI.out⟩
      case round =>
        obtain ⟨k, hk, rfl, rfl, hi⟩ := hrel
        clear HI
        by_cases hlt : k < ws.length
        · have hkI : (k : Int) < (ws.length : Int) := by omega
          obtain ⟨x, hxk⟩ : ∃ x, ws[k]? = some x := ⟨_, List.getElem?_eq_getElem hlt⟩
          obtain ⟨hx1, hx2⟩ := OK.out.1.x x (List.mem_of_getElem? hxk)
          obtain ⟨a, rfl, hab, hac⟩ := hi.iw k x hxk
          obtain ⟨y, hy⟩ : ∃ y, y = whole * x := ⟨_, rfl⟩
          obtain ⟨q, hq⟩ : ∃ q, q = y / ws.sum := ⟨_, rfl⟩
          obtain ⟨z, hz⟩ : ∃ z, z = q * ws.sum := ⟨_, rfl⟩
          have hbk : (baseOf whole ws.sum ws)[k]? = some q := by simp [baseOf, hxk, hq, hy]
          have hyz : y - z = whole * x % ws.sum := by
            have := Int.mul_ediv_add_emod y ws.sum
            rw [hz, hq, ← hy, Int.mul_comm (y / ws.sum)]; omega
          have hrk : (restL whole ws.sum ws)[k]? = some (y - z) := by simp [restL, hxk, hyz]
          have hm1 := mul_bound hw0 hw1 hx1 hx2
          rw [← hy] at hm1
          obtain ⟨hm1, hm2⟩ := hm1
          have hq0 : 0 ≤ q := by rw [hq]; exact Int.ediv_nonneg hm1 (by omega)
          have hq1 : q ≤ y := by rw [hq]; exact Int.ediv_le_self _ hm1
          have hyz0 : 0 ≤ y - z := by rw [hyz]; exact Int.emod_nonneg _ (by omega)
          have hyz1 : y - z < ws.sum := by rw [hyz]; exact Int.emod_lt_of_pos _ (by omega)
          have hbp := base_part (whole := whole) (ws := ws) hw0 hs0 (fun x hx => (OK.out.1.x x hx).1)
          have hbp0 := hbp k
          have hbp1 := hbp (k + 1)
          have hbq := left_bounds (whole := whole) hs0 OK.out.2
          have hsk : ((baseOf whole ws.sum ws).take (k + 1)).sum = ((baseOf whole ws.sum ws).take k).sum + q := by
            obtain ⟨hk', e⟩ := List.getElem?_eq_some_iff.1 hbk
            rw [List.take_succ_eq_append_getElem hk', List.sum_append, e]; simp
          have hw6 : IntKind.i64.wrap (whole * x) = y := by rw [IntKind.wrap_i64, ← hy]; omega
          have hw12 : IntKind.i64.wrap (q * ws.sum) = z := by rw [IntKind.wrap_i64, ← hz]; omega
          have hw13 : IntKind.i64.wrap (y - z) = y - z := by rw [IntKind.wrap_i64]; omega
          obtain ⟨i0, hi0, hz0, hz1, hz2⟩ := info_parts int_info
          have HO := hid (hi.o.alloc (.cells #[.int .i64 q] 3))
          have HH := hid hi
          have HK := hid (And.intro hbk (And.intro hrk hsk))
          have HQ := hid hq
          have HXK := hid hxk
          have HZZ := hid (And.intro hz (And.intro hyz hy))
          clear hi hab hbk hrk hsk hxk hz hyz hbp hy
          have hwrs := HH.out.below.size
          have hk2 : (k : Int) < (k : Int) + 1 := by omega
          rw [hq] at HO
          clear hq
          go_wp2_with (at_builtin; refine wpList_append_own_at _ rfl (.tmp 32) (.tmp 41) 22 rfl w.heap.size 3 i0 (.int .i64 0) 1 8 Try.underlying22 hi0 hz0 hz1 hz2 rfl (by decide) u8 k _ rfl HO.out ⟨wr.heap.size, 0, none⟩ 1 1 [.int .i64 (y / ws.sum)] rfl rfl (by intro q u hq; cases q with | zero => simp at hq; subst hq; exact (World.cell?_alloc_new _ _ _ _) | succ q => simp at hq) (by intro u hu; simp at hu; subst hu; rfl) (by simp only [maxLen]; omega) (by omega) (by simp; omega) ?_; intro vo' w5 hown' hgrow _ hfr; have HR5 := hid (row_kept (HH.out.r.alloc _) hgrow HH.out.ne); have hs5 := hgrow.size; rw [World.size_alloc] at hs5; have HQ5 := hid (And.intro hown' (And.intro hgrow hfr)); clear hown' hgrow hfr)
          obtain ⟨ho5, hg5, hf5⟩ := HQ5.out
          obtain ⟨g, cap, rfl⟩ := Go.ownsRow_succ ho5
          rw [← HQ.out] at ho5
          rw [map_take_succ (Value.int .i64) HK.out.1] at ho5
          have hne5 : u9.ownBlock = none ∨ u9.ownBlock ≠ some g := by
            rcases hf5 with h | h
            · rcases HH.out.ne with h' | h'
              · rw [h'] at h; cases h
              · exact .inr fun e => h' (h.symm.trans e.symm)
            · injection h with h
              simp only [World.size_alloc] at h
              refine .inr fun e => ?_
              have := (HH.out.r.lt _ e).2
              omega
          have hb5 := below_row' (HH.out.below.alloc HH.out.below.size (.cells #[.int .i64 (y / ws.sum)] 3)) (HH.out.o.alloc _) (Nat.le_refl _) hg5 (by simp; omega)
          have c5 : w5.cell? ⟨g, k, none⟩ = some (.int .i64 q) := by
            have := ho5.cells (g := g) rfl k (.int .i64 q) (by rw [List.getElem?_map, List.getElem?_take, if_pos (by omega), HK.out.1]; rfl)
            rwa [show (⟨g, 0, none⟩ : Addr).add k = ⟨g, k, none⟩ by unfold Addr.add; split <;> simp_all] at this
          have hgl5 := (ho5.lt g rfl).2
          have KOC := hid (fun (W2 : World) (hW : Below w5.heap.size w5 W2) => (hW.cell (p := ⟨g, k, none⟩) hgl5).trans c5)
          have KIW : Hid (∀ W2 : World, Below w5.heap.size w5 W2 → W2.cell? (a.add k) = some (.int .i64 x)) := hid (fun W2 hW => by
            obtain ⟨a', e, h1, h2⟩ := HI0.out.below (hb5.trans (hW.mono hb5.size)) k x HXK.out
            injection e with e
            subst e
            exact h2)
          have H5 := hid (And.intro ho5 (And.intro hb5 hne5))
          clear HQ5 ho5 hg5 hf5 hne5 hb5 c5 HO hac
          refine (wpIn_wide (n := 0)).1 ?_
          refine wpIn_region_each 15 (fun i v W' => match i with | 0 => v = u9 | 1 => v = .int .i64 whole | 2 => v = .slice (some a) ws.length c | 3 => v = .int .i64 (k : Int) | 4 => v = .pointer (some (a.add k)) | 5 => v = .int .i64 x | 6 => v = .int .i64 y | 7 => v = .slice (some ⟨g, 0, none⟩) (k + 1) cap | 8 => v = .int .i64 (k : Int) | 9 => v = .pointer (some ⟨g, k, none⟩) | 10 => v = .int .i64 q | 11 => v = .int .i64 ws.sum | 12 => v = .int .i64 z | 13 => v = .int .i64 (y - z) | 14 => ∃ gl, v = .slice (some ⟨gl, 0, none⟩) 1 1 ∧ Blk W' gl 3 #[.int .i64 (y - z)] | _ => True) (fun A B => Below A.heap.size A B) (fun _ _ => True) (by kernel_rfl) (by kernel_rfl) ?_ (fun h k => h.trans (k.mono h.size)) ⟨rfl, rfl, rfl, Nat.le_refl _, fun _ _ => rfl⟩ trivial (by kernel_rfl) ?_ ?_
          · intro i v W1 W2 hb h
            match i, h with
            | 0, h => exact h
            | 1, h => exact h
            | 2, h => exact h
            | 3, h => exact h
            | 4, h => exact h
            | 5, h => exact h
            | 6, h => exact h
            | 7, h => exact h
            | 8, h => exact h
            | 9, h => exact h
            | 10, h => exact h
            | 11, h => exact h
            | 12, h => exact h
            | 13, h => exact h
            | 14, h =>
              obtain ⟨gl, rfl, h1⟩ := h
              exact ⟨gl, rfl, h1.keep hb⟩
            | i + 15, h => trivial
          · refine ⟨?_, ?_, ?_, ?_, ?_, ?_, ?_, ?_, ?_, ?_, ?_, ?_, ?_, ?_, ?_, trivial⟩
            · -- 0
              intro li a1 W2 hA K hK
              have e9 := hA.par 9 (by kernel_rfl)
              refine opStep none 0 rfl rfl (fun c hc => by cases hc) ?_
              go_simp
              exact hK _ _ rfl (Below.refl _ _) trivial
            · -- 1
              intro li a1 W2 hA K hK
              have e1 := hA.par 1 (by kernel_rfl)
              refine opStep none 0 rfl rfl (fun c hc => by cases hc) ?_
              go_simp
              exact hK _ _ rfl (Below.refl _ _) trivial
            · -- 2
              intro li a1 W2 hA K hK
              have e0 := hA.par 0 (by kernel_rfl)
              refine opStep none 0 rfl rfl (fun c hc => by cases hc) ?_
              go_simp
              exact hK _ _ rfl (Below.refl _ _) trivial
            · -- 3
              intro li a1 W2 hA K hK
              have e10 := hA.par 10 (by kernel_rfl)
              refine opStep none 0 rfl rfl (fun c hc => by cases hc) ?_
              go_simp
              exact hK _ _ rfl (Below.refl _ _) trivial
            · -- 4
              intro li a1 W2 hA K hK
              have e45 : a1.tmps.getD 45 undef = .slice (some a) ws.length c := hA.val 2 45 (by kernel_rfl) (by kernel_rfl)
              have e46 : a1.tmps.getD 46 undef = .int .i64 (k : Int) := hA.val 3 46 (by kernel_rfl) (by kernel_rfl)
              refine opStep none 0 rfl rfl (fun c hc => by cases hc) ?_
              go_simp
              exact hK _ _ rfl (Below.refl _ _) trivial
            · -- 5
              intro li a1 W2 hA K hK
              have e47 : a1.tmps.getD 47 undef = .pointer (some (a.add k)) := hA.val 4 47 (by kernel_rfl) (by kernel_rfl)
              have hcell := (KIW.out W2 hA.st)
              refine opStep none 0 rfl rfl (fun c hc => by cases hc) ?_
              go_simp
              exact hK _ _ rfl (Below.refl _ _) trivial
            · -- 6
              intro li a1 W2 hA K hK
              have e44 : a1.tmps.getD 44 undef = .int .i64 whole := hA.val 1 44 (by kernel_rfl) (by kernel_rfl)
              have e48 : a1.tmps.getD 48 undef = .int .i64 x := hA.val 5 48 (by kernel_rfl) (by kernel_rfl)
              refine opStep none 0 rfl rfl (fun c hc => by cases hc) ?_
              go_simp
              exact hK _ _ (by first | rfl | exact congrArg (Value.int .i64) hw6 | (simp [hw6])) (Below.refl _ _) trivial
            · -- 7
              intro li a1 W2 hA K hK
              have e8 := hA.par 8 (by kernel_rfl)
              refine opStep none 0 rfl rfl (fun c hc => by cases hc) ?_
              go_simp
              exact hK _ _ rfl (Below.refl _ _) trivial
            · -- 8
              intro li a1 W2 hA K hK
              have e10 := hA.par 10 (by kernel_rfl)
              refine opStep none 0 rfl rfl (fun c hc => by cases hc) ?_
              go_simp
              exact hK _ _ rfl (Below.refl _ _) trivial
            · -- 9
              intro li a1 W2 hA K hK
              have e50 : a1.tmps.getD 50 undef = .slice (some ⟨g, 0, none⟩) (k + 1) cap := hA.val 7 50 (by kernel_rfl) (by kernel_rfl)
              have e51 : a1.tmps.getD 51 undef = .int .i64 (k : Int) := hA.val 8 51 (by kernel_rfl) (by kernel_rfl)
              refine opStep none 0 rfl rfl (fun c hc => by cases hc) ?_
              go_simp
              exact hK _ _ (by first | rfl | exact congrArg (fun q => Value.pointer (some q)) (add_blk _ _)) (Below.refl _ _) trivial
            · -- 10
              intro li a1 W2 hA K hK
              have e52 : a1.tmps.getD 52 undef = .pointer (some ⟨g, k, none⟩) := hA.val 9 52 (by kernel_rfl) (by kernel_rfl)
              have hcell := (KOC.out W2 hA.st)
              refine opStep none 0 rfl rfl (fun c hc => by cases hc) ?_
              go_simp
              exact hK _ _ rfl (Below.refl _ _) trivial
            · -- 11
              intro li a1 W2 hA K hK
              have e5 := hA.par 5 (by kernel_rfl)
              refine opStep none 0 rfl rfl (fun c hc => by cases hc) ?_
              go_simp
              exact hK _ _ rfl (Below.refl _ _) trivial
            · -- 12
              intro li a1 W2 hA K hK
              have e53 : a1.tmps.getD 53 undef = .int .i64 q := hA.val 10 53 (by kernel_rfl) (by kernel_rfl)
              have e54 : a1.tmps.getD 54 undef = .int .i64 ws.sum := hA.val 11 54 (by kernel_rfl) (by kernel_rfl)
              refine opStep none 0 rfl rfl (fun c hc => by cases hc) ?_
              go_simp
              exact hK _ _ (by first | rfl | exact congrArg (Value.int .i64) hw12 | (simp [hw12])) (Below.refl _ _) trivial
            · -- 13
              intro li a1 W2 hA K hK
              have e49 : a1.tmps.getD 49 undef = .int .i64 y := hA.val 6 49 (by kernel_rfl) (by kernel_rfl)
              have e55 : a1.tmps.getD 55 undef = .int .i64 z := hA.val 12 55 (by kernel_rfl) (by kernel_rfl)
              refine opStep none 0 rfl rfl (fun c hc => by cases hc) ?_
              go_simp
              exact hK _ _ (by first | rfl | exact congrArg (Value.int .i64) hw13) (Below.refl _ _) trivial
            · -- 14
              intro li a1 W2 hA K hK
              have e56 : a1.tmps.getD 56 undef = .int .i64 (y - z) := hA.val 13 56 (by kernel_rfl) (by kernel_rfl)
              have e56' := e56
              rw [Array.getD_eq_getD_getElem?] at e56'
              refine opStep none 0 rfl rfl (fun c hc => by cases hc) ?_
              go_simp
              exact hK _ _ ⟨_, rfl, Blk.new _ _ _⟩ ((Below.refl _ _).alloc (Nat.le_refl _) _) trivial
          · intro li a1 W2 hD
            have e43 : a1.tmps.getD 43 undef = u9 := hD.val 0 43 (by kernel_rfl) (by kernel_rfl)
            obtain ⟨gl, e57, hgl⟩ := hD.val 14 57 (by kernel_rfl) (by kernel_rfl)
            have hst := hD.st
            obtain ⟨ho5, hb5, hne5⟩ := H5.out
            have hr2 : W2.ownsRow w.heap.size 3 1 u9 k (((restL whole ws.sum ws).take k).map (Value.int .i64)) := row_kept (vo := .slice none 0 0) HR5.out (grown_of_below hst _) (.inl rfl)
            have ho2 := row_kept (vo := .slice none 0 0) ho5 (grown_of_below hst _) (.inl rfl)
            have hs2 := hst.size
            obtain ⟨v', w7, hrun, hr7, hg7, _, hf7⟩ := run_append_own_at (P := Try.prog) W2 w.heap.size 22 22 3 i0 (.int .i64 0) 1 8 Try.underlying22 hi0 hz0 hz1 hz2 rfl (by decide) u9 k _ hr2 ⟨gl, 0, none⟩ 1 1 [.int .i64 (y - z)] rfl (by intro q u hq; cases q with | zero => simp at hq; subst hq; exact hgl.c1 | succ q => simp at hq) (by intro u hu; simp at hu; subst hu; rfl) (by simp only [maxLen]; omega) (by omega) (by omega)
            rw [map_take_succ (Value.int .i64) HK.out.2.1] at hr7
            have ho7 := row_kept ho2 hg7 hne5
            have hne7 : Value.ownBlock (.slice (some ⟨g, 0, none⟩) (k + 1) cap) ≠ v'.ownBlock := by
              intro e
              rcases hf7 with h | h
              · rw [h] at e
                rcases hne5 with h' | h'
                · rw [h'] at e; cases e
                · exact h' e.symm
              · rw [h] at e
                injection e with e
                have e' : g = W2.heap.size := e
                omega
            have hb7 := below_row' (hb5.trans (hst.mono hb5.size)) hr2 (Nat.le_refl _) hg7 (by omega)
            have c7 : w7.cell? ⟨g, k, none⟩ = some (.int .i64 q) := by
              have := ho7.cells (g := g) rfl k (.int .i64 q) (by rw [List.getElem?_map, List.getElem?_take, if_pos (by omega), HK.out.1]; rfl)
              rwa [show (⟨g, 0, none⟩ : Addr).add k = ⟨g, k, none⟩ by unfold Addr.add; split <;> simp_all] at this
            have HNN := hid (show RdI whole (some a) ws w (k + 1) (.slice (some ⟨g, 0, none⟩) (k + 1) cap) v' w7 from ⟨HI0.out.below hb7, ho7, hr7, .inr hne7, hb7⟩)
            have hkp2 := hD.keeps (ds := [43, 44, 45, 46, 47, 48, 49, 50, 51, 52, 53, 54, 55, 56, 57, 58, 9]) (by kernel_rfl)
            have hds := hD.size
            have hs99 : a1.tmps.size = 99 := hD.size
            have hdd := hD.defers
            clear hst ho5 hb5 hne5 hr2 ho2 hr7 hg7 hf7 ho7 hne7 hb7 hgl
            refine tail_val (i := 15) (v := v') (W' := w7) none 0 rfl rfl rfl (fun c hc => by cases hc) (by simp [execOp, resolve, invoke, builtin, Act.eval, e43, e57, hrun, Result.andThen]) (by rw [hs99]; decide) ?_
            intro a3 s3 d3 f3 o3
            have hkp3 := keeps_then hkp2 o3 (by decide)
            refine tail_val (i := 16) (v := v') (W' := w7) none 0 rfl rfl rfl (fun c hc => by cases hc) (by go_simp) (by rw [s3, hs99]; decide) ?_
            intro a4 s4 d4 f4 o4
            have hkp4 := keeps_then hkp3 o4 (by decide)
            have e := act_mix [43, 44, 45, 46, 47, 48, 49, 50, 51, 52, 53, 54, 55, 56, 57, 58, 9] (s4.trans (s3.trans hds)) (d4.trans (d3.trans hdd)) (fun i _ hc => hkp4 i hc)
            have f9 : (fun i => a4.tmps.getD i undef) 9 = v' := f4
            generalize (fun i => a4.tmps.getD i undef) = g' at e f9
            refine wpListIn_nil ?_
            rw [e]
            have HSK := hid HK.out.2.2
            have hsk' := HSK.out
            have hwl : IntKind.i64.wrap (whole - ((baseOf whole ws.sum ws).take k).sum - q) = whole - ((baseOf whole ws.sum ws).take (k + 1)).sum := by rw [IntKind.wrap_i64, hsk']; omega
            clear e hD hkp2 hkp3 hkp4 s3 s4 d3 d4 f3 f4 o3 o4 e43 e57 hds hdd hs99 hsk' KOC KIW HK HH H5 HR5
            simp only [mix, List.contains_cons, List.contains_nil, Nat.reduceAdd, Nat.reduceBEq, Bool.or_false, Bool.or_true, cond_true, cond_false, f9]
            have hk1 : (k : Int) < ((k + 1 : Nat) : Int) := by omega
            go_wp2
            go_roundw
            case rel => exact ⟨k + 1, by omega, by go_num, (by first | rfl | (rw [HSK.out]) | exact congrArg (Value.int .i64) (by rw [HSK.out]; omega)), HNN.out⟩
            case measure => first | (simp [intOf]; done) | (simp [intOf]; omega)
        · have hkI : decide ((k : Int) < (ws.length : Int)) = false := by simp; omega
          obtain rfl : k = ws.length := by omega
          have hbq := left_bounds (whole := whole) hs0 OK.out.2
          have hn1 : 1 ≤ ws.length := by
            cases ws with
            | nil => exact absurd rfl OK.out.2
            | cons x l => simp
          have hshape : ∀ {v : Value} {vs : List Value}, wr.ownsRow w.heap.size 3 1 v ws.length vs → ∃ g cap, v = .slice (some ⟨g, 0, none⟩) ws.length cap := by
            intro v vs hv
            obtain ⟨n', hn'⟩ : ∃ n', ws.length = n' + 1 := ⟨ws.length - 1, by omega⟩
            rw [hn'] at hv ⊢
            exact Go.ownsRow_succ hv
          obtain ⟨go, co, rfl⟩ := hshape hi.o
          obtain ⟨gr, cr, rfl⟩ := hshape hi.r
          obtain ⟨lf, hlf⟩ : ∃ lf : Nat, whole - (baseOf whole ws.sum ws).sum = (lf : Int) := ⟨leftOf whole ws.sum ws, by unfold leftOf; omega⟩
          have hbl : (baseOf whole ws.sum ws).length = ws.length := by simp [baseOf]
          have hrl : (restL whole ws.sum ws).length = ws.length := by simp [restL]
          have htb : (baseOf whole ws.sum ws).take ws.length = baseOf whole ws.sum ws := List.take_of_length_le (by omega)
          have htr : (restL whole ws.sum ws).take ws.length = restL whole ws.sum ws := List.take_of_length_le (by omega)
          rw [htb, hlf]
          rw [hlf] at hbq
          have ho := hi.o
          have hr := hi.r
          rw [htb] at ho
          rw [htr] at hr
          have HLF := hid (show leftOf whole ws.sum ws = lf by unfold leftOf; omega)
          have hlo : LB wr go co (bumpTo whole ws.sum ws 0) := lb_of_own ho
          have hlr : LB wr gr cr (lackTo whole ws.sum ws 0) := lb_of_own hr
          have hcoo : ws.length ≤ co ∧ co ≤ maxLen := by
            rcases ho.2 with ⟨e, _⟩ | ⟨g', cap', cur, e, _, _, h1, h2, _⟩
            · cases e
            · injection e with _ _ e3; subst e3; exact ⟨h1, h2⟩
          have HLS := hid (show w.heap.size ≤ go ∧ w.heap.size ≤ gr ∧ go ≠ gr from ⟨(ho.lt go rfl).1, (hr.lt gr rfl).1, by
            rcases hi.ne with h | h
            · cases h
            · exact fun e => h (by rw [e]; rfl)⟩)
          have HCO := hid hcoo
          have HGO := hid HLS.out.1
          have HF := hid (And.intro hlo (And.intro hlr hi.below))
          obtain ⟨hbq1, hbq2⟩ := hbq
          clear hi ho hr hlo hlr hcoo htb htr hbl hrl hshape hlf
          go_wp2
          clear hkI
          go_loopw [6] (fun l wr => ∃ j : Nat, j ≤ lf ∧ l = .int .i64 ((lf : Int) - j) ∧ LB wr go co (bumpTo whole ws.sum ws j) ∧ LB wr gr cr (lackTo whole ws.sum ws j) ∧ Below w.heap.size w wr) (fun l _ => (intOf l).toNat)
          case atStart => exact ⟨0, Nat.zero_le _, by simp, HF.out⟩
          case round =>
            obtain ⟨j, hj, rfl, hlb, hlk, hbe⟩ := hrel
            clear HF
            by_cases hlt : j < lf
            · have hjI : (0 : Int) < (lf : Int) - (j : Int) := by omega
              have HJ := hid (And.intro hlb (And.intro hlk hbe))
              clear hlb hlk hbe
              go_wp2
              clear hjI
              go_loopw [11, 12] (fun b i wr2 => ∃ m : Nat, m + 1 ≤ ws.length ∧ i = .int .i64 ((m : Int) + 1) ∧ b = .int .i64 (bestTo (lackTo whole ws.sum ws j) m : Nat) ∧ Below wr.heap.size wr wr2) (fun _ i _ => ws.length - (intOf i).toNat)
              case atStart => exact ⟨0, by omega, rfl, rfl, Below.refl _ _⟩
              case round =>
                obtain ⟨m, hm2, rfl, rfl, hbr⟩ := hrel
                have hbs := bestTo_spec (lackTo whole ws.sum ws j) m
                have hll := lackTo_len whole ws.sum ws j
                by_cases hltm : m + 1 < ws.length
                · have hmI : (m : Int) + 1 < (ws.length : Int) := by omega
                  obtain ⟨u, hu⟩ : ∃ u, (lackTo whole ws.sum ws j)[m + 1]? = some u := ⟨_, List.getElem?_eq_getElem (by omega)⟩
                  obtain ⟨v, hv⟩ : ∃ v, (lackTo whole ws.sum ws j)[bestTo (lackTo whole ws.sum ws j) m]? = some v := ⟨_, List.getElem?_eq_getElem (by omega)⟩
                  have hlk2 := HJ.out.2.1.below hbr
                  have c1 := hlk2.cell hu
                  have c2 := hlk2.cell hv
                  have hbt : bestTo (lackTo whole ws.sum ws j) (m + 1) = if v < u then m + 1 else bestTo (lackTo whole ws.sum ws j) m := by
                    rw [bestTo, getD_some hu, getD_some hv]
                  have hbm := hbs.1
                  obtain ⟨p, hp⟩ : ∃ p, p = bestTo (lackTo whole ws.sum ws j) m := ⟨_, rfl⟩
                  rw [← hp] at hbt c2 hbm ⊢
                  have HBT := hid hbt
                  have HBR := hid hbr
                  have q1 := xt_cell c1
                  have q2 := xt_cell c2
                  have hpI : (p : Int) < (ws.length : Int) := by omega
                  clear hbs hll hu hv hlk2 hbt hbr hp
                  go_wp2
                  refine wp_region_quiet_xt (by kernel_rfl) (by kernel_rfl) ?_
                  repeat go_big_quiet_step (fail)
                  refine wpQuiet_nil ?_
                  intro W7 hw7
                  have HW7 := hid (HBR.out.trans ((of_xt hw7).mono HBR.out.size))
                  clear hw7 q1 q2 c1 c2
                  by_cases hvu : v < u
                  · have hbt := HBT.out
                    rw [if_pos hvu] at hbt
                    have HB2 := hid hbt
                    clear hbt
                    go_wp2
                    go_roundw
                    case rel => exact ⟨m + 1, by omega, by go_num, (by rw [HB2.out]; first | rfl | go_num), HW7.out⟩
                    case measure => first | (simp [intOf]; done) | (simp [intOf]; omega)
                  · have hbt := HBT.out
                    rw [if_neg hvu] at hbt
                    have HB2 := hid hbt
                    have hvd : decide (v < u) = false := by simp; omega
                    clear hbt
                    go_wp2
                    go_roundw
                    case rel => exact ⟨m + 1, by omega, by go_num, (by rw [HB2.out]), HW7.out⟩
                    case measure => first | (simp [intOf]; done) | (simp [intOf]; omega)
                · have hmI : decide ((m : Int) + 1 < (ws.length : Int)) = false := by simp; omega
                  obtain rfl : m = ws.length - 1 := by omega
                  have hbn := best_next OK.out.1 (show j < ws.length by omega)
                  have hog := order_get (whole := whole) (sum := ws.sum) (show j < ws.length by omega)
                  rw [← hbn] at hog
                  obtain ⟨i, hi⟩ : ∃ i, i = bestTo (lackTo whole ws.sum ws j) (ws.length - 1) := ⟨_, rfl⟩
                  rw [← hi] at hog ⊢
                  have hil : i < ws.length := by rw [hi]; have := hbs.1; omega
                  have hbl := bumpTo_len whole ws.sum ws j
                  obtain ⟨y, hy⟩ : ∃ y, (bumpTo whole ws.sum ws j)[i]? = some y := ⟨_, List.getElem?_eq_getElem (by omega)⟩
                  obtain ⟨u, hu⟩ : ∃ u, (lackTo whole ws.sum ws j)[i]? = some u := ⟨_, List.getElem?_eq_getElem (by omega)⟩
                  have hyb := bumpTo_bound OK.out.1 j (by omega) y (List.mem_of_getElem? hy)
                  have hub := lackTo_bound OK.out.1 (show j ≤ ws.length by omega) u (List.mem_of_getElem? hu)
                  obtain ⟨z1, z2, z3⟩ := HLS.out
                  have hlb2 := HJ.out.1.below hbr
                  have hlk2 := HJ.out.2.1.below hbr
                  have hbe2 := HJ.out.2.2.trans (hbr.mono HJ.out.2.2.size)
                  have c1 := hlb2.cell hy
                  have f1 := hlb2.frozen i
                  have l1 := hlb2.lt
                  have hlb3 := hlb2.set_ i (y + 1)
                  have hlk3 := hlk2.other (grown_put wr ⟨go, i, none⟩ (.int .i64 (y + 1))) z3
                  have c2 := hlk3.cell hu
                  have f2 := hlk3.frozen i
                  have l2 := hlk3.lt
                  have hlk4 := hlk3.set_ i (u - ws.sum)
                  have hlb4 := hlb3.other (grown_put _ ⟨gr, i, none⟩ (.int .i64 (u - ws.sum))) (fun e => z3 e.symm)
                  have hbe4 := (hbe2.setCell (p := ⟨go, i, none⟩) (by show w.heap.size ≤ go; omega) (.int .i64 (y + 1))).setCell (p := ⟨gr, i, none⟩) (by show w.heap.size ≤ gr; omega) (.int .i64 (u - ws.sum))
                  have hb5 : bumpTo whole ws.sum ws (j + 1) = (bumpTo whole ws.sum ws j).set i (y + 1) := by rw [bumpTo_succ hog, bump, getD_some hy]
                  have hk5 : lackTo whole ws.sum ws (j + 1) = (lackTo whole ws.sum ws j).set i (u - ws.sum) := by rw [lackTo_succ hog, getD_some hu]
                  rw [← hb5] at hlb4
                  rw [← hk5] at hlk4
                  have HN := hid (And.intro hlb4 (And.intro hlk4 hbe4))
                  have hiI : (i : Int) < (ws.length : Int) := by omega
                  clear hbn hog hi hbl hy hu hlb2 hlk2 hbe2 hlb3 hlk3 hlk4 hlb4 hbe4 hb5 hk5 hbs hll hbr
                  go_wp2
                  go_roundw
                  case rel => exact ⟨j + 1, by omega, (by first | go_num | exact congrArg (Value.int .i64) (by omega)), HN.out⟩
                  case measure => first | (simp [intOf]; done) | (simp [intOf]; omega)
            · obtain rfl : j = lf := by omega
              have hjI : decide ((0 : Int) < (j : Int) - (j : Int)) = false := by simp
              have HN := hid (And.intro hlb hbe)
              clear hlb hlk hbe
              go_wp2
              refine bodyPost_ret (v := .slice (some ⟨go, 0, none⟩) ws.length co) (by simp [results, Try.results66, go_sem]) rfl ?_
              refine ⟨_, _, rfl, ?_, HCO.out.1, HCO.out.2, (fun a e => by cases e; exact HGO.out), HN.out.2⟩
              unfold divOf
              rw [HLF.out]
              exact HN.out.1.ints HN.out.1.lt
theorem rdivide_any (A : Option Addr) (c : Nat) (ws : List Int) (whole : Int) (w : World) (h : IsInts w w.heap.size A ws) (hl : ws.length ≤ c) (hm : c ≤ maxLen) (he : divE ws whole = 0) :
    Calls Try.prog 66 #[.slice A ws.length c, .int .i64 whole] w (GivesParts ws whole w) :=
  (rdivide_far A c ws whole w h hl hm he).mono fun _ _ ⟨A', c', h1, h2, h3, h4, _, h6⟩ => ⟨A', c', h1, h2, h3, h4, h6⟩
end Go.Proofs.Ytoeabajigfdkaaa
/- The reference of layer 11: the carried counts. Conditions stand at each theorem. -/
namespace Go.Proofs.Ytoeabajigfdkaaa
open Go.RowKit Go.Shelf

theorem blk_low {W W' : World} {base e size n g t : Nat} {v : Value} {xs : List Value} {us : Array Value} (ho : W.ownsRow base e size v n xs) (hg : W.grownBy W' v.ownBlock) (hb : Blk W g t us) (hlt : g < base) : Blk W' g t us :=
  (hg.block _ hb.lt (fun e' => by have := (ho.lt g e'.symm).1; omega)).trans hb
def atV (m : MapD) (d k : Nat) : List Value := (atTo m d k).map fun (i : Nat) => Value.int .i64 (i : Int)
def wsV (m : MapD) (d k : Nat) : List Value := (wsTo m d k).map (Value.int .i64)
/-- the streets and weights of a district, when k streets are looked at -/
structure CarI (m : MapD) (A : Option Addr) (c : Nat) (A2 : Option Addr) (c2 : Nat) (A3 : Option Addr) (c3 : Nat) (w : World) (d k : Nat) (v5 v6 : Value) (W : World) : Prop where
  r5 : W.ownsRow (w.heap.size + 2) 3 1 v5 (wsTo m d k).length (wsV m d k)
  r6 : W.ownsRow (w.heap.size + 2) 3 1 v6 (atTo m d k).length (atV m d k)
  ne : v6.ownBlock = none ∨ v6.ownBlock ≠ v5.ownBlock
  bo : Blk W (w.heap.size + 1) 3 (intC (carTo m d))
  bt : Blk W w.heap.size 26 #[.slice A m.old.length c, .int .i64 m.nw, .slice A2 m.ss.length c2, .slice A3 m.js.length c3]
  bl : Below w.heap.size w W
section
variable {m : MapD} {A : Option Addr} {c : Nat} {A2 : Option Addr} {c2 : Nat} {A3 : Option Addr} {c3 : Nat} {w W W1 W5 W6 W7 : World} {d k : Nat} {v5 v6 u5 u6 : Value}
theorem CarI.at_ (h : CarI m A c A2 c2 A3 c3 w d k v5 v6 W) (hb : Below W.heap.size W W1) : CarI m A c A2 c2 A3 c3 w d k v5 v6 W1 :=
  ⟨row_kept (vo := .slice none 0 0) h.r5 (grown_of_below hb _) (.inl rfl), row_kept (vo := .slice none 0 0) h.r6 (grown_of_below hb _) (.inl rfl), h.ne, h.bo.keep hb, h.bt.keep hb, h.bl.trans (hb.mono h.bl.size)⟩
theorem CarI.skip {s : Stt} (h : CarI m A c A2 c2 A3 c3 w d k v5 v6 W) (hs : m.ss[k]? = some s) (hd : s.o ≠ (d : Int)) : CarI m A c A2 c2 A3 c3 w d (k + 1) v5 v6 W := by
  obtain ⟨e1, e2⟩ := atTo_skip hs hd
  have h5 := h.r5
  have h6 := h.r6
  unfold wsV at h5
  unfold atV at h6
  exact ⟨by unfold wsV; rw [e2]; exact h5, by unfold atV; rw [e1]; exact h6, h.ne, h.bo, h.bt, h.bl⟩
theorem nn {x y : Option Nat} (h : x = none ∨ x ≠ y) : y = none ∨ y ≠ x := by
  rcases h with h | h
  · cases y with
    | none => exact .inl rfl
    | some z => exact .inr (by rw [h]; intro e; cases e)
  · exact .inr fun e => h e.symm
theorem CarI.mid (h : CarI m A c A2 c2 A3 c3 w d k v5 v6 W) (g5 : W.grownBy W5 v5.ownBlock) : W5.ownsRow (w.heap.size + 2) 3 1 v6 (atTo m d k).length (atV m d k) := row_kept h.r6 g5 (nn h.ne)
theorem CarI.add {s : Stt} (h : CarI m A c A2 c2 A3 c3 w d k v5 v6 W) (hs : m.ss[k]? = some s) (hd : s.o = (d : Int)) (o5 : W5.ownsRow (w.heap.size + 2) 3 1 u5 ((wsTo m d k).length + 1) (wsV m d k ++ [.int .i64 s.wt])) (g5 : W.grownBy W5 v5.ownBlock) (f5 : u5.ownBlock = v5.ownBlock ∨ u5.ownBlock = some W.heap.size)
    (hb : Below W5.heap.size W5 W6) (o7 : W7.ownsRow (w.heap.size + 2) 3 1 u6 ((atTo m d k).length + 1) (atV m d k ++ [.int .i64 (k : Int)])) (g7 : W6.grownBy W7 v6.ownBlock) (f7 : u6.ownBlock = v6.ownBlock ∨ u6.ownBlock = some W6.heap.size) : CarI m A c A2 c2 A3 c3 w d (k + 1) u5 u6 W7 := by
  obtain ⟨e1, e2⟩ := atTo_take hs hd
  have n65 : v6.ownBlock = none ∨ v6.ownBlock ≠ u5.ownBlock := by
    rcases f5 with e | e
    · rw [e]; exact h.ne
    · rw [e]
      refine .inr fun e' => ?_
      have := (h.r6.lt _ e').2
      omega
  have o5' := row_kept (row_kept (vo := .slice none 0 0) o5 (grown_of_below hb _) (.inl rfl)) g7 n65
  have r6' := row_kept (vo := .slice none 0 0) (h.mid g5) (grown_of_below hb none) (.inl rfl)
  refine ⟨?_, ?_, ?_, ?_, ?_, ?_⟩
  · unfold wsV at o5' ⊢
    rw [e2, List.length_append, List.map_append]; exact o5'
  · unfold atV at o7 ⊢
    rw [e1, List.length_append, List.map_append]; exact o7
  · rcases f7 with e | e
    · rw [e]; exact n65
    · rw [e]
      refine .inr fun e' => ?_
      have h1 := (o5.lt _ e'.symm).2
      have := hb.size
      omega
  · exact blk_low r6' g7 ((blk_low h.r5 g5 h.bo (by omega)).keep hb) (by omega)
  · exact blk_low r6' g7 ((blk_low h.r5 g5 h.bt (by omega)).keep hb) (by omega)
  · have b5 := below_row' h.bl h.r5 (by omega) g5 h.bl.size
    exact below_row' (b5.trans (hb.mono b5.size)) r6' (by omega) g7 (by have := b5.size; have := hb.size; omega)
end

set_option maxRecDepth 100000 in
set_option maxHeartbeats 4000000 in
theorem qcarry_any (m : MapD) (A : Option Addr) (c : Nat) (A2 : Option Addr) (c2 : Nat) (A3 : Option Addr) (c3 : Nat) (w : World) (h : MIn m A c A2 c2 A3 c3 w) (ok : OkM m) :
    Calls Try.prog 22 #[.agg #[.slice A m.old.length c, .int .i64 m.nw, .slice A2 m.ss.length c2, .slice A3 m.js.length c3]] w (GivesInts (car m) w) := by
  have hm1 := h.m1
  have hl1 := h.l1
  have hm2 := h.m2
  have hl2 := h.l2
  unfold maxLen at hm1 hm2
  have hd4 := ok.d4
  have hs8 := ok.s8
  have hB := below_box (w := w) #[.slice A m.old.length c, .int .i64 m.nw, .slice A2 m.ss.length c2, .slice A3 m.js.length c3] 26
  have hT := (Blk.new w 26 #[.slice A m.old.length c, .int .i64 m.nw, .slice A2 m.ss.length c2, .slice A3 m.js.length c3]).alloc (.cells (intC (List.replicate m.ss.length 0)) 3)
  have hmk := run_make_row' (P := Try.prog) 22 3 (.int .i64 0) 8 Try.underlying22 int_info rfl .i64 .i64 m.ss.length (by omega) (by omega)
  rw [intC_zero] at hmk
  have hZ := Blk.new (w.alloc (.cells #[.slice A m.old.length c, .int .i64 m.nw, .slice A2 m.ss.length c2, .slice A3 m.js.length c3] 26)) 3 (intC (List.replicate m.ss.length 0))
  rw [World.size_alloc] at hZ
  have hB2 := hB.alloc hB.size (.cells (intC (List.replicate m.ss.length 0)) 3)
  have HS := hid (And.intro (show Blk _ (w.heap.size + 1) 3 (intC (carTo m 0)) from hZ) (And.intro hT hB2))
  have HA := hid h
  have OK := hid ok
  obtain ⟨t0, t1, t2, t3⟩ := (Blk.new w 26 #[.slice A m.old.length c, .int .i64 m.nw, .slice A2 m.ss.length c2, .slice A3 m.js.length c3]).c4
  clear hB hT hZ hB2 h ok
  go_enter Try.func22, Try.ntmps22
  go_wp2
  clear t0 t1 t2 t3 hmk
  go_loopw [4] (fun i W => ∃ k : Nat, k ≤ m.old.length ∧ i = .int .i64 k ∧ Blk W (w.heap.size + 1) 3 (intC (carTo m k)) ∧ Blk W w.heap.size 26 #[.slice A m.old.length c, .int .i64 m.nw, .slice A2 m.ss.length c2, .slice A3 m.js.length c3] ∧ Below w.heap.size w W) (fun i _ => m.old.length - (intOf i).toNat)
  case atStart => exact ⟨0, Nat.zero_le _, rfl, HS.out⟩
  case round =>
    clear HS
    obtain ⟨d, hd, rfl, hbo, hbt, hbr⟩ := hrel
    obtain ⟨t0, t1, t2, t3⟩ := hbt.c4
    have HR := hid (And.intro hbo (And.intro hbt hbr))
    clear hbo hbt hbr
    by_cases hlt : d < m.old.length
    · have hkI : (d : Int) < (m.old.length : Int) := by omega
      obtain ⟨x, hx⟩ : ∃ x, m.old[d]? = some x := ⟨_, List.getElem?_eq_getElem hlt⟩
      have HX := hid hx
      clear hx
      generalize wr = w3 at *
      go_wp2
      clear t0 t1 t2 t3
      go_loopw [5, 6, 7] (fun v5 v6 i W => ∃ k : Nat, k ≤ m.ss.length ∧ i = .int .i64 k ∧ CarI m A c A2 c2 A3 c3 w d k v5 v6 W) (fun _ _ i _ => m.ss.length - (intOf i).toNat)
      case atStart => exact ⟨0, Nat.zero_le _, rfl, ⟨rfl, .inl ⟨rfl, rfl⟩⟩, ⟨rfl, .inl ⟨rfl, rfl⟩⟩, .inl rfl, HR.out.1, HR.out.2.1, HR.out.2.2⟩
      case round =>
        obtain ⟨k, hk, rfl, hi⟩ := hrel
        obtain ⟨t0, t1, t2, t3⟩ := hi.bt.c4
        have hsz := hi.bl.size
        have hlo := hi.bo.lt
        have HI := hid hi
        clear hi
        by_cases hlk : k < m.ss.length
        · have hkJ : (k : Int) < (m.ss.length : Int) := by omega
          obtain ⟨s, hs⟩ : ∃ s, m.ss[k]? = some s := ⟨_, List.getElem?_eq_getElem hlk⟩
          obtain ⟨aa, eA, g1, f0, f1, f2, f3, f4⟩ := (HA.out.at_ HI.out.bl).is k s hs
          subst eA
          have HSS := hid hs
          have hal := (atTo_len m d k).1
          have hal2 := (atTo_len m d k).2
          have hwl2 : (wsTo m d k).length ≤ k := by omega
          clear hal
          by_cases hod : s.o = (d : Int)
          · have hoB : (s.o == (d : Int)) = true := by simp [hod]
            have HOD := hid hod
            obtain ⟨i0, hi0, hz0, hz1, hz2⟩ := info_parts int_info
            have hbx := below_box (w := wr) #[.int .i64 s.wt] 3
            have HX1 := hid (HI.out.at_ hbx)
            clear hod hs g1 hbx
            go_wp2_with (first | (at_builtin; refine wpList_append_own_at _ rfl (.tmp 36) (.tmp 43) 22 rfl (w.heap.size + 2) 3 i0 (.int .i64 0) 1 8 Try.underlying22 hi0 hz0 hz1 hz2 rfl (by decide) u5 _ _ rfl HX1.out.r5 ⟨wr.heap.size, 0, none⟩ 1 1 [.int .i64 s.wt] rfl rfl (by intro q u hq; cases q with | zero => simp at hq; subst hq; exact (World.cell?_alloc_new _ _ _ _) | succ q => simp at hq) (by intro u hu; simp at hu; subst hu; rfl) (by simp only [maxLen]; omega) (by omega) (by simp; omega) ?_; intro vo' w5 hown' hgrow _ hfr; have hs5 := hgrow.size; rw [World.size_alloc] at hs5; have HR6 := hid (row_kept (vo := .slice none 0 0) (HX1.out.mid hgrow) (grown_of_below (below_box (w := w5) #[.int .i64 (k : Int)] 3) none) (.inl rfl)); have HQ5 := hid (And.intro hown' (And.intro hgrow hfr)); clear hown' hgrow hfr) | (at_builtin; refine wpList_append_own_at _ rfl (.tmp 45) (.tmp 47) 22 rfl (w.heap.size + 2) 3 i0 (.int .i64 0) 1 8 Try.underlying22 hi0 hz0 hz1 hz2 rfl (by decide) u6 _ _ rfl HR6.out ⟨w5.heap.size, 0, none⟩ 1 1 [.int .i64 (k : Int)] rfl rfl (by intro q u hq; cases q with | zero => simp at hq; subst hq; exact (World.cell?_alloc_new _ _ _ _) | succ q => simp at hq) (by intro u hu; simp at hu; subst hu; rfl) (by simp only [maxLen]; omega) (by omega) (by simp; omega) ?_; intro vr' w7 hown7 hgrow7 _ hfr7; have HNX := hid (HX1.out.add HSS.out HOD.out HQ5.out.1 HQ5.out.2.1 HQ5.out.2.2 (below_box (w := w5) #[.int .i64 (k : Int)] 3) hown7 hgrow7 hfr7); clear hown7 hgrow7 hfr7))
            go_roundw
            case rel => exact ⟨k + 1, by omega, by go_num, HNX.out⟩
            case measure => first | (simp [intOf]; done) | (simp [intOf]; omega)
          · have hoB : (s.o == (d : Int)) = false := by simp [hod]
            have HNX := hid (HI.out.skip HSS.out hod)
            clear hod hs g1
            go_wp2
            go_roundw
            case rel => exact ⟨k + 1, by omega, by go_num, HNX.out⟩
            case measure => first | (simp [intOf]; done) | (simp [intOf]; omega)
        · have hkJ : decide ((k : Int) < (m.ss.length : Int)) = false := by simp; omega
          obtain rfl : k = m.ss.length := by omega
          obtain ⟨A6, c6, hv6, p1, p2, p3, _, _⟩ := own_ints rfl HI.out.r5
          have hmm : atV m d m.ss.length = (((atTo m d m.ss.length).map fun (i : Nat) => (i : Int)).map (Value.int .i64)) := by unfold atV; rw [List.map_map]; rfl
          have hr7 := HI.out.r6
          rw [hmm] at hr7
          obtain ⟨A7, c7, hv7, r1, r2, r3, r4, _⟩ := own_ints (by simp) hr7
          rw [List.length_map] at hv7 r1
          subst hv6 hv7
          obtain ⟨ao, eO, go1, go2⟩ := (HA.out.at_ HI.out.bl).io d x HX.out
          subst eO
          have hde := OK.out.divE hlt
          rw [MapD.at_eq HX.out] at hde
          have KD := rdivide_far A6 c6 (wsTo m d m.ss.length) x wr p3 p1 p2 hde
          unfold GivesPartsF at KD
          have KD := hid KD
          have HLN := hid (atTo_len m d m.ss.length).1
          have hln2 := (atTo_len m d m.ss.length).2
          have HA7 := hid (And.intro r3 (fun a e => (r4 a e).1))
          unfold maxLen at r2 p2
          clear p3 r3 r4 hde hmm hr7 go1
          go_wp2_with fail
          refine KD.out.mono ?_
          rintro e w4 ⟨A5, c5, rfl, q1, q2, q3, q4, hb5⟩
          have H4 := hid (And.intro (HI.out.bo.keep hb5) (And.intro (HI.out.bt.keep hb5) (HI.out.bl.trans (hb5.mono HI.out.bl.size))))
          have HI5 := hid (And.intro q1 q4)
          have HI7 := hid (And.intro (HA7.out.1.at_ hb5) HA7.out.2)
          unfold maxLen at q3
          rw [show (wsTo m d m.ss.length).length = (atTo m d m.ss.length).length from HLN.out.symm] at q2 ⊢
          have HXX := hid (MapD.at_eq HX.out)
          clear KD q1 q4 hb5 t0 t1 t2 t3 go2 HI
          go_wp2
          go_loopw [9] (fun i V => ∃ j : Nat, j ≤ (atTo m d m.ss.length).length ∧ i = .int .i64 j ∧ Blk V (w.heap.size + 1) 3 (intC (putTo (carTo m d) (atTo m d m.ss.length) (parts m d) j)) ∧ Chg (fun q => q = w.heap.size + 1) w4 V) (fun i _ => (atTo m d m.ss.length).length - (intOf i).toNat)
          case atStart => exact ⟨0, Nat.zero_le _, rfl, H4.out.1, Chg.refl⟩
          case round =>
            obtain ⟨j, hj, rfl, hbo, hcg⟩ := hrel
            by_cases hjl : j < (atTo m d m.ss.length).length
            · have hjI : (j : Int) < ((atTo m d m.ss.length).length : Int) := by omega
              obtain ⟨i, hi⟩ : ∃ i, (atTo m d m.ss.length)[j]? = some i := ⟨_, List.getElem?_eq_getElem hjl⟩
              obtain ⟨p, hp⟩ : ∃ p, (parts m d)[j]? = some p := ⟨_, List.getElem?_eq_getElem (by rw [parts_len]; exact hjl)⟩
              have hil := (atTo_mem.1 (List.mem_of_getElem? hi)).1
              have hiI : (i : Int) < (m.ss.length : Int) := by omega
              have hdp : (divOf (wsTo m d m.ss.length) x)[j]? = some p := by rw [← HXX.out]; exact hp
              obtain ⟨a5, e5, g3, g4⟩ := HI5.out.1 j p hdp
              obtain ⟨a7, e7, g5, g6⟩ := HI7.out.1 j (i : Int) (by rw [List.getElem?_map, hi]; rfl)
              have n5 := HI5.out.2 a5 e5
              have n7 := HI7.out.2 a7 e7
              replace g4 := hcg.keep.cell g4 (by rw [block_of_add]; omega)
              replace g6 := hcg.keep.cell g6 (by rw [block_of_add]; omega)
              subst e5 e7
              obtain ⟨yv, hyv⟩ : ∃ yv, (putTo (carTo m d) (atTo m d m.ss.length) (parts m d) j)[i]? = some yv := ⟨_, List.getElem?_eq_getElem (by rw [putTo_len, carTo_len]; exact hil)⟩
              have yo := hbo.cell i
              rw [intC_get hyv] at yo
              have fo := hbo.frozen i
              have lo := hbo.lt
              have HNX := hid (show Blk (wr.setCell ⟨w.heap.size + 1, i, none⟩ (.int .i64 p)).drew (w.heap.size + 1) 3 (intC (putTo (carTo m d) (atTo m d m.ss.length) (parts m d) (j + 1))) ∧ Chg (fun q => q = w.heap.size + 1) w4 (wr.setCell ⟨w.heap.size + 1, i, none⟩ (.int .i64 p)).drew by
                refine ⟨?_, (hcg.set rfl _).trans ⟨rfl, rfl, rfl, Nat.le_refl _, fun _ _ _ => rfl⟩⟩
                have := hbo.set_ i (.int .i64 p)
                rw [intC_set] at this
                rw [putTo, List.getD, hi, List.getD, hp]
                exact this.drew)
              clear hbo hcg hi hp hdp n5 n7 g3 g5 hyv
              go_wp2
              go_still_tail 9, (by kernel_rfl)
              go_wp2
              go_roundw
              case rel => exact ⟨j + 1, by omega, by go_num, HNX.out⟩
              case measure => first | (simp [intOf]; done) | (simp [intOf]; omega)
            · have hjI : decide ((j : Int) < ((atTo m d m.ss.length).length : Int)) = false := by simp; omega
              obtain rfl : j = (atTo m d m.ss.length).length := by omega
              have HNX := hid (show Blk wr (w.heap.size + 1) 3 (intC (carTo m (d + 1))) ∧ Blk wr w.heap.size 26 #[.slice (some ao) m.old.length c, .int .i64 m.nw, .slice A2 m.ss.length c2, .slice A3 m.js.length c3] ∧ Below w.heap.size w wr from ⟨hbo, hcg.blk H4.out.2.1 (fun e => by omega), H4.out.2.2.trans (hcg.below (fun q e => by omega) H4.out.2.2.size)⟩)
              clear hbo hcg
              go_wp2
              go_roundw
              case rel => exact ⟨d + 1, by omega, by go_num, HNX.out⟩
              case measure => first | (simp [intOf]; done) | (simp [intOf]; omega)
    · have hkI : decide ((d : Int) < (m.old.length : Int)) = false := by simp; omega
      obtain rfl : d = m.old.length := by omega
      have hbf : Blk wr (w.heap.size + 1) 3 (intC (car m)) := HR.out.1
      have HFIN := hid (show GivesInts (car m) w (.returned (.slice (some ⟨w.heap.size + 1, 0, none⟩) m.ss.length m.ss.length)) wr from
        ⟨some ⟨w.heap.size + 1, 0, none⟩, m.ss.length, by rw [car_len], by rw [car_len]; exact Nat.le_refl _, by unfold maxLen; omega, ints_blk hbf, (fun a e => by cases e; exact ⟨Nat.le_succ _, _, hbf⟩), (fun e => by cases e), HR.out.2.2⟩)
      clear hbf
      go_wp2
      go_ret
      exact HFIN.out
end Go.Proofs.Ytoeabajigfdkaaa
/- Words for the statements: what calls hand back, and that they stay. No condition. -/
namespace Go.Proofs.Ytoeabajigfdkaaa
open Go.RowKit Go.Shelf

/-- a list of numbers that a call has handed back -/
def IntsAt (y : Option Addr × Nat) (xs : List Int) (W : World) : Prop := IsInts W W.heap.size y.1 xs ∧ xs.length ≤ y.2 ∧ y.2 ≤ maxLen
theorem IntsAt.at_ {y : Option Addr × Nat} {xs : List Int} {W W' : World} (h : IntsAt y xs W) (hb : Below W.heap.size W W') : IntsAt y xs W' := ⟨h.1.at_ hb, h.2⟩
def GivesI (xs : List Int) (w : World) (e : Ending) (w' : World) : Prop := ∃ y : Option Addr × Nat, e = .returned (.slice y.1 xs.length y.2) ∧ IntsAt y xs w' ∧ Below w.heap.size w w'
theorem GivesInts.i {xs : List Int} {w : World} {e : Ending} {w' : World} (h : GivesInts xs w e w') : GivesI xs w e w' := by
  obtain ⟨A, c, h1, h2, h3, h4, _, _, h7⟩ := h
  exact ⟨(A, c), h1, ⟨h4, h2, h3⟩, h7⟩
/-- a list of ranges that a call has handed back -/
def RngsAt (y : Option Addr × Nat) (rs : List (Int × Int)) (W : World) : Prop := IsRngs W W.heap.size y.1 rs ∧ rs.length ≤ y.2 ∧ y.2 ≤ maxLen
theorem RngsAt.at_ {y : Option Addr × Nat} {rs : List (Int × Int)} {W W' : World} (h : RngsAt y rs W) (hb : Below W.heap.size W W') : RngsAt y rs W' := ⟨h.1.at_ hb, h.2⟩
theorem smTo_congr {nw : Nat} {l l' : Nat → Int} {xs : List Int} : ∀ k, (∀ i, i < k → l i = l' i) → smTo nw l xs k = smTo nw l' xs k
  | 0, _ => rfl
  | k + 1, h => by rw [smTo, smTo, smTo_congr k fun i hi => h i (by omega), h k (by omega)]
theorem smD_congr {m : MapD} {l l' : Nat → Int} {xs : List Int} (h : ∀ i, i < xs.length → l i = l' i) : smD m l xs = smD m l' xs := smTo_congr _ h
theorem smD_own (m : MapD) {xs : List Int} (hl : xs.length = m.ss.length) : smD m (fnO (lst m (ownL m))) xs = smD m (ownL m) xs := smD_congr fun i hi => fnO_lst (by omega)
theorem own_in {m : MapD} (ok : OkM m) {i : Nat} (hi : i < m.ss.length) : 0 ≤ ownL m i ∧ ownL m i < m.nw := by
  have := ok.sAt hi
  unfold ownL
  omega
section
variable {m : MapD} {A : Option Addr} {c : Nat} {A2 : Option Addr} {c2 : Nat} {A3 : Option Addr} {c3 : Nat} {w : World}
theorem map_thin (h : MArg m A c A2 c2 A3 c3 w) (ht : ThinP m) : Calls Try.prog 19 #[.agg #[.slice A m.old.length c, .int .i64 m.nw, .slice A2 m.ss.length c2, .slice A3 m.js.length c3]] w (GivesMap m w) :=
  map_any m A c A2 c2 A3 c3 w h (by have := ht.1; omega) (by have := ht.2.1; omega) (by have := ht.2.2; omega)
theorem carry_bad (h : MIn m A c A2 c2 A3 c3 w) (hc : chkM m ≠ 0) : Calls Try.prog 20 #[.agg #[.slice A m.old.length c, .int .i64 m.nw, .slice A2 m.ss.length c2, .slice A3 m.js.length c3]] w fun e w' => e = .returned (.tuple #[.slice none 0 0, .slice none 0 0, .int .i64 (chkM m)]) ∧ Below w.heap.size w w' := by
  have := carry_any m A c A2 c2 A3 c3 w h
  simp only [if_pos hc] at this
  exact this
def GivesCar (m : MapD) (w : World) (e : Ending) (w' : World) : Prop := ∃ p q : Option Addr × Nat, e = .returned (.tuple #[.slice p.1 (car m).length p.2, .slice q.1 (smD m (ownL m) (car m)).length q.2, .int .i64 0]) ∧ IntsAt p (car m) w' ∧ IntsAt q (smD m (ownL m) (car m)) w' ∧ Below w.heap.size w w'
theorem carry_good (h : MIn m A c A2 c2 A3 c3 w) (hc : chkM m = 0) : Calls Try.prog 20 #[.agg #[.slice A m.old.length c, .int .i64 m.nw, .slice A2 m.ss.length c2, .slice A3 m.js.length c3]] w (GivesCar m w) := by
  have := carry_any m A c A2 c2 A3 c3 w h
  simp only [if_neg (show ¬ chkM m ≠ 0 by simp [hc])] at this
  exact this.mono fun e w' ⟨p, q, h1, h2, h3, h4, h5, h6, h7, h8⟩ => ⟨p, q, h1, ⟨h2, h3, h4⟩, ⟨h5, h6, h7⟩, h8⟩
theorem sums_own (m : MapD) (A : Option Addr) (c : Nat) (A2 : Option Addr) (c2 : Nat) (A3 : Option Addr) (c3 : Nat) (ok : OkM m) {y z : Option Addr × Nat} {xs : List Int} {w : World} (hy : IntsAt y (lst m (ownL m)) w) (hz : IntsAt z xs w) (hl : xs.length = m.ss.length) (hx : ∀ x ∈ xs, 0 ≤ x ∧ x ≤ 10000) :
    Calls Try.prog 24 #[.agg #[.slice A m.old.length c, .int .i64 m.nw, .slice A2 m.ss.length c2, .slice A3 m.js.length c3], .slice y.1 (lst m (ownL m)).length y.2, .slice z.1 xs.length z.2] w (GivesI (smD m (ownL m) xs) w) := by
  have hs8 := ok.s8
  have := (qsums_any m A c A2 c2 A3 c3 y.1 y.2 (lst m (ownL m)) z.1 z.2 xs w ok.n1 ok.n4 hy.1 hz.1 (by rw [lst_len, hl]; exact Nat.le_refl _) (by rw [lst_len]; omega) (fun i hi => by rw [fnO_lst (by omega)]; exact own_in ok (by omega)) hx).mono fun _ _ => GivesInts.i
  rwa [smD_own m hl] at this
theorem ints_same {a : List Int} {y z : Option Addr × Nat} {w : World} (hy : IntsAt y a w) (hz : IntsAt z a w) : Calls Try.prog 23 #[.slice y.1 a.length y.2, .slice z.1 a.length z.2] w fun e w' => e = .returned (.bool true) ∧ Below w.heap.size w w' := by
  have := mints_any y.1 y.2 a z.1 z.2 a w hy.1 hz.1 hy.2.1 hy.2.2 hz.2.1 hz.2.2
  simpa using this
end
end Go.Proofs.Ytoeabajigfdkaaa
