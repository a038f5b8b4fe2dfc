/- The walks and the plain laws of this part of the program, part 13: what each computes. Conditions stand at each theorem. -/
import Derived.Test.YtlnamjhgbdacbaaGreatG11
import Derived.Test.YtlnamjhgbdacbaaGreatG12
/- The program's search of connected streets, in plain words: a list whose front is reached. No condition. -/
namespace Go.Proofs.YtlnamjhgbdacbaaGreat

/-- two elements change places -/
def SW (ms ms' : List Int) (r k : Nat) : Prop := ms'.length = ms.length ∧ ∀ i, ms'[i]? = if i = r then ms[k]? else if i = k then ms[r]? else ms[i]?
theorem sw_of {ms : List Int} {r k : Nat} {x y : Int} (hr : ms[r]? = some x) (hk : ms[k]? = some y) : SW ms ((ms.set k x).set r y) r k := by
  have h1 := (List.getElem?_eq_some_iff.1 hr).1
  have h2 := (List.getElem?_eq_some_iff.1 hk).1
  refine ⟨by simp, fun i => ?_⟩
  by_cases e1 : i = r
  · subst e1
    rw [if_pos rfl, List.getElem?_set_self (by simpa using h1), hk]
  · rw [if_neg e1, List.getElem?_set_ne (fun e => e1 e.symm)]
    by_cases e2 : i = k
    · subst e2
      rw [if_pos rfl, List.getElem?_set_self h2, hr]
    · rw [if_neg e2, List.getElem?_set_ne (fun e => e2 e.symm)]
structure CS (m : MapD) (ms0 : List Int) (f : Int) (ms : List Int) (next reached : Nat) : Prop where
  len : ms.length = ms0.length
  sub : ∀ y, y ∈ ms → y ∈ ms0
  sup : ∀ y, y ∈ ms0 → y ∈ ms
  inj : ∀ (i j : Nat) (x : Int), ms[i]? = some x → ms[j]? = some x → i = j
  hd : ms[0]? = some f
  r1 : 1 ≤ reached
  rl : reached ≤ ms.length
  nr : next ≤ reached
  rch : ∀ (i : Nat) (x : Int), i < reached → ms[i]? = some x → Rch m ms0 f x
  cl : ∀ (i k : Nat) (x y : Int), i < next → reached ≤ k → ms[i]? = some x → ms[k]? = some y → meet m x y = false
/-- within the loop over those that are not reached -/
structure CI (m : MapD) (ms0 : List Int) (f : Int) (ms : List Int) (next reached k : Nat) : Prop extends CS m ms0 f ms next reached where
  lt : next < reached
  rk : reached ≤ k
  kl : k ≤ ms.length
  no : ∀ (j : Nat) (x y : Int), reached ≤ j → j < k → ms[next]? = some x → ms[j]? = some y → meet m x y = false
theorem CS.start {m : MapD} {f : Int} {t : List Int} (h : (f :: t).Nodup) : CS m (f :: t) f (f :: t) 0 1 :=
  ⟨rfl, fun _ h => h, fun _ h => h, fun i j x hi hj => by
    obtain ⟨h1, h2⟩ := List.getElem?_eq_some_iff.1 hi
    obtain ⟨h3, h4⟩ := List.getElem?_eq_some_iff.1 hj
    exact (List.getElem?_inj h1 h).1 (hi.trans hj.symm), rfl, Nat.le_refl _, by simp, by omega, fun i x hi hx => by
    obtain rfl : i = 0 := by omega
    simp at hx
    subst hx
    exact .base, fun i k x y hi => by omega⟩
theorem CI.start {m : MapD} {ms0 ms : List Int} {f : Int} {next reached : Nat} (h : CS m ms0 f ms next reached) (hlt : next < reached) : CI m ms0 f ms next reached reached :=
  ⟨h, hlt, Nat.le_refl _, h.rl, fun j x y h1 h2 => by omega⟩
theorem CI.miss {m : MapD} {ms0 ms : List Int} {f : Int} {next reached k : Nat} (h : CI m ms0 f ms next reached k) (hk : k < ms.length) {a b : Int} (ha : ms[next]? = some a) (hb : ms[k]? = some b) (hm : meet m a b = false) : CI m ms0 f ms next reached (k + 1) :=
  ⟨h.toCS, h.lt, by have := h.rk; omega, hk, fun j x y h1 h2 hx hy => by
    by_cases e : j = k
    · subst e
      rw [ha] at hx; rw [hb] at hy
      cases hx; cases hy
      exact hm
    · exact h.no j x y h1 (by omega) hx hy⟩
theorem CI.hit {m : MapD} {ms0 ms ms' : List Int} {f : Int} {next reached k : Nat} (h : CI m ms0 f ms next reached k) (hk : k < ms.length) {a b : Int} (ha : ms[next]? = some a) (hb : ms[k]? = some b) (hm : meet m a b = true) (hs : SW ms ms' reached k) : CI m ms0 f ms' next (reached + 1) (k + 1) := by
  obtain ⟨s1, s2⟩ := hs
  have hrk := h.rk
  have hlt := h.lt
  have hr1 := h.r1
  have lo : ∀ i, i < reached → ms'[i]? = ms[i]? := fun i hi => by rw [s2, if_neg (by omega), if_neg (by omega)]
  have at_ : ms'[reached]? = some b := by rw [s2, if_pos rfl, hb]
  have hi_ : ∀ i (x : Int), reached + 1 ≤ i → ms'[i]? = some x → ∃ j, reached ≤ j ∧ (i < k + 1 → j < k) ∧ ms[j]? = some x := fun i x hi hx => by
    rw [s2, if_neg (by omega)] at hx
    by_cases e : i = k
    · rw [if_pos e] at hx
      exact ⟨reached, Nat.le_refl _, fun _ => by omega, hx⟩
    · rw [if_neg e] at hx
      exact ⟨i, by omega, fun _ => by omega, hx⟩
  have to : ∀ y, y ∈ ms' → y ∈ ms := fun y hy => by
    obtain ⟨i, hi⟩ := List.getElem?_of_mem hy
    rw [s2] at hi
    split at hi
    · exact List.mem_of_getElem? hi
    · split at hi
      · exact List.mem_of_getElem? hi
      · exact List.mem_of_getElem? hi
  have fro : ∀ y, y ∈ ms → y ∈ ms' := fun y hy => by
    obtain ⟨i, hi⟩ := List.getElem?_of_mem hy
    by_cases e1 : i = reached
    · subst e1
      by_cases e2 : i = k
      · subst e2
        exact List.mem_of_getElem? (i := i) (by rw [s2, if_pos rfl, hi])
      · exact List.mem_of_getElem? (i := k) (by rw [s2, if_neg (fun e => e2 e.symm), if_pos rfl, hi])
    · by_cases e2 : i = k
      · subst e2
        exact List.mem_of_getElem? (i := reached) (by rw [s2, if_pos rfl, hi])
      · exact List.mem_of_getElem? (i := i) (by rw [s2, if_neg e1, if_neg e2, hi])
  refine ⟨⟨s1.trans h.len, fun y hy => h.sub y (to y hy), fun y hy => fro y (h.sup y hy), fun i j x hi hj => ?_, ?_, by omega, by rw [s1]; omega, by omega, fun i x hi hx => ?_, fun i j x y hi hj hx hy => ?_⟩, by omega, by omega, by rw [s1]; omega, fun j x y h1 h2 hx hy => ?_⟩
  · rw [s2] at hi hj
    by_cases i1 : i = reached <;> by_cases j1 : j = reached
    · omega
    · rw [if_pos i1] at hi
      rw [if_neg j1] at hj
      by_cases j2 : j = k
      · rw [if_pos j2] at hj
        have := h.inj _ _ _ hi hj
        omega
      · rw [if_neg j2] at hj
        have := h.inj _ _ _ hi hj
        omega
    · rw [if_pos j1] at hj
      rw [if_neg i1] at hi
      by_cases i2 : i = k
      · rw [if_pos i2] at hi
        have := h.inj _ _ _ hi hj
        omega
      · rw [if_neg i2] at hi
        have := h.inj _ _ _ hi hj
        omega
    · rw [if_neg i1] at hi
      rw [if_neg j1] at hj
      by_cases i2 : i = k <;> by_cases j2 : j = k
      · omega
      · rw [if_pos i2] at hi
        rw [if_neg j2] at hj
        have := h.inj _ _ _ hi hj
        omega
      · rw [if_neg i2] at hi
        rw [if_pos j2] at hj
        have := h.inj _ _ _ hi hj
        omega
      · rw [if_neg i2] at hi
        rw [if_neg j2] at hj
        exact h.inj _ _ _ hi hj
  · rw [lo 0 (by omega)]; exact h.hd
  · by_cases e : i = reached
    · subst e
      rw [at_] at hx
      cases hx
      exact .step (h.rch next a hlt ha) (h.sub b (List.mem_of_getElem? hb)) hm
    · rw [lo i (by omega)] at hx
      exact h.rch i x (by omega) hx
  · have hnr := h.nr
    rw [lo i (by omega)] at hx
    obtain ⟨q, q1, _, q2⟩ := hi_ j y hj hy
    exact h.cl i q x y hi q1 hx q2
  · rw [lo next hlt] at hx
    obtain ⟨q, q1, q3, q2⟩ := hi_ j y h1 hy
    exact h.no q x y q1 (q3 h2) hx q2
theorem CI.done {m : MapD} {ms0 ms : List Int} {f : Int} {next reached : Nat} (h : CI m ms0 f ms next reached ms.length) : CS m ms0 f ms (next + 1) reached :=
  ⟨h.len, h.sub, h.sup, h.inj, h.hd, h.r1, h.rl, h.lt, h.rch, fun i k x y hi hk hx hy => by
    by_cases e : i = next
    · subst e
      exact h.no k x y hk (List.getElem?_eq_some_iff.1 hy).1 hx hy
    · exact h.cl i k x y (by omega) hk hx hy⟩
theorem CS.ends {m : MapD} {t ms : List Int} {f : Int} {reached : Nat} (h : CS m (f :: t) f ms reached reached) : decide (reached = ms.length) = conL m (f :: t) := by
  rw [Bool.eq_iff_iff, decide_eq_true_iff, conL_iff]
  constructor
  · intro e
    refine ⟨f, t, rfl, fun y hy => ?_⟩
    obtain ⟨i, hi⟩ := List.getElem?_of_mem (h.sup y hy)
    exact h.rch i y (by have := (List.getElem?_eq_some_iff.1 hi).1; omega) hi
  · rintro ⟨f', t', e, hall⟩
    cases e
    rcases Nat.lt_or_ge reached ms.length with hlt | hge
    · exfalso
      have hx : ms[reached]? = some ms[reached] := List.getElem?_eq_getElem hlt
      have hr := hall ms[reached] (h.sub _ (List.getElem_mem hlt))
      obtain ⟨i, hi, e⟩ := rch_in (fun y => ∃ i, i < reached ∧ ms[i]? = some y) ⟨0, h.r1, h.hd⟩ (fun x y ⟨i, hi, hx⟩ hy hm => by
        obtain ⟨j, hj⟩ := List.getElem?_of_mem (h.sup y hy)
        rcases Nat.lt_or_ge j reached with hl | hl
        · exact ⟨j, hl, hj⟩
        · have := h.cl i j x y hi hl hx hj
          rw [hm] at this; cases this) hr
      have := h.inj _ _ _ e hx
      omega
    · have := h.rl; omega
theorem conL_nil {m : MapD} : conL m [] = false := rfl
/-- the borders count only as far as there are streets -/
theorem mem_congr {l l' : Nat → Int} {d : Int} {k : Nat} (h : ∀ i, i < k → l i = l' i) : mem l d k = mem l' d k := by
  unfold mem
  congr 1
  refine List.filter_congr fun i hi => ?_
  simp only [inD]
  rw [h i (List.mem_range.1 hi)]
theorem conB_congr {m : MapD} {l l' : Nat → Int} {d : Int} (h : ∀ i, i < m.ss.length → l i = l' i) : conB m l d = conB m l' d := by
  unfold conB
  rw [mem_congr h]
theorem sumO_congr {m : MapD} {d : Nat} {p q : Nat → Bool} {g : Stt → Int} {k : Nat} (h : ∀ i, i < k → p i = q i) : sumO m d p g k = sumO m d q g k := by
  unfold sumO
  exact sumN_congr fun i hi => by rw [h i hi]
theorem partLo_congr {m : MapD} {p q : Nat → Bool} {d : Nat} (h : ∀ i, i < m.ss.length → p i = q i) : partLo m p d = partLo m q d := by
  unfold partLo
  rw [sumO_congr h, sumO_congr (p := nt p) (q := nt q) fun i hi => by simp only [nt]; rw [h i hi]]
theorem partHi_congr {m : MapD} {p q : Nat → Bool} {d : Nat} (h : ∀ i, i < m.ss.length → p i = q i) : partHi m p d = partHi m q d := by
  unfold partHi
  rw [sumO_congr h, sumO_congr (p := nt p) (q := nt q) fun i hi => by simp only [nt]; rw [h i hi]]
theorem sizeLo_congr {m : MapD} {p q : Nat → Bool} {k : Nat} (h : ∀ i, i < m.ss.length → p i = q i) : sizeLo m p k = sizeLo m q k := sumN_congr fun _ _ => partLo_congr h
theorem sizeHi_congr {m : MapD} {p q : Nat → Bool} {k : Nat} (h : ∀ i, i < m.ss.length → p i = q i) : sizeHi m p k = sizeHi m q k := sumN_congr fun _ _ => partHi_congr h
theorem inD_congr {l l' : Nat → Int} {d : Int} {k : Nat} (h : ∀ i, i < k → l i = l' i) : ∀ i, i < k → inD l d i = inD l' d i := fun i hi => by simp only [inD]; rw [h i hi]
end Go.Proofs.YtlnamjhgbdacbaaGreat
/- connected: whether a new district is. Conditions stand at each theorem. -/
namespace Go.Proofs.YtlnamjhgbdacbaaGreat
open Go.RowKit Go.Shelf

/-- the list in its block, before and behind a store (operation 13) -/
def PhS (zb cap : Nat) (ms : List Int) (k : Nat) (x : Int) (li : Array Bool) (W : World) : Prop := LB W zb cap (if li.getD 13 false = true then ms.set k x else ms)
theorem PhS.other {zb cap k i : Nat} {ms : List Int} {x : Int} {li : Array Bool} {W : World} (h : PhS zb cap ms k x li W) (h1 : i ≠ 13) : PhS zb cap ms k x (li.setIfInBounds i true) W := by
  unfold PhS at *
  rw [getD_set_oth h1]
  exact h
theorem LB.chg_set {W : World} {zb k : Nat} {v : Value} : MChg (fun q => q = zb) W (W.setCell ⟨zb, k, none⟩ v) := (MChg.refl (Z := fun q => q = zb) (A := W)).set rfl v

set_option maxRecDepth 100000 in
set_option maxHeartbeats 4000000 in
theorem connected_any (m : MapD) (A : Option Addr) (c : Nat) (A2 : Option Addr) (c2 : Nat) (A3 : Option Addr) (c3 : Nat) (g b : Nat) (l : Nat → Int) (d : Int) (w : World) (hw : WAt m A c A2 c2 A3 c3 g b w) (ok : OkM m) :
    Calls Tryz.prog 39 #[.pointer (some ⟨g, 0, none⟩), .agg (liC l), .int .i64 d] w fun e w' => e = .returned (.bool (conB m l d)) ∧ Below w.heap.size w w' := by
  have hs8 := ok.s8
  have hb0 := below_box (w := w) (liC l) 120
  have hl0 := Blk.new w 120 (liC l)
  have hw0 := hw.keep hb0
  obtain ⟨t0, t1, t2, t3, t4⟩ := hw0.blk.c5
  have HS := hid (And.intro hb0 (And.intro hl0 hw0))
  clear hw hb0 hl0 hw0 ok
  go_enter Tryz.func39, Tryz.ntmps39
  go_wp2
  clear t0 t1 t2 t3 t4
  go_loopw [7, 18] (fun v i W => ∃ k : Nat, k ≤ m.ss.length ∧ i = .int .i64 k ∧ W.ownsRow (w.heap.size + 1) 3 1 v (mem l d k).length ((mem l d k).map (Value.int .i64)) ∧ Below (w.heap.size + 1) (w.alloc (.cells (liC l) 120)) W) (fun _ i _ => m.ss.length - (intOf i).toNat)
  case atStart => exact ⟨0, Nat.zero_le _, rfl, ⟨rfl, .inl ⟨rfl, rfl⟩⟩, Below.refl _ _⟩
  case round =>
    obtain ⟨k, hk, rfl, ho, hbr⟩ := hrel
    have hbr' : Below (w.alloc (.cells (liC l) 120)).heap.size (w.alloc (.cells (liC l) 120)) wr := by rw [World.size_alloc]; exact hbr
    have hlw := HS.out.2.1.keep hbr'
    have HR := hid (And.intro ho hbr')
    have hsz := hbr.size
    rw [World.size_alloc] at hsz
    have hrw := hsz
    clear hbr hbr' ho
    by_cases hlt : k < m.ss.length
    · have hkI : (k : Int) < (m.ss.length : Int) := by omega
      have hk8 : k < 8 := by omega
      have q1 := hlw.cell k
      rw [liC_get l hk8] at q1
      have hml := mem_len (l := l) (d := d) k
      by_cases he : l k = d
      · have hoB : (l k == d) = true := by simp [he]
        have hst := mem_succ_in he
        have HST := hid hst
        obtain ⟨i0, hi0, hz0, hz1, hz2⟩ := info_parts int_info
        have HO := hid (HR.out.1.alloc (.cells #[.int .i64 (k : Int)] 3))
        clear hst he hlw
        go_wp2_with (at_builtin; refine wpList_append_own_at _ rfl _ _ 22 rfl (w.heap.size + 1) 3 i0 (.int .i64 0) 1 8 Tryz.underlying22 hi0 hz0 hz1 hz2 rfl (by decide) u7 _ _ rfl HO.out ⟨wr.heap.size, 0, none⟩ 1 1 [.int .i64 (k : Int)] rfl rfl (by intro q u hq; cases q with | zero => simp at hq; subst hq; exact (World.cell?_alloc_new _ _ _ _) | succ q => simp at hq) (by intro u hu; simp at hu; subst hu; rfl) (by simp only [maxLen]; omega) (by omega) (by simp; omega) ?_; intro vo' w5 hown' hgrow _ hfr; have HN := hid (show w5.ownsRow (w.heap.size + 1) 3 1 vo' (mem l d (k + 1)).length ((mem l d (k + 1)).map (Value.int .i64)) ∧ Below (w.heap.size + 1) (w.alloc (.cells (liC l) 120)) w5 from ⟨by rw [HST.out, List.length_append, List.map_append]; exact hown', below_row' ((HR.out.2.trans ((below_box _ _).mono HR.out.2.size)).mono (by simp)) HO.out (Nat.le_refl _) hgrow (by simp; omega)⟩); clear hown' hgrow hfr)
        go_roundw
        case rel => exact ⟨k + 1, by omega, by go_num, HN.out⟩
        case measure => first | (simp [intOf]; done) | (simp [intOf]; omega)
      · have hoB : (l k == d) = false := by simp [he]
        have hst := mem_succ_out he
        have HN := hid (show wr.ownsRow (w.heap.size + 1) 3 1 u7 (mem l d (k + 1)).length ((mem l d (k + 1)).map (Value.int .i64)) ∧ Below (w.heap.size + 1) (w.alloc (.cells (liC l) 120)) wr from ⟨by rw [hst]; exact HR.out.1, HR.out.2.mono (by simp)⟩)
        clear he hst hlw
        go_wp2
        go_roundw
        case rel => exact ⟨k + 1, by omega, by go_num, HN.out⟩
        case measure => first | (simp [intOf]; done) | (simp [intOf]; omega)
    · have hkI : decide ((k : Int) < (m.ss.length : Int)) = false := by simp; omega
      obtain rfl : k = m.ss.length := by omega
      generalize wr = w5 at *
      have hml := mem_len (l := l) (d := d) m.ss.length
      have hnd := mem_nodup l d m.ss.length
      have HBW := hid (HS.out.1.trans (HR.out.2.mono HS.out.1.size))
      have hwW := HS.out.2.2.keep HR.out.2
      have HC := hid (show conB m l d = conL m (mem l d m.ss.length) from rfl)
      have HWW := hid hwW
      clear hlw
      have HIX : ∀ y ∈ mem l d m.ss.length, Ix y := fun y hy => by
        obtain ⟨i, hi, _, e⟩ := mem_iff.1 hy
        unfold Ix; omega
      revert HR hml hnd HC HIX
      generalize mem l d m.ss.length = ms0
      intro HR hml hnd HC HIX
      cases ms0 with
      | nil =>
        rcases HR.out.1.2 with ⟨rfl, _⟩ | ⟨z, cap, cur, rfl, _⟩
        all_goals
          clear hnd hwW HIX
          go_wp2
          go_ret
          exact ⟨by rw [HC.out]; rfl, HBW.out⟩
      | cons f t =>
        have hr := HR.out.1
        obtain ⟨zb, cap, rfl⟩ := Go.ownsRow_succ hr
        obtain ⟨hr1, hr2⟩ := hr.lt zb rfl
        have hLB := lb_of_own hr
        obtain ⟨N, hN⟩ : ∃ N, (f :: t).length = N := ⟨_, rfl⟩
        have hcapn : (f :: t).length ≤ cap ∧ cap ≤ maxLen := by
          rcases hr.2 with ⟨e, _⟩ | ⟨z, cap', cur, e, _, _, h1, h2, _⟩
          · cases e
          · injection e with e1 e2 e3
            subst e3
            exact ⟨h1, h2⟩
        rw [hN] at hcapn
        obtain ⟨hn1, hn2⟩ := hcapn
        unfold maxLen at hn2
        have hngz : g ≠ zb := by
          obtain ⟨arr, ha, _⟩ := hLB
          have := hwW.blk.ne_ (show Blk w5 zb 3 arr from ha) (by decide)
          exact this
        have hnbz : zb ≠ b := by
          obtain ⟨arr, ha, _⟩ := hLB
          exact hwW.mp.ne (show Blk w5 zb 3 arr from ha)
        have hcs := CS.start (m := m) hnd
        have hmr := HIX
        have HL := hid (And.intro hLB (And.intro hcs (And.intro hmr hN)))
        have hN8 : N ≤ 8 := by simp only [List.length_cons] at hN hml; omega
        have hN0 : ((N : Int) == 0) = false := by simp only [List.length_cons] at hN; simp; omega
        have HNE := hid (And.intro hngz hnbz)
        have hN' : t.length + 1 = N := hN
        rw [hN']
        clear hN'
        have HZ := hid (And.intro hr1 hr2)
        clear hr hr1 hr2 hLB hcs hmr hN hml hnd hwW hngz hnbz HR HIX
        go_wp2
        go_loopw [9, 10] (fun r i W => ∃ (next reached : Nat) (ms : List Int), r = .int .i64 (reached : Int) ∧ i = .int .i64 (next : Int) ∧ CS m (f :: t) f ms next reached ∧ LB W zb cap ms ∧ MChg (fun q => q = zb) w5 W) (fun _ i _ => N - (intOf i).toNat)
        case atStart => exact ⟨0, 1, f :: t, rfl, rfl, HL.out.2.1, HL.out.1, MChg.refl⟩
        case round =>
          obtain ⟨next, reached, ms, rfl, rfl, hcs, hlb, hch⟩ := hrel
          have hrl : reached ≤ N := by have := hcs.rl; have := hcs.len; have := HL.out.2.2.2; omega
          have hnr := hcs.nr
          have hr1 := hcs.r1
          have HQ := hid (And.intro hcs (And.intro hlb hch))
          clear hcs hlb hch
          by_cases hlt : next < reached
          · have hkI : (next : Int) < (reached : Int) := by omega
            generalize wr = wo at *
            go_wp2
            go_loopw [9, 11] (fun r i W => ∃ (k reached : Nat) (ms : List Int), r = .int .i64 (reached : Int) ∧ i = .int .i64 (k : Int) ∧ CI m (f :: t) f ms next reached k ∧ LB W zb cap ms ∧ MChg (fun q => q = zb) w5 W) (fun _ i _ => N - (intOf i).toNat)
            case atStart => exact ⟨reached, reached, ms, rfl, rfl, CI.start HQ.out.1 hlt, HQ.out.2.1, HQ.out.2.2⟩
            case round =>
              clear HQ hrl hnr hr1 hlt hkI
              obtain ⟨k, reached, ms, rfl, rfl, hci, hlb, hch⟩ := hrel
              have hml : ms.length = N := by have := hci.len; have := HL.out.2.2.2; omega
              have hkl := hci.kl
              have hrk := hci.rk
              have hnl := hci.lt
              rw [hml] at hkl
              have HML := hid hml
              have HQ := hid (And.intro hci (And.intro hlb hch))
              clear hci hch hml
              by_cases hlt : k < N
              · have hkI : (k : Int) < (N : Int) := by omega
                obtain ⟨x, hx⟩ : ∃ x, ms[next]? = some x := ⟨_, List.getElem?_eq_getElem (by rw [HML.out]; omega)⟩
                obtain ⟨y, hy⟩ : ∃ y, ms[k]? = some y := ⟨_, List.getElem?_eq_getElem (by rw [HML.out]; omega)⟩
                obtain ⟨u, hu⟩ : ∃ u, ms[reached]? = some u := ⟨_, List.getElem?_eq_getElem (by rw [HML.out]; omega)⟩
                have hxm := HL.out.2.2.1 x (HQ.out.1.sub x (List.mem_of_getElem? hx))
                have hym := HL.out.2.2.1 y (HQ.out.1.sub y (List.mem_of_getElem? hy))
                have hlz := hlb.lt
                have hrI : (reached : Int) < (N : Int) := by omega
                have hnI : (next : Int) < (N : Int) := by omega
                have s2 := xt_cell (hlb.cell hx)
                have s3 := xt_cell (hlb.cell hy)
                have hwq := HQ.out.2.2.blk HWW.out.blk HNE.out.1
                have hmq := HWW.out.mp.chg HQ.out.2.2 (fun e => HNE.out.2 e.symm)
                have s1 : ∀ q, (xt wr q).cell? ⟨g, 4, none⟩ = some (.map (some b)) := fun q => by
                  obtain ⟨_, _, _, _, q5⟩ := (hwq.keep (below_xt wr q)).c5
                  exact q5
                cases hmt : meet m x y
                · have s4 : ∀ q, (Instr.lookup 157 (.map (some b)) (.agg #[.int .i64 x, .int .i64 y]) false).run Tryz.prog (xt wr q) = .ok (.bool false) (xt wr q) := fun q =>
                    jn_look Tryz.underlying157 (mbool_zero _) (hmq.below (below_xt wr q)) hxm hym (r := false) (by simp [hmt])
                  have HNX := hid (HQ.out.1.miss (by rw [HML.out]; exact hlt) hx hy hmt)
                  clear hxm hym hx hy hu hwq hmq hlb hmt
                  go_wp2
                  refine wp_region_quiet_xt (by kernel_rfl) (by kernel_rfl) ?_
                  repeat (go_big_quiet_step (fail))
                  refine wpQuiet_nil ?_
                  intro W3 hw3
                  replace hw3 := of_xt hw3
                  have HW3 := hid (And.intro (HQ.out.2.1.below hw3) (HQ.out.2.2.trans (MChg.of_below hw3)))
                  clear hw3 s1 s2 s3 s4
                  go_wp2
                  go_roundw
                  case rel => exact ⟨k + 1, reached, ms, by go_num, by go_num, HNX.out, HW3.out⟩
                  case measure => first | (simp [intOf]; done) | (simp [intOf]; omega)
                · have s4 : ∀ q, (Instr.lookup 157 (.map (some b)) (.agg #[.int .i64 x, .int .i64 y]) false).run Tryz.prog (xt wr q) = .ok (.bool true) (xt wr q) := fun q =>
                    jn_look Tryz.underlying157 (mbool_zero _) (hmq.below (below_xt wr q)) hxm hym (r := true) (by simp [hmt])
                  have HNX := hid (HQ.out.1.hit (by rw [HML.out]; exact hlt) hx hy hmt (sw_of hu hy))
                  have HU := hid (And.intro hu hy)
                  clear hxm hym hx hy hu hwq hmq hlb hmt
                  go_wp2
                  refine wp_region_quiet_xt (by kernel_rfl) (by kernel_rfl) ?_
                  repeat (go_big_quiet_step (fail))
                  refine wpQuiet_nil ?_
                  intro W3 hw3
                  replace hw3 := of_xt hw3
                  have HW3 := hid (And.intro (HQ.out.2.1.below hw3) (HQ.out.2.2.trans (MChg.of_below hw3)))
                  clear hw3 s1 s2 s3 s4
                  go_wp2
                  refine (wpIn_wide (n := 0)).1 ?_
                  refine wpIn_region_each 14 (fun i v W' => match i with | 0 => v = .slice (some ⟨zb, 0, none⟩) N cap | 1 => v = .int .i64 (k : Int) | 2 => v = .slice (some ⟨zb, 0, none⟩) N cap | 3 => v = .int .i64 (reached : Int) | 4 => v = .slice (some ⟨zb, 0, none⟩) N cap | 5 => v = .int .i64 (reached : Int) | 6 => v = .pointer (some ⟨zb, reached, none⟩) | 7 => v = .int .i64 u | 8 => v = .slice (some ⟨zb, 0, none⟩) N cap | 9 => v = .int .i64 (k : Int) | 10 => v = .pointer (some ⟨zb, k, none⟩) | 11 => v = .int .i64 y | 12 => v = .pointer (some ⟨zb, k, none⟩) | 13 => ∃ v4, v = v4 ∧ True | _ => True) (MChg (fun q => q = zb)) (PhS zb cap ms k u) (by kernel_rfl) (by kernel_rfl) ?_ (fun h k => h.trans k) ⟨rfl, rfl, rfl, Nat.le_refl _, fun _ _ _ => rfl⟩ (by unfold PhS; rw [getD_replicate_false]; simp only [Bool.false_eq_true, if_false]; exact HW3.out.1) (by kernel_rfl) ?_ ?_
                  · intro i v W1 W2 hb h
                    match i, h with
                    | 0, h => exact h
                    | 1, h => exact h
                    | 2, h => exact h
                    | 3, h => exact h
                    | 4, h => exact h
                    | 5, h => exact h
                    | 6, h => exact h
                    | 7, h => exact h
                    | 8, h => exact h
                    | 9, h => exact h
                    | 10, h => exact h
                    | 11, h => exact h
                    | 12, h => exact h
                    | 13, h =>
                      obtain ⟨v4, rfl, h1⟩ := h
                      exact ⟨_, rfl, trivial⟩
                    | i + 14, h => trivial
                  · refine ⟨?_, ?_, ?_, ?_, ?_, ?_, ?_, ?_, ?_, ?_, ?_, ?_, ?_, ?_, trivial⟩
                    · -- 0
                      intro li a1 W2 hA K hK
                      have e7 := hA.par 7 (by kernel_rfl)
                      refine opStep none 0 rfl rfl (fun c hc => by cases hc) ?_
                      go_simp
                      exact hK _ _ rfl MChg.refl (hA.ph.other (by decide))
                    · -- 1
                      intro li a1 W2 hA K hK
                      have e11 := hA.par 11 (by kernel_rfl)
                      refine opStep none 0 rfl rfl (fun c hc => by cases hc) ?_
                      go_simp
                      exact hK _ _ rfl MChg.refl (hA.ph.other (by decide))
                    · -- 2
                      intro li a1 W2 hA K hK
                      have e7 := hA.par 7 (by kernel_rfl)
                      refine opStep none 0 rfl rfl (fun c hc => by cases hc) ?_
                      go_simp
                      exact hK _ _ rfl MChg.refl (hA.ph.other (by decide))
                    · -- 3
                      intro li a1 W2 hA K hK
                      have e9 := hA.par 9 (by kernel_rfl)
                      refine opStep none 0 rfl rfl (fun c hc => by cases hc) ?_
                      go_simp
                      exact hK _ _ rfl MChg.refl (hA.ph.other (by decide))
                    · -- 4
                      intro li a1 W2 hA K hK
                      have e7 := hA.par 7 (by kernel_rfl)
                      refine opStep none 0 rfl rfl (fun c hc => by cases hc) ?_
                      go_simp
                      exact hK _ _ rfl MChg.refl (hA.ph.other (by decide))
                    · -- 5
                      intro li a1 W2 hA K hK
                      have e9 := hA.par 9 (by kernel_rfl)
                      refine opStep none 0 rfl rfl (fun c hc => by cases hc) ?_
                      go_simp
                      exact hK _ _ rfl MChg.refl (hA.ph.other (by decide))
                    · -- 6
                      intro li a1 W2 hA K hK
                      have e64 : a1.tmps.getD 64 undef = .slice (some ⟨zb, 0, none⟩) N cap := hA.val 4 64 (by kernel_rfl) (by kernel_rfl)
                      have e65 : a1.tmps.getD 65 undef = .int .i64 (reached : Int) := hA.val 5 65 (by kernel_rfl) (by kernel_rfl)
                      refine opStep none 0 rfl rfl (fun c hc => by cases hc) ?_
                      go_simp
                      exact hK _ _ (by first | rfl | exact congrArg (fun q => Value.pointer (some q)) (add_blk _ _)) MChg.refl (hA.ph.other (by decide))
                    · -- 7
                      intro li a1 W2 hA K hK
                      have e66 : a1.tmps.getD 66 undef = .pointer (some ⟨zb, reached, none⟩) := hA.val 6 66 (by kernel_rfl) (by kernel_rfl)
                      have hl13 : li.getD 13 false = false := by
                        cases hl : li.getD 13 false
                        · rfl
                        · have := hA.past hl 7 (by kernel_rfl); rw [hA.new] at this; cases this
                      have hp := hA.ph
                      unfold PhS at hp
                      rw [hl13] at hp
                      simp only [Bool.false_eq_true, if_false] at hp
                      have q1 := hp.cell HU.out.1
                      refine opStep none 0 rfl rfl (fun c hc => by cases hc) ?_
                      go_simp
                      exact hK _ _ rfl MChg.refl (hA.ph.other (by decide))
                    · -- 8
                      intro li a1 W2 hA K hK
                      have e7 := hA.par 7 (by kernel_rfl)
                      refine opStep none 0 rfl rfl (fun c hc => by cases hc) ?_
                      go_simp
                      exact hK _ _ rfl MChg.refl (hA.ph.other (by decide))
                    · -- 9
                      intro li a1 W2 hA K hK
                      have e11 := hA.par 11 (by kernel_rfl)
                      refine opStep none 0 rfl rfl (fun c hc => by cases hc) ?_
                      go_simp
                      exact hK _ _ rfl MChg.refl (hA.ph.other (by decide))
                    · -- 10
                      intro li a1 W2 hA K hK
                      have e68 : a1.tmps.getD 68 undef = .slice (some ⟨zb, 0, none⟩) N cap := hA.val 8 68 (by kernel_rfl) (by kernel_rfl)
                      have e69 : a1.tmps.getD 69 undef = .int .i64 (k : Int) := hA.val 9 69 (by kernel_rfl) (by kernel_rfl)
                      refine opStep none 0 rfl rfl (fun c hc => by cases hc) ?_
                      go_simp
                      exact hK _ _ (by first | rfl | exact congrArg (fun q => Value.pointer (some q)) (add_blk _ _)) MChg.refl (hA.ph.other (by decide))
                    · -- 11
                      intro li a1 W2 hA K hK
                      have e70 : a1.tmps.getD 70 undef = .pointer (some ⟨zb, k, none⟩) := hA.val 10 70 (by kernel_rfl) (by kernel_rfl)
                      have hl13 : li.getD 13 false = false := by
                        cases hl : li.getD 13 false
                        · rfl
                        · have := hA.past hl 11 (by kernel_rfl); rw [hA.new] at this; cases this
                      have hp := hA.ph
                      unfold PhS at hp
                      rw [hl13] at hp
                      simp only [Bool.false_eq_true, if_false] at hp
                      have q1 := hp.cell HU.out.2
                      refine opStep none 0 rfl rfl (fun c hc => by cases hc) ?_
                      go_simp
                      exact hK _ _ rfl MChg.refl (hA.ph.other (by decide))
                    · -- 12
                      intro li a1 W2 hA K hK
                      have e60 : a1.tmps.getD 60 undef = .slice (some ⟨zb, 0, none⟩) N cap := hA.val 0 60 (by kernel_rfl) (by kernel_rfl)
                      have e61 : a1.tmps.getD 61 undef = .int .i64 (k : Int) := hA.val 1 61 (by kernel_rfl) (by kernel_rfl)
                      refine opStep none 0 rfl rfl (fun c hc => by cases hc) ?_
                      go_simp
                      exact hK _ _ (by first | rfl | exact congrArg (fun q => Value.pointer (some q)) (add_blk _ _)) MChg.refl (hA.ph.other (by decide))
                    · -- 13
                      intro li a1 W2 hA K hK
                      have e72 : a1.tmps.getD 72 undef = .pointer (some ⟨zb, k, none⟩) := hA.val 12 72 (by kernel_rfl) (by kernel_rfl)
                      have e67 : a1.tmps.getD 67 undef = .int .i64 u := hA.val 7 67 (by kernel_rfl) (by kernel_rfl)
                      have hp := hA.ph
                      unfold PhS at hp
                      rw [show li.getD 13 false = false from hA.new] at hp
                      simp only [Bool.false_eq_true, if_false] at hp
                      have q0 := hp.cell HU.out.2
                      have q1 := hp.frozen k
                      have q2 := hp.lt
                      refine opStep none 0 rfl rfl (fun c hc => by cases hc) ?_
                      go_simp
                      refine hK undef _ ⟨undef, rfl, trivial⟩ LB.chg_set ?_
                      unfold PhS
                      rw [getD_set_eq (by rw [hA.lsize]; decide)]
                      simp only [if_true]
                      exact hp.set_ _ _
                  · intro li a1 W2 hD
                    have hp := hD.ph
                    unfold PhS at hp
                    rw [hD.all 13 (by decide)] at hp
                    simp only [if_true] at hp
                    have e62 : a1.tmps.getD 62 undef = .slice (some ⟨zb, 0, none⟩) N cap := hD.val 2 62 (by kernel_rfl) (by kernel_rfl)
                    have e63 : a1.tmps.getD 63 undef = .int .i64 (reached : Int) := hD.val 3 63 (by kernel_rfl) (by kernel_rfl)
                    have e71 : a1.tmps.getD 71 undef = .int .i64 y := hD.val 11 71 (by kernel_rfl) (by kernel_rfl)
                    have HF := hid (And.intro (hp.set_ reached y) ((HW3.out.2.trans hD.st).trans (LB.chg_set (k := reached) (v := .int .i64 y))))
                    obtain ⟨hpc, hpv⟩ : ∃ v, W2.cell? ⟨zb, reached, none⟩ = some v := ⟨_, hp.cell (List.getElem?_eq_getElem (by rw [List.length_set, HML.out]; omega))⟩
                    have hpf := hp.frozen reached
                    have hpl := hp.lt
                    have hkp2 := hD.keeps (ds := [60, 61, 62, 63, 64, 65, 66, 67, 68, 69, 70, 71, 72, 73]) (by kernel_rfl)
                    have hds := hD.size
                    have hsz : a1.tmps.size = 80 := hD.size
                    have hdd := hD.defers
                    clear hp
                    refine tail_val (i := 14) (v := .pointer (some ⟨zb, reached, none⟩)) (W' := W2) none 0 rfl rfl rfl (fun c hc => by cases hc) (by go_simp) (by rw [hsz]; decide) ?_
                    intro a3 s3 d3 f3 o3
                    have hkp3 := keeps_then hkp2 o3 (by decide)
                    have e71' := (o3 71 (by decide)).trans e71
                    refine tail_store (i := 15) (W' := W2.setCell ⟨zb, reached, none⟩ (.int .i64 y)) none 0 rfl rfl rfl (fun c hc => by cases hc) (by go_simp) ?_
                    have e := act_mix [60, 61, 62, 63, 64, 65, 66, 67, 68, 69, 70, 71, 72, 73] (s3.trans hds) (d3.trans hdd) (fun i _ hc => hkp3 i hc)
                    generalize (fun i => a3.tmps.getD i undef) = g' at e
                    refine wpListIn_nil ?_
                    rw [e]
                    clear e hD hkp2 hkp3 s3 d3 f3 o3 e62 e63 e71 e71' hds hdd hsz hpc hpv hpf hpl HU HQ HW3
                    simp only [mix, List.contains_cons, List.contains_nil, Nat.reduceAdd, Nat.reduceBEq, Bool.or_false, Bool.or_true, cond_true, cond_false]
                    go_wp2
                    go_roundw
                    case rel => exact ⟨k + 1, reached + 1, _, by go_num, by go_num, HNX.out, HF.out⟩
                    case measure => first | (simp [intOf]; done) | (simp [intOf]; omega)
              · have hkI : decide ((k : Int) < (N : Int)) = false := by simp; omega
                obtain rfl : k = N := by omega
                have HNX := hid (show CS m (f :: t) f ms (next + 1) reached by have q := HQ.out.1; rw [← HML.out] at q; exact q.done)
                clear hlb
                go_wp2
                go_roundw
                case rel => exact ⟨next + 1, reached, ms, by go_num, by go_num, HNX.out, HQ.out.2⟩
                case measure => first | (simp [intOf]; done) | (simp [intOf]; omega)
          · obtain rfl : next = reached := by omega
            have hkI : decide ((next : Int) < (next : Int)) = false := by simp
            have HE := hid (show decide (next = ms.length) = conL m (f :: t) from HQ.out.1.ends)
            have HML := hid (show ms.length = N by have := HQ.out.1.len; have := HL.out.2.2.2; omega)
            have HB := hid (HBW.out.trans (HQ.out.2.2.below (n := w.heap.size) (fun q e => by have := HZ.out.1; omega) HBW.out.size))
            have hEB : ((next : Int) == (N : Int)) = conL m (f :: t) := by
              rw [← HE.out, HML.out]
              by_cases e : next = N
              · simp [e]
              · simp [e]; omega
            have HEB := hid hEB
            clear hEB
            cases hcl : conL m (f :: t)
            all_goals
              have HCL := hid hcl
              rw [hcl] at HEB
              have hEB := HEB.out
              clear hcl
              go_wp2
              go_ret
              exact ⟨by rw [HC.out, HCL.out]; rfl, HB.out⟩
end Go.Proofs.YtlnamjhgbdacbaaGreat
/- Right borders and the best ones, in plain words. No condition. -/
namespace Go.Proofs.YtlnamjhgbdacbaaGreat

/-- whether the first k new districts are right for limits -/
def rightTo (m : MapD) (l : Nat → Int) (lo hi : Int) (k : Nat) : Bool := (List.range k).all fun d => decide (lo ≤ sizeLo m (inD l (d : Int)) m.old.length) && (decide (sizeHi m (inD l (d : Int)) m.old.length ≤ hi) && conB m l (d : Int))
def rightB (m : MapD) (l : Nat → Int) (lo hi : Int) : Bool := rightTo m l lo hi m.nw.toNat
theorem rightTo_succ {m : MapD} {l : Nat → Int} {lo hi : Int} {k : Nat} : rightTo m l lo hi (k + 1) = (rightTo m l lo hi k && (decide (lo ≤ sizeLo m (inD l (k : Int)) m.old.length) && (decide (sizeHi m (inD l (k : Int)) m.old.length ≤ hi) && conB m l (k : Int)))) := by
  simp [rightTo, List.range_succ, List.all_append]
theorem rightTo_false {m : MapD} {l : Nat → Int} {lo hi : Int} {k j : Nat} (hk : k < j) (h : (decide (lo ≤ sizeLo m (inD l (k : Int)) m.old.length) && (decide (sizeHi m (inD l (k : Int)) m.old.length ≤ hi) && conB m l (k : Int))) = false) : rightTo m l lo hi j = false := by
  unfold rightTo
  rw [List.all_eq_false]
  exact ⟨k, List.mem_range.2 hk, by rw [h]; decide⟩
def setL (l : Nat → Int) (s : Nat) (d : Int) : Nat → Int := fun i => if i = s then d else l i
/-- the first borders behind those of the first s streets that move so many streets and are right -/
def mv (m : MapD) (lo hi : Int) : Nat → (Nat → Int) → Nat → Int → Option (Nat → Int)
  | 0, l, _, many => if 0 < many then none else if rightB m l lo hi then some l else none
  | f + 1, l, s, many => if ((f : Int) + 1) < many then none else (List.range m.nw.toNat).findSome? fun d : Nat =>
      if 0 ≤ many - (if (d : Int) = (m.S s).n then 0 else 1) then mv m lo hi f (setL l s (d : Int)) (s + 1) (many - (if (d : Int) = (m.S s).n then 0 else 1)) else none
def zeroL : Nat → Int := fun _ => 0
def bordTo (m : MapD) (lo hi : Int) (k : Nat) : Option (Nat × (Nat → Int)) := (List.range k).findSome? fun j : Nat => (mv m lo hi m.ss.length zeroL 0 (j : Int)).map fun l => (j, l)
def bestB (m : MapD) (lo hi : Int) : Option (Nat × (Nat → Int)) := bordTo m lo hi (m.ss.length + 1)
theorem findSome_succ {β : Type} (f : Nat → Option β) (k : Nat) : (List.range (k + 1)).findSome? f = ((List.range k).findSome? f).or (f k) := by
  rw [List.range_succ, List.findSome?_append]
  cases h : (List.range k).findSome? f <;> simp [List.findSome?]
  cases f k <;> rfl
theorem findSome_more {β : Type} (f : Nat → Option β) {k n : Nat} {b : β} (hk : k ≤ n) (h : (List.range k).findSome? f = some b) : (List.range n).findSome? f = some b := by
  induction n with
  | zero =>
    obtain rfl : k = 0 := by omega
    exact h
  | succ n ih =>
    by_cases e : k = n + 1
    · subst e; exact h
    · rw [findSome_succ, ih (by omega)]; rfl
end Go.Proofs.YtlnamjhgbdacbaaGreat
/- The best borders: they move the fewest streets, and are the smallest of those. In plain words. No condition. -/
namespace Go.Proofs.YtlnamjhgbdacbaaGreat

theorem rightTo_congr {m : MapD} {l l' : Nat → Int} {lo hi : Int} (h : ∀ i, i < m.ss.length → l i = l' i) : ∀ k, rightTo m l lo hi k = rightTo m l' lo hi k
  | 0 => rfl
  | k + 1 => by
    rw [rightTo_succ, rightTo_succ, rightTo_congr h k, sizeLo_congr (inD_congr h), sizeHi_congr (inD_congr h), conB_congr h]
theorem rightB_congr {m : MapD} {l l' : Nat → Int} {lo hi : Int} (h : ∀ i, i < m.ss.length → l i = l' i) : rightB m l lo hi = rightB m l' lo hi := rightTo_congr h _
/-- how many of the first k streets are moved -/
def movN (m : MapD) (l : Nat → Int) (k : Nat) : Int := sumN (fun i => if l i = (m.S i).n then 0 else 1) k
theorem movN_succ {m : MapD} {l : Nat → Int} {k : Nat} : movN m l (k + 1) = movN m l k + (if l k = (m.S k).n then 0 else 1) := rfl
theorem movN_bounds (m : MapD) (l : Nat → Int) (k : Nat) : 0 ≤ movN m l k ∧ movN m l k ≤ k := by
  refine ⟨sumN_nonneg fun i _ => by split <;> omega, ?_⟩
  have := sumN_bound (f := fun i => if l i = (m.S i).n then (0 : Int) else 1) (k := k) (M := 1) fun i _ => by split <;> omega
  unfold movN; omega
theorem movN_congr {m : MapD} {l l' : Nat → Int} {k : Nat} (h : ∀ i, i < k → l i = l' i) : movN m l k = movN m l' k := sumN_congr fun i hi => by rw [h i hi]
theorem movN_mono {m : MapD} {l : Nat → Int} {j k : Nat} (h : j ≤ k) : movN m l j ≤ movN m l k := sumN_mono h fun i _ => by split <;> omega
theorem movN_span {m : MapD} {l : Nat → Int} (s : Nat) : ∀ f : Nat, movN m l (s + f) ≤ movN m l s + f
  | 0 => by simp
  | f + 1 => by
    have := movN_span (m := m) (l := l) s f
    rw [show s + (f + 1) = (s + f) + 1 from rfl, movN_succ]
    split <;> omega
/-- smaller or the same, from street s on -/
def lexle (l l' : Nat → Int) : Nat → Nat → Prop
  | 0, _ => True
  | f + 1, s => l s < l' s ∨ (l s = l' s ∧ lexle l l' f (s + 1))
theorem lexle_refl {l : Nat → Int} : ∀ f s, lexle l l f s
  | 0, _ => trivial
  | f + 1, s => .inr ⟨rfl, lexle_refl f (s + 1)⟩
theorem lexle_anti {l l' : Nat → Int} : ∀ f s, lexle l l' f s → lexle l' l f s → ∀ i, s ≤ i → i < s + f → l i = l' i
  | 0, s, _, _ => fun i h1 h2 => by omega
  | f + 1, s, h, k => fun i h1 h2 => by
    have e : l s = l' s := by
      rcases h with h | h
      · rcases k with k | k
        · omega
        · omega
      · exact h.1
    by_cases hi : i = s
    · rw [hi]; exact e
    · refine lexle_anti f (s + 1) (h.resolve_left (by omega)).2 (k.resolve_left (by omega)).2 i (by omega) (by omega)
theorem lexle_congr {l l' g g' : Nat → Int} : ∀ f s, (∀ i, s ≤ i → i < s + f → l i = g i) → (∀ i, s ≤ i → i < s + f → l' i = g' i) → lexle l l' f s → lexle g g' f s
  | 0, _, _, _, _ => trivial
  | f + 1, s, h, k, e => by
    have h0 := h s (Nat.le_refl _) (by omega)
    have k0 := k s (Nat.le_refl _) (by omega)
    rcases e with e | e
    · exact .inl (by omega)
    · exact .inr ⟨by omega, lexle_congr f (s + 1) (fun i h1 h2 => h i (by omega) (by omega)) (fun i h1 h2 => k i (by omega) (by omega)) e.2⟩
structure Cand (m : MapD) (lo hi : Int) (l0 : Nat → Int) (f s : Nat) (many : Int) (l : Nat → Int) : Prop where
  pre : ∀ i, i < s → l i = l0 i
  inr : ∀ i, s ≤ i → i < s + f → 0 ≤ l i ∧ l i < m.nw
  mov : movN m l (s + f) = movN m l s + many
  rgt : rightB m l lo hi = true
theorem find_some {β : Type} {f : Nat → Option β} : ∀ {k : Nat} {b : β}, (List.range k).findSome? f = some b → ∃ d, d < k ∧ f d = some b ∧ ∀ e, e < d → f e = none
  | 0, b, h => by simp at h
  | k + 1, b, h => by
    rw [findSome_succ] at h
    cases hk : (List.range k).findSome? f with
    | some b' =>
      rw [hk] at h
      cases h
      obtain ⟨d, h1, h2, h3⟩ := find_some hk
      exact ⟨d, by omega, h2, h3⟩
    | none =>
      rw [hk] at h
      refine ⟨k, by omega, h, fun e he => ?_⟩
      rw [List.findSome?_eq_none_iff] at hk
      exact hk e (List.mem_range.2 he)
theorem find_none {β : Type} {f : Nat → Option β} {k : Nat} (h : (List.range k).findSome? f = none) (d : Nat) (hd : d < k) : f d = none := by
  rw [List.findSome?_eq_none_iff] at h
  exact h d (List.mem_range.2 hd)
/-- what a street costs -/
def mc (m : MapD) (s : Nat) (d : Int) : Int := if d = (m.S s).n then 0 else 1
theorem mc_b (m : MapD) (s : Nat) (d : Int) : 0 ≤ mc m s d ∧ mc m s d ≤ 1 := by unfold mc; split <;> omega
theorem Cand.down {m : MapD} {lo hi : Int} {l0 l : Nat → Int} {f s : Nat} {many : Int} (h : Cand m lo hi l0 (f + 1) s many l) : Cand m lo hi (setL l0 s (l s)) f (s + 1) (many - mc m s (l s)) l := by
  refine ⟨fun i hi => ?_, fun i h1 h2 => h.inr i (by omega) (by omega), ?_, h.rgt⟩
  · unfold setL
    by_cases e : i = s
    · rw [if_pos e, e]
    · rw [if_neg e]; exact h.pre i (by omega)
  · have := h.mov
    rw [show s + (f + 1) = s + 1 + f by omega] at this
    rw [this, movN_succ]
    unfold mc
    omega
theorem Cand.up {m : MapD} {lo hi : Int} {l0 l : Nat → Int} {f s : Nat} {many d : Int} (h : Cand m lo hi (setL l0 s d) f (s + 1) (many - mc m s d) l) (hd : 0 ≤ d ∧ d < m.nw) : Cand m lo hi l0 (f + 1) s many l ∧ l s = d := by
  have hs : l s = d := by
    rw [h.pre s (by omega)]; simp [setL]
  refine ⟨⟨fun i hi => ?_, fun i h1 h2 => ?_, ?_, h.rgt⟩, hs⟩
  · rw [h.pre i (by omega)]
    simp [setL, show i ≠ s by omega]
  · by_cases e : i = s
    · subst e; rw [hs]; exact hd
    · exact h.inr i (by omega) (by omega)
  · have := h.mov
    rw [show s + (f + 1) = s + 1 + f by omega, this, movN_succ, hs]
    unfold mc
    omega
theorem mv_zero {m : MapD} {lo hi : Int} {l : Nat → Int} {s : Nat} {many : Int} : mv m lo hi 0 l s many = if 0 < many then none else if rightB m l lo hi then some l else none := rfl
theorem mv_succ {m : MapD} {lo hi : Int} {l : Nat → Int} {f s : Nat} {many : Int} : mv m lo hi (f + 1) l s many = if ((f : Int) + 1) < many then none else (List.range m.nw.toNat).findSome? fun d : Nat =>
      if 0 ≤ many - mc m s (d : Int) then mv m lo hi f (setL l s (d : Int)) (s + 1) (many - mc m s (d : Int)) else none := rfl
theorem mv_none {m : MapD} {lo hi : Int} : ∀ (f s : Nat) (l : Nat → Int) (many : Int), s + f = m.ss.length → 0 ≤ many → mv m lo hi f l s many = none → ∀ g, ¬ Cand m lo hi l f s many g
  | 0, s, l, many, hs, h0, h, g, c => by
    have hm := c.mov
    have hr := c.rgt
    rw [rightB_congr (l' := l) (fun i hi => c.pre i (by omega))] at hr
    rw [mv_zero, if_neg (by simp at hm; omega), hr] at h
    cases h
  | f + 1, s, l, many, hs, h0, h, g, c => by
    have hm := c.mov
    have hsp := movN_span (m := m) (l := g) s (f + 1)
    rw [mv_succ, if_neg (by omega)] at h
    have hb := c.inr s (Nat.le_refl _) (by omega)
    have h1 := find_none h (g s).toNat (by omega)
    have e : ((g s).toNat : Int) = g s := by omega
    have c' := c.down
    have hm' := c'.mov
    have hmn := movN_mono (m := m) (l := g) (j := s + 1) (k := s + 1 + f) (by omega)
    rw [e, if_pos (by omega)] at h1
    exact mv_none f (s + 1) _ _ (by omega) (by omega) h1 g c'
theorem mv_some {m : MapD} {lo hi : Int} : ∀ (f s : Nat) (l : Nat → Int) (many : Int) (g : Nat → Int), s + f = m.ss.length → 0 ≤ many → mv m lo hi f l s many = some g →
    Cand m lo hi l f s many g ∧ ∀ g', Cand m lo hi l f s many g' → lexle g g' f s
  | 0, s, l, many, g, hs, h0, h => by
    rw [mv_zero] at h
    split at h
    · cases h
    · split at h
      · cases h
        rename_i hr
        exact ⟨⟨fun _ _ => rfl, fun i h1 h2 => by omega, by simp; omega, hr⟩, fun _ _ => trivial⟩
      · cases h
  | f + 1, s, l, many, g, hs, h0, h => by
    rw [mv_succ] at h
    split at h
    · cases h
    · obtain ⟨d, hd, h1, h2⟩ := find_some h
      by_cases hc : 0 ≤ many - mc m s (d : Int)
      · rw [if_pos hc] at h1
        obtain ⟨a, b⟩ := mv_some f (s + 1) _ _ g (by omega) hc h1
        obtain ⟨a', hgs⟩ := a.up (by omega)
        refine ⟨a', fun g' c' => ?_⟩
        have hb := c'.inr s (Nat.le_refl _) (by omega)
        have e : ((g' s).toNat : Int) = g' s := by omega
        have cd := c'.down
        rcases Int.lt_trichotomy (g' s) (d : Int) with hlt | heq | hgt
        · exfalso
          have h3 := h2 (g' s).toNat (by omega)
          have hm' := cd.mov
          have hmn := movN_mono (m := m) (l := g') (j := s + 1) (k := s + 1 + f) (by omega)
          rw [e, if_pos (by omega)] at h3
          exact mv_none f (s + 1) _ _ (by omega) (by omega) h3 g' cd
        · rw [heq] at cd
          exact .inr ⟨by rw [hgs, heq], b g' cd⟩
        · exact .inl (by rw [hgs]; exact hgt)
      · rw [if_neg hc] at h1
        cases h1
/-- borders of a map that are right -/
def RightAll (m : MapD) (lo hi : Int) (l : Nat → Int) : Prop := (∀ i, i < m.ss.length → 0 ≤ l i ∧ l i < m.nw) ∧ rightB m l lo hi = true
theorem RightAll.cand {m : MapD} {lo hi : Int} {l : Nat → Int} (h : RightAll m lo hi l) : Cand m lo hi zeroL m.ss.length 0 (movN m l m.ss.length) l :=
  ⟨fun i hi => by omega, fun i _ hi => h.1 i (by omega), by simp [movN, sumN], h.2⟩
theorem Cand.all {m : MapD} {lo hi : Int} {l : Nat → Int} {many : Int} (h : Cand m lo hi zeroL m.ss.length 0 many l) : RightAll m lo hi l ∧ movN m l m.ss.length = many := by
  refine ⟨⟨fun i hi => h.inr i (Nat.zero_le _) (by omega), h.rgt⟩, ?_⟩
  have := h.mov
  simpa [movN, sumN] using this
theorem best_some_iff {m : MapD} {lo hi : Int} {j : Nat} {l : Nat → Int} (h : bestB m lo hi = some (j, l)) :
    RightAll m lo hi l ∧ movN m l m.ss.length = j ∧ ∀ l', RightAll m lo hi l' → (j : Int) < movN m l' m.ss.length ∨ ((j : Int) = movN m l' m.ss.length ∧ lexle l l' m.ss.length 0) := by
  obtain ⟨d, _, h1, h2⟩ := find_some (show (List.range (m.ss.length + 1)).findSome? _ = some (j, l) from h)
  rw [Option.map_eq_some_iff] at h1
  obtain ⟨g, h1, e⟩ := h1
  cases e
  obtain ⟨a, b⟩ := mv_some m.ss.length 0 zeroL _ l (by omega) (by omega) h1
  obtain ⟨a1, a2⟩ := a.all
  refine ⟨a1, a2, fun l' hr => ?_⟩
  have c := hr.cand
  have hb := movN_bounds m l' m.ss.length
  rcases Int.lt_trichotomy (movN m l' m.ss.length) (j : Int) with hlt | heq | hgt
  · exfalso
    have h3 := h2 (movN m l' m.ss.length).toNat (by omega)
    rw [Option.map_eq_none_iff] at h3
    rw [show (((movN m l' m.ss.length).toNat : Nat) : Int) = movN m l' m.ss.length by omega] at h3
    exact mv_none m.ss.length 0 zeroL _ (by omega) hb.1 h3 l' c
  · rw [heq] at c
    exact .inr ⟨heq.symm, b l' c⟩
  · exact .inl hgt
theorem best_none_iff {m : MapD} {lo hi : Int} (h : bestB m lo hi = none) (l : Nat → Int) : ¬ RightAll m lo hi l := fun hr => by
  have hb := movN_bounds m l m.ss.length
  have h3 := find_none (show (List.range (m.ss.length + 1)).findSome? _ = none from h) (movN m l m.ss.length).toNat (by omega)
  rw [Option.map_eq_none_iff, show (((movN m l m.ss.length).toNat : Nat) : Int) = movN m l m.ss.length by omega] at h3
  exact mv_none m.ss.length 0 zeroL _ (by omega) hb.1 h3 l hr.cand
theorem bestB_le {m : MapD} {lo hi : Int} {j : Nat} {l : Nat → Int} (h : bestB m lo hi = some (j, l)) : j ≤ m.ss.length := by
  obtain ⟨_, h2, _⟩ := best_some_iff h
  have := movN_bounds m l m.ss.length
  omega
/-- numbers of borders -/
def numF (N : Int) (l : Nat → Int) : Nat → Nat → Int
  | 0, _ => 0
  | f + 1, s => l s * N ^ f + numF N l f (s + 1)
theorem numF_b {N : Int} (hN : 1 ≤ N) {l : Nat → Int} : ∀ f s, (∀ i, s ≤ i → i < s + f → 0 ≤ l i ∧ l i < N) → 0 ≤ numF N l f s ∧ numF N l f s < N ^ f
  | 0, s, _ => by simp [numF]
  | f + 1, s, h => by
    obtain ⟨h1, h2⟩ := h s (Nat.le_refl _) (by omega)
    obtain ⟨h3, h4⟩ := numF_b hN f (s + 1) fun i a b => h i (by omega) (by omega)
    have hp : 0 < N ^ f := Int.pow_pos (by omega)
    have e : N ^ (f + 1) = N ^ f * N := Int.pow_succ N f
    have h5 : 0 ≤ l s * N ^ f := Int.mul_nonneg h1 (by omega)
    have h6 : l s * N ^ f ≤ (N - 1) * N ^ f := Int.mul_le_mul_of_nonneg_right (by omega) (by omega)
    have h7 : (N - 1) * N ^ f = N ^ f * N - N ^ f := by rw [Int.sub_mul, Int.mul_comm N]; simp
    show 0 ≤ l s * N ^ f + numF N l f (s + 1) ∧ l s * N ^ f + numF N l f (s + 1) < N ^ (f + 1)
    rw [e]
    omega
theorem lexle_of_num {N : Int} (hN : 1 ≤ N) {l l' : Nat → Int} : ∀ f s, (∀ i, s ≤ i → i < s + f → 0 ≤ l i ∧ l i < N) → (∀ i, s ≤ i → i < s + f → 0 ≤ l' i ∧ l' i < N) → numF N l f s ≤ numF N l' f s → lexle l l' f s
  | 0, _, _, _, _ => trivial
  | f + 1, s, h, k, hn => by
    have b1 := numF_b hN f (s + 1) fun i a b => h i (by omega) (by omega)
    have b2 := numF_b hN f (s + 1) fun i a b => k i (by omega) (by omega)
    have hp : 0 < N ^ f := Int.pow_pos (by omega)
    have e1 : numF N l (f + 1) s = l s * N ^ f + numF N l f (s + 1) := rfl
    have e2 : numF N l' (f + 1) s = l' s * N ^ f + numF N l' f (s + 1) := rfl
    rw [e1, e2] at hn
    rcases Int.lt_trichotomy (l s) (l' s) with hlt | heq | hgt
    · exact .inl hlt
    · exact .inr ⟨heq, lexle_of_num hN f (s + 1) (fun i a b => h i (by omega) (by omega)) (fun i a b => k i (by omega) (by omega)) (by rw [heq] at hn; omega)⟩
    · exfalso
      have h6 : (l' s + 1) * N ^ f ≤ l s * N ^ f := Int.mul_le_mul_of_nonneg_right (by omega) (by omega)
      rw [Int.add_mul, Int.one_mul] at h6
      omega
end Go.Proofs.YtlnamjhgbdacbaaGreat
/- right: whether borders are right for limits. Conditions stand at each theorem. -/
namespace Go.Proofs.YtlnamjhgbdacbaaGreat
open Go.RowKit Go.Shelf

end Go.Proofs.YtlnamjhgbdacbaaGreat
/- asked, list, Apart. Conditions stand at each theorem. -/
namespace Go.Proofs.YtlnamjhgbdacbaaGreat
open Go.RowKit Go.Shelf

/-- the number of the error of a map with limits -/
def askE (m : MapD) (lo hi : Int) : Int := if chkM m = 0 then (if rngOk lo hi 40000 = true then cstM m else 2) else chkM m
theorem ask_ok {m : MapD} {lo hi : Int} (h : askE m lo hi = 0) : chkM m = 0 ∧ rngOk lo hi 40000 = true ∧ cstM m = 0 := by
  unfold askE at h
  by_cases hc : chkM m = 0
  · rw [if_pos hc] at h
    by_cases hr : rngOk lo hi 40000 = true
    · rw [if_pos hr] at h; exact ⟨hc, hr, h⟩
    · rw [if_neg hr] at h; cases h
  · rw [if_neg hc] at h; exact absurd h hc
/-- borders as a list -/
def lst (m : MapD) (l : Nat → Int) : List Int := (List.range m.ss.length).map l
theorem lst_len (m : MapD) (l : Nat → Int) : (lst m l).length = m.ss.length := by simp [lst]
theorem lst_get {m : MapD} {l : Nat → Int} {i : Nat} (h : i < m.ss.length) : (lst m l)[i]? = some (l i) := by simp [lst, h]
theorem lst_congr {m : MapD} {l l' : Nat → Int} (h : ∀ i, i < m.ss.length → l i = l' i) : lst m l = lst m l' := by
  unfold lst
  exact List.map_congr_left fun i hi => h i (List.mem_range.1 hi)
/-- the new districts that are not connected -/
def apTo (m : MapD) (k : Nat) : List Int := ((List.range k).filter fun d : Nat => !conB m (ownL m) (d : Int)).map fun d : Nat => (d : Int)
def apL (m : MapD) : List Int := apTo m m.nw.toNat
theorem apTo_in {m : MapD} {k : Nat} (h : conB m (ownL m) (k : Int) = false) : apTo m (k + 1) = apTo m k ++ [(k : Int)] := by simp [apTo, List.range_succ, h]
theorem apTo_out {m : MapD} {k : Nat} (h : conB m (ownL m) (k : Int) = true) : apTo m (k + 1) = apTo m k := by simp [apTo, List.range_succ, h]
theorem apTo_len (m : MapD) (k : Nat) : (apTo m k).length ≤ k := by
  have := List.length_filter_le (fun d : Nat => !conB m (ownL m) (d : Int)) (List.range k)
  simp [apTo] at this ⊢
  exact this
set_option maxRecDepth 100000 in
set_option maxHeartbeats 2000000 in
theorem apart_any (m : MapD) (A : Option Addr) (c : Nat) (A2 : Option Addr) (c2 : Nat) (A3 : Option Addr) (c3 : Nat) (w : World) (h : MIn m A c A2 c2 A3 c3 w) :
    Calls Tryz.prog 17 #[.agg #[.slice A m.old.length c, .int .i64 m.nw, .slice A2 m.ss.length c2, .slice A3 m.js.length c3]] w fun e w' => if chkM m ≠ 0 then e = .returned (.tuple #[.slice none 0 0, .int .i64 (chkM m)]) ∧ Below w.heap.size w w' else ∃ A c, e = .returned (.tuple #[.slice A (apL m).length c, .int .i64 0]) ∧ IsInts w' w'.heap.size A (apL m) ∧ (apL m).length ≤ c ∧ c ≤ maxLen ∧ Below w.heap.size w w' := by
  have hB := below_box (w := w) #[.slice A m.old.length c, .int .i64 m.nw, .slice A2 m.ss.length c2, .slice A3 m.js.length c3] 36
  have hT := Blk.new w 36 #[.slice A m.old.length c, .int .i64 m.nw, .slice A2 m.ss.length c2, .slice A3 m.js.length c3]
  obtain ⟨t0, t1, t2, t3⟩ := hT.c4
  have HH := hid (h.at_ hB)
  have HB := hid hB
  have HT := hid hT
  have KC := hid (checkm_any m A c A2 c2 A3 c3 _ (h.at_ hB))
  clear h hB hT
  by_cases hc : chkM m = 0
  · simp only [hc, ne_eq, not_true_eq_false, if_false]
    rw [hc] at KC
    have OK := hid (chk_okm hc)
    have hs8 := OK.out.s8
    have hn1 := OK.out.n1
    have hn4 := OK.out.n4
    obtain ⟨N, hN⟩ : ∃ N, m.nw.toNat = N := ⟨_, rfl⟩
    have hNI : m.nw = (N : Int) := by omega
    have HN := hid (And.intro hN hNI)
    have hN4 : N ≤ 4 := by omega
    clear hc hN hn1 hn4 hNI
    go_enter Tryz.func17, Tryz.ntmps17
    go_wp2_with fail
    refine KC.out.mono ?_
    rintro e w2 ⟨rfl, hb⟩
    have HB2 := hid (HB.out.trans (hb.mono HB.out.size))
    have HT2 := hid (HT.out.keep hb)
    have HH2 := hid (HH.out.at_ hb)
    have KW := hid (bwork_any m A c A2 c2 A3 c3 w2 HH2.out OK.out)
    clear t0 t1 t2 t3 hb KC
    obtain ⟨t0, t1, t2, t3⟩ := HT2.out.c4
    go_wp2_with fail
    refine KW.out.mono ?_
    rintro e w3 ⟨g, b, rfl, _, _, h3, hb⟩
    have HB3 := hid (HB2.out.trans (hb.mono HB2.out.size))
    have HT3 := hid (HT2.out.keep hb)
    have HH3 := hid (HH2.out.at_ hb)
    have HW3 := hid h3
    clear t0 t1 t2 t3 hb KW h3
    obtain ⟨t0, t1, t2, t3⟩ := HT3.out.c4
    rw [HN.out.2] at t1
    go_wp2
    clear t0 t1 t2 t3
    go_loopw [6, 17] (fun v i W => ∃ k : Nat, k ≤ N ∧ i = .int .i64 k ∧ W.ownsRow w3.heap.size 3 1 v (apTo m k).length ((apTo m k).map (Value.int .i64)) ∧ Below w3.heap.size w3 W) (fun _ i _ => N - (intOf i).toNat)
    case atStart => exact ⟨0, Nat.zero_le _, rfl, ⟨rfl, .inl ⟨rfl, rfl⟩⟩, Below.refl _ _⟩
    case round =>
      obtain ⟨k, hk, rfl, ho, hbr⟩ := hrel
      have HR := hid (And.intro ho hbr)
      clear ho hbr
      by_cases hlt : k < N
      · have hkI : (k : Int) < (N : Int) := by omega
        obtain ⟨t0, t1, t2, t3⟩ := (HT3.out.keep HR.out.2).c4
        have hml := apTo_len m k
        have hsz := HR.out.2.size
        have KO := hid (bown_any m A c A2 c2 A3 c3 wr (HH3.out.at_ HR.out.2) hs8)
        go_wp2_with fail
        refine KO.out.mono ?_
        rintro e w4 ⟨rfl, hb⟩
        have KN := connected_any m A c A2 c2 A3 c3 g b (ownL m) (k : Int) w4 (HW3.out.keep (HR.out.2.trans (hb.mono HR.out.2.size))) OK.out
        have HB4 := hid hb
        clear t0 t1 t2 t3 hb KO
        cases hcb : conB m (ownL m) (k : Int)
        · have HST := hid (apTo_in hcb)
          rw [hcb] at KN
          have KN := hid KN
          clear hcb
          go_wp2_with fail
          refine KN.out.mono ?_
          rintro e w5 ⟨rfl, hb⟩
          have hb5 := HB4.out.trans (hb.mono HB4.out.size)
          have ho5 := row_kept (vo := .slice none 0 0) HR.out.1 (grown_of_below hb5 _) (.inl rfl)
          have HB5 := hid (HR.out.2.trans (hb5.mono HR.out.2.size))
          have hs5 := HB5.out.size
          have HO := hid (ho5.alloc (.cells #[.int .i64 (k : Int)] 3))
          obtain ⟨i0, hi0, hz0, hz1, hz2⟩ := info_parts int_info
          clear hb hb5 ho5 KN
          go_wp2_with (at_builtin; refine wpList_append_own_at _ rfl _ _ 22 rfl w3.heap.size 3 i0 (.int .i64 0) 1 8 Tryz.underlying22 hi0 hz0 hz1 hz2 rfl (by decide) u6 _ _ rfl HO.out ⟨w5.heap.size, 0, none⟩ 1 1 [.int .i64 (k : Int)] rfl rfl (by intro q u hq; cases q with | zero => simp at hq; subst hq; exact (World.cell?_alloc_new _ _ _ _) | succ q => simp at hq) (by intro u hu; simp at hu; subst hu; rfl) (by simp only [maxLen]; omega) (by omega) (by simp; omega) ?_; intro vo' w6 hown' hgrow _ hfr; have HNX := hid (show w6.ownsRow w3.heap.size 3 1 vo' (apTo m (k + 1)).length ((apTo m (k + 1)).map (Value.int .i64)) ∧ Below w3.heap.size w3 w6 from ⟨by rw [HST.out, List.length_append, List.map_append]; exact hown', below_row' (HB5.out.trans ((below_box _ _).mono HB5.out.size)) HO.out (Nat.le_refl _) hgrow (by simp; omega)⟩); clear hown' hgrow hfr)
          go_roundw
          case rel => exact ⟨k + 1, by omega, by go_num, HNX.out⟩
          case measure => first | (simp [intOf]; done) | (simp [intOf]; omega)
        · have HST := hid (apTo_out hcb)
          rw [hcb] at KN
          have KN := hid KN
          clear hcb
          go_wp2_with fail
          refine KN.out.mono ?_
          rintro e w5 ⟨rfl, hb⟩
          have hb5 := HB4.out.trans (hb.mono HB4.out.size)
          have HNX := hid (show w5.ownsRow w3.heap.size 3 1 u6 (apTo m (k + 1)).length ((apTo m (k + 1)).map (Value.int .i64)) ∧ Below w3.heap.size w3 w5 from ⟨by rw [HST.out]; exact row_kept (vo := .slice none 0 0) HR.out.1 (grown_of_below hb5 _) (.inl rfl), HR.out.2.trans (hb5.mono HR.out.2.size)⟩)
          clear hb hb5 KN
          go_wp2
          go_roundw
          case rel => exact ⟨k + 1, by omega, by go_num, HNX.out⟩
          case measure => first | (simp [intOf]; done) | (simp [intOf]; omega)
      · have hkI : decide ((k : Int) < (N : Int)) = false := by simp; omega
        obtain rfl : k = N := by omega
        obtain ⟨A7, c7, e7, r1, r2, r3, _, _⟩ := own_ints rfl HR.out.1
        have hol : apL m = apTo m k := by unfold apL; rw [HN.out.1]
        subst e7
        have HFIN := hid (show ∃ A c, Ending.returned (.tuple #[.slice A7 (apTo m k).length c7, .int .i64 0]) = .returned (.tuple #[.slice A (apL m).length c, .int .i64 0]) ∧ IsInts wr wr.heap.size A (apL m) ∧ (apL m).length ≤ c ∧ c ≤ maxLen ∧ Below w.heap.size w wr from ⟨A7, c7, by rw [hol], by rw [hol]; exact r3, by rw [hol]; exact r1, r2, HB3.out.trans (HR.out.2.mono HB3.out.size)⟩)
        clear r1 r2 r3 hol HR
        go_wp2
        go_ret2
        exact HFIN.out
  · have hne : (chkM m != 0) = true := by simp [hc]
    simp only [ne_eq, hc, not_false_eq_true, if_true]
    obtain ⟨z, hz⟩ : ∃ z, chkM m = z := ⟨_, rfl⟩
    rw [hz] at KC hne ⊢
    clear hc hz
    go_enter Tryz.func17, Tryz.ntmps17
    go_wp2_with fail
    refine KC.out.mono ?_
    rintro e wc ⟨rfl, hb⟩
    have HBC := hid (HB.out.trans (hb.mono HB.out.size))
    clear hb KC t0 t1 t2 t3
    go_wp2
    go_ret2
    exact ⟨rfl, HBC.out⟩
end Go.Proofs.YtlnamjhgbdacbaaGreat
/- The reference of layer 11: the map's own borders, a street alone, whether a map is consistent. Conditions stand at each theorem. -/
namespace Go.Proofs.YtlnamjhgbdacbaaGreat
open Go.RowKit Go.Shelf

theorem ints_blk {w : World} {g : Nat} {xs : List Int} (h : Blk w g 3 (intC xs)) : IsInts w w.heap.size (some ⟨g, 0, none⟩) xs := fun k x hk => by
  refine ⟨_, rfl, h.lt, ?_⟩
  rw [add_blk, h.cell, intC_get hk]
/-- borders in which a street is the only one in district 1 -/
def aloneL (i : Nat) : Nat → Int := fun k => if k = i then 1 else 0
theorem alone_set {m : MapD} {i : Nat} (hi : i < m.ss.length) : (List.replicate m.ss.length (0 : Int)).set i 1 = lst m (aloneL i) := by
  apply List.ext_getElem?
  intro k
  by_cases hk : k < m.ss.length
  · rw [lst_get hk]
    unfold aloneL
    by_cases e : k = i
    · subst e
      rw [List.getElem?_set_self (by simpa using hk), if_pos rfl]
    · rw [List.getElem?_set_ne (fun h => e h.symm), if_neg e, List.getElem?_replicate, if_pos hk]
  · rw [List.getElem?_eq_none (by simp; omega), List.getElem?_eq_none (by rw [lst_len]; omega)]
theorem conM_false {m : MapD} {d : Nat} (hd : d < m.old.length) (h : conD m d = false) : conM m = false := by
  unfold conM
  rw [List.all_eq_false]
  exact ⟨d, List.mem_range.2 hd, by rw [h]; decide⟩
end Go.Proofs.YtlnamjhgbdacbaaGreat
/- The law's tests of a map: Thin, fault, consistent, ready. Conditions stand at each theorem. -/
namespace Go.Proofs.YtlnamjhgbdacbaaGreat
open Go.RowKit Go.Shelf

def thinM (m : MapD) : Bool := decide (m.old.length ≤ 7) && (decide (m.ss.length ≤ 11) && decide (m.js.length ≤ 24))
def ThinP (m : MapD) : Prop := m.old.length ≤ 7 ∧ m.ss.length ≤ 11 ∧ m.js.length ≤ 24
theorem thinM_iff {m : MapD} : thinM m = true ↔ ThinP m := by simp [thinM, ThinP]
set_option maxRecDepth 100000 in
set_option maxHeartbeats 1000000 in
theorem mthin_any (m : MapD) (A : Option Addr) (c : Nat) (A2 : Option Addr) (c2 : Nat) (A3 : Option Addr) (c3 : Nat) (w : World) :
    Calls Tryz.prog 5 #[.agg #[.slice A m.old.length c, .int .i64 m.nw, .slice A2 m.ss.length c2, .slice A3 m.js.length c3]] w fun e w' => e = .returned (.bool (thinM m)) ∧ Below w.heap.size w w' := by
  have hB := below_box (w := w) #[.slice A m.old.length c, .int .i64 m.nw, .slice A2 m.ss.length c2, .slice A3 m.js.length c3] 26
  have HB := hid hB
  clear hB
  by_cases h1 : m.old.length ≤ 7
  · by_cases h2 : m.ss.length ≤ 11
    · by_cases h3 : m.js.length ≤ 24
      · have HE := hid (show thinM m = true by simp [thinM, h1, h2, h3])
        have b1 : decide ((m.old.length : Int) ≤ 7) = true := by simp; omega
        have b2 : decide ((m.ss.length : Int) ≤ 11) = true := by simp; omega
        have b3 : decide ((m.js.length : Int) ≤ 24) = true := by simp; omega
        clear h1 h2 h3
        go_enter Tryz.func5, Tryz.ntmps5
        go_wp2
        go_ret
        exact ⟨by rw [HE.out]; rfl, HB.out⟩
      · have HE := hid (show thinM m = false by simp [thinM, h3])
        have b1 : decide ((m.old.length : Int) ≤ 7) = true := by simp; omega
        have b2 : decide ((m.ss.length : Int) ≤ 11) = true := by simp; omega
        have b3 : decide ((m.js.length : Int) ≤ 24) = false := by simp; omega
        clear h1 h2 h3
        go_enter Tryz.func5, Tryz.ntmps5
        go_wp2
        go_ret
        exact ⟨by rw [HE.out]; rfl, HB.out⟩
    · have HE := hid (show thinM m = false by simp [thinM, h2])
      have b1 : decide ((m.old.length : Int) ≤ 7) = true := by simp; omega
      have b2 : decide ((m.ss.length : Int) ≤ 11) = false := by simp; omega
      clear h1 h2
      go_enter Tryz.func5, Tryz.ntmps5
      go_wp2
      go_ret
      exact ⟨by rw [HE.out]; rfl, HB.out⟩
  · have HE := hid (show thinM m = false by simp [thinM, h1])
    have b1 : decide ((m.old.length : Int) ≤ 7) = false := by simp; omega
    clear h1
    go_enter Tryz.func5, Tryz.ntmps5
    go_wp2
    go_ret
    exact ⟨by rw [HE.out]; rfl, HB.out⟩
theorem cst_of (m : MapD) : cstM m = if chkM m = 0 then (if conM m = true then 0 else 9) else chkM m := rfl
def readyM (m : MapD) : Bool := thinM m && decide (cstM m = 0)
theorem ready_iff {m : MapD} : readyM m = true ↔ ThinP m ∧ cstM m = 0 := by
  unfold readyM
  rw [Bool.and_eq_true, thinM_iff, decide_eq_true_eq]
theorem cst_ok {m : MapD} (h : cstM m = 0) : chkM m = 0 ∧ conM m = true := by
  rw [cst_of] at h
  by_cases hc : chkM m = 0
  · rw [if_pos hc] at h
    by_cases hm : conM m = true
    · exact ⟨hc, hm⟩
    · rw [if_neg hm] at h; cases h
  · rw [if_neg hc] at h; exact absurd h hc
end Go.Proofs.YtlnamjhgbdacbaaGreat
/- New districts that are the old ones; two districts merged: counts and bounds, in plain words. Conditions stand at each theorem. -/
namespace Go.Proofs.YtlnamjhgbdacbaaGreat

theorem conM_at {m : MapD} (h : conM m = true) {d : Nat} (hd : d < m.old.length) : sumO m d tt Stt.lo m.ss.length ≤ m.at_ d ∧ m.at_ d ≤ sumO m d tt Stt.hi m.ss.length := by
  unfold conM at h
  exact inB_iff.1 (List.all_eq_true.1 h d (List.mem_range.2 hd))
theorem cst_mk {m : MapD} (ok : OkM m) (h : ∀ d, d < m.old.length → sumO m d tt Stt.lo m.ss.length ≤ m.at_ d ∧ m.at_ d ≤ sumO m d tt Stt.hi m.ss.length) : cstM m = 0 := by
  rw [cst_of, if_pos (okm_chk ok), if_pos]
  unfold conM
  exact List.all_eq_true.2 fun d hd => inB_iff.2 (h d (List.mem_range.1 hd))
/-- the map with its streets changed -/
def updM (m : MapD) (nw : Int) (f : Stt → Stt) : MapD := ⟨m.old, nw, m.ss.map f, m.js⟩
theorem updM_S {m : MapD} {nw : Int} {f : Stt → Stt} {i : Nat} (hi : i < m.ss.length) : (updM m nw f).S i = f (m.S i) := by
  have e : m.ss[i]? = some m.ss[i] := List.getElem?_eq_getElem hi
  rw [MapD.S_eq e, MapD.S_eq (m := updM m nw f) (s := f m.ss[i])]
  show (m.ss.map f)[i]? = _
  rw [List.getElem?_map, e]; rfl
theorem updM_len (m : MapD) (nw : Int) (f : Stt → Stt) : (updM m nw f).ss.length = m.ss.length := by simp [updM]
theorem updM_sum {m : MapD} {nw : Int} {f : Stt → Stt} {d : Nat} {p q : Nat → Bool} {g : Stt → Int} {k : Nat} (hk : k ≤ m.ss.length) (hf : ∀ s, (f s).o = s.o ∧ g (f s) = g s) (hp : ∀ i, i < k → p i = q i) : sumO (updM m nw f) d p g k = sumO m d q g k := by
  unfold sumO
  refine sumN_congr fun i hi => ?_
  rw [updM_S (by omega), (hf _).1, (hf _).2, hp i hi]
theorem updM_ok {m : MapD} {nw : Int} {f : Stt → Stt} (ok : OkM m) (h1 : 1 ≤ nw) (h4 : nw ≤ 4) (hf : ∀ s, (f s).o = s.o ∧ (f s).wt = s.wt ∧ (f s).lo = s.lo ∧ (f s).hi = s.hi) (hn : ∀ s ∈ m.ss, 0 ≤ (f s).n ∧ (f s).n < nw) : OkM (updM m nw f) := by
  refine ⟨ok.d1, ok.d4, by rw [updM_len]; exact ok.s1, by rw [updM_len]; exact ok.s8, ok.j20, ok.cnt, h1, h4, fun s hs => ?_, fun d hd => ?_, fun j hj => ?_⟩
  · obtain ⟨t, ht, rfl⟩ := List.mem_map.1 hs
    have := ok.stt t ht
    have := hn t ht
    have := hf t
    show 0 ≤ _ ∧ _ < (m.old.length : Int) ∧ _ ∧ _ < nw ∧ _
    omega
  · rw [updM_len, updM_sum (Nat.le_refl _) (q := tt) (fun s => ⟨(hf s).1, (hf s).2.1⟩) fun i hi => rfl]
    exact ok.wgh d hd
  · rw [updM_len]; exact ok.jn j hj
theorem updM_cst {m : MapD} {nw : Int} {f : Stt → Stt} (hm : cstM m = 0) (h1 : 1 ≤ nw) (h4 : nw ≤ 4) (hf : ∀ s, (f s).o = s.o ∧ (f s).wt = s.wt ∧ (f s).lo = s.lo ∧ (f s).hi = s.hi) (hn : ∀ s ∈ m.ss, 0 ≤ (f s).n ∧ (f s).n < nw) : cstM (updM m nw f) = 0 := by
  obtain ⟨hc, hcon⟩ := cst_ok hm
  have ok := chk_okm hc
  refine cst_mk (updM_ok ok h1 h4 hf hn) fun d hd => ?_
  rw [updM_len, updM_sum (Nat.le_refl _) (q := tt) (fun s => ⟨(hf s).1, (hf s).2.2.1⟩) fun i hi => rfl, updM_sum (Nat.le_refl _) (q := tt) (fun s => ⟨(hf s).1, (hf s).2.2.2⟩) fun i hi => rfl]
  exact conM_at hcon hd
theorem updM_car {m : MapD} {nw : Int} {f : Stt → Stt} (hf : ∀ s, (f s).o = s.o ∧ (f s).wt = s.wt) : car (updM m nw f) = car m :=
  (car_congr (m := m) (x := updM m nw f) rfl (updM_len m nw f).symm fun i hi => by rw [updM_S hi]; exact ⟨(hf _).1.symm, (hf _).2.symm⟩).symm
/-- each new district is an old one -/
def sameF (s : Stt) : Stt := ⟨s.o, s.o, s.wt, s.lo, s.hi⟩
def sameM (m : MapD) : MapD := updM m m.old.length sameF
theorem sameF_f (s : Stt) : (sameF s).o = s.o ∧ (sameF s).wt = s.wt ∧ (sameF s).lo = s.lo ∧ (sameF s).hi = s.hi := ⟨rfl, rfl, rfl, rfl⟩
theorem same_cst {m : MapD} (h : cstM m = 0) : cstM (sameM m) = 0 := by
  have ok := chk_okm (cst_ok h).1
  refine updM_cst h (by have := ok.d1; omega) (by have := ok.d4; omega) sameF_f fun s hs => ?_
  have := ok.stt s hs
  show 0 ≤ s.o ∧ s.o < _
  omega
theorem same_car {m : MapD} (ok : OkM m) : smD (sameM m) (ownL (sameM m)) (car (sameM m)) = m.old := by
  have hc : car (sameM m) = car m := updM_car fun s => ⟨rfl, rfl⟩
  have hl : ∀ i, i < m.ss.length → ownL (sameM m) i = (m.S i).o := fun i hi => by
    unfold ownL sameM
    rw [updM_S hi]; rfl
  have hn : (sameM m).nw.toNat = m.old.length := by show ((m.old.length : Int)).toNat = _; omega
  have hL : (smD (sameM m) (ownL (sameM m)) (car (sameM m))).length = m.old.length := by unfold smD; rw [smTo_len, hn]
  refine List.ext_getElem? fun d => ?_
  by_cases hd : d < m.old.length
  · have h1 := smD_get (m := sameM m) (l := ownL (sameM m)) (xs := car (sameM m)) (q := d) (by rw [hn]; exact hd) (fun i hi => by
      rw [hc, car_len] at hi
      rw [hl i hi]
      have := ok.sAt hi
      omega)
    rw [hc, car_len] at h1
    rw [sumN_congr (g := fun i => if (m.S i).o = (d : Int) then (car m).getD i 0 else 0) (fun i hi => by rw [hl i hi]), car_sum ok hd] at h1
    rw [hc] at hL ⊢
    rw [List.getD_eq_getElem?_getD, List.getElem?_eq_getElem (by omega)] at h1
    unfold MapD.at_ at h1
    rw [List.getD_eq_getElem?_getD, List.getElem?_eq_getElem hd] at h1
    rw [List.getElem?_eq_getElem (by omega), List.getElem?_eq_getElem hd]
    exact congrArg some h1
  · rw [List.getElem?_eq_none (by omega), List.getElem?_eq_none (by omega)]
theorem same_bnd {m : MapD} (h : cstM m = 0) {d : Nat} (hd : d < m.old.length) : bndOne (sameM m) d = (m.at_ d, m.at_ d) := by
  obtain ⟨hc, hcon⟩ := cst_ok h
  have ok := chk_okm hc
  have hl : ∀ i, i < m.ss.length → ownL (sameM m) i = (m.S i).o := fun i hi => by
    unfold ownL sameM
    rw [updM_S hi]; rfl
  have key : ∀ d', d' < m.old.length → partLo (sameM m) (inD (ownL (sameM m)) (d : Int)) d' = (if d' = d then m.at_ d else 0) ∧ partHi (sameM m) (inD (ownL (sameM m)) (d : Int)) d' = (if d' = d then m.at_ d else 0) := by
    intro d' hd'
    obtain ⟨c1, c2⟩ := conM_at hcon hd'
    have hs : ∀ g : Stt → Int, (∀ s, g (sameF s) = g s) → sumO (sameM m) d' (inD (ownL (sameM m)) (d : Int)) g m.ss.length = (if d' = d then sumO m d' tt g m.ss.length else 0) ∧ sumO (sameM m) d' (nt (inD (ownL (sameM m)) (d : Int))) g m.ss.length = (if d' = d then 0 else sumO m d' tt g m.ss.length) := by
      intro g hg
      constructor
      · by_cases e : d' = d
        · rw [if_pos e]
          unfold sumO sameM
          refine sumN_congr fun i hi => ?_
          rw [updM_S hi, hg]
          have h1 := hl i hi
          unfold sameM at h1
          simp only [inD, h1, sameF, tt]
          by_cases e2 : (m.S i).o = (d' : Int)
          · rw [if_pos ⟨e2, by rw [e2, e]; simp⟩, if_pos ⟨e2, trivial⟩]
          · rw [if_neg (fun q => e2 q.1), if_neg (fun q => e2 q.1)]
        · rw [if_neg e]
          unfold sumO sameM
          refine sumN_null fun i hi => ?_
          rw [updM_S hi]
          have h1 := hl i hi
          unfold sameM at h1
          simp only [inD, h1, sameF]
          rw [if_neg]
          rintro ⟨q1, q2⟩
          rw [q1, beq_iff_eq] at q2
          omega
      · by_cases e : d' = d
        · rw [if_pos e]
          unfold sumO sameM
          refine sumN_null fun i hi => ?_
          rw [updM_S hi]
          have h1 := hl i hi
          unfold sameM at h1
          simp only [inD, nt, h1, sameF]
          rw [if_neg]
          rintro ⟨q1, q2⟩
          rw [q1, e] at q2
          simp at q2
        · rw [if_neg e]
          unfold sumO sameM
          refine sumN_congr fun i hi => ?_
          rw [updM_S hi, hg]
          have h1 := hl i hi
          unfold sameM at h1
          simp only [inD, nt, h1, sameF, tt]
          by_cases e2 : (m.S i).o = (d' : Int)
          · have q : (!((m.S i).o == (d : Int))) = true := by
              rw [e2, Bool.not_eq_true', beq_eq_false_iff_ne]
              omega
            rw [if_pos ⟨e2, q⟩, if_pos ⟨e2, trivial⟩]
          · rw [if_neg (fun q => e2 q.1), if_neg (fun q => e2 q.1)]
    unfold partLo partHi
    rw [show (sameM m).ss.length = m.ss.length from updM_len _ _ _, (hs Stt.lo fun _ => rfl).1, (hs Stt.lo fun _ => rfl).2, (hs Stt.hi fun _ => rfl).1, (hs Stt.hi fun _ => rfl).2, show (sameM m).at_ d' = m.at_ d' from rfl]
    have := (ok.atB hd').1
    by_cases e : d' = d
    · subst e
      simp only [if_true]
      omega
    · simp only [if_neg e]
      omega
  have e1 : sizeLo (sameM m) (inD (ownL (sameM m)) (d : Int)) m.old.length = m.at_ d := by
    unfold sizeLo
    rw [sumN_one hd fun i hi hne => by rw [(key i hi).1, if_neg hne], (key d hd).1, if_pos rfl]
  have e2 : sizeHi (sameM m) (inD (ownL (sameM m)) (d : Int)) m.old.length = m.at_ d := by
    unfold sizeHi
    rw [sumN_one hd fun i hi hne => by rw [(key i hi).2, if_neg hne], (key d hd).2, if_pos rfl]
  unfold bndOne
  exact Prod.ext e1 e2
end Go.Proofs.YtlnamjhgbdacbaaGreat
/- Two districts merged: counts and bounds, in plain words. Conditions stand at each theorem. -/
namespace Go.Proofs.YtlnamjhgbdacbaaGreat

/-- district l goes to district k -/
def mrgF (l k : Int) (s : Stt) : Stt := if s.n = l then ⟨s.o, k, s.wt, s.lo, s.hi⟩ else s
def mrgM (m : MapD) (k : Int) : MapD := updM m (m.nw - 1) (mrgF (m.nw - 1) k)
theorem mrgF_f (l k : Int) (s : Stt) : (mrgF l k s).o = s.o ∧ (mrgF l k s).wt = s.wt ∧ (mrgF l k s).lo = s.lo ∧ (mrgF l k s).hi = s.hi := by
  unfold mrgF
  split <;> exact ⟨rfl, rfl, rfl, rfl⟩
theorem mrgF_n (l k : Int) (s : Stt) : (mrgF l k s).n = if s.n = l then k else s.n := by
  unfold mrgF
  split <;> rfl
theorem mrg_cst {m : MapD} {k : Int} (h : cstM m = 0) (h2 : 2 ≤ m.nw) (h0 : 0 ≤ k) (hk : k < m.nw - 1) : cstM (mrgM m k) = 0 := by
  have ok := chk_okm (cst_ok h).1
  have := ok.n4
  refine updM_cst h (by omega) (by omega) (mrgF_f _ _) fun s hs => ?_
  have := ok.stt s hs
  rw [mrgF_n]
  split <;> omega
theorem mrg_car {m : MapD} {k : Int} : car (mrgM m k) = car m := updM_car fun s => ⟨(mrgF_f _ _ s).1, (mrgF_f _ _ s).2.1⟩
theorem mrg_own {m : MapD} {k : Int} {i : Nat} (hi : i < m.ss.length) : ownL (mrgM m k) i = if ownL m i = m.nw - 1 then k else ownL m i := by
  unfold ownL mrgM
  rw [updM_S hi, mrgF_n]
def smQ (m : MapD) (q : Nat) : Int := (smD m (ownL m) (car m)).getD q 0
theorem smQ_eq {m : MapD} (ok : OkM m) {q : Nat} (hq : (q : Int) < m.nw) : smQ m q = sumN (fun i => if ownL m i = (q : Int) then (car m).getD i 0 else 0) m.ss.length := by
  have := smD_get (m := m) (l := ownL m) (xs := car m) (q := q) (by omega) (fun i hi => by
    rw [car_len] at hi
    have := ok.sAt hi
    unfold ownL
    omega)
  rwa [car_len] at this
theorem smD_cnt (m : MapD) (l : Nat → Int) (xs : List Int) : (smD m l xs).length = m.nw.toNat := smTo_len _ _ _ _
theorem smQ_get {m : MapD} {q : Nat} (hq : q < m.nw.toNat) : (smD m (ownL m) (car m))[q]? = some (smQ m q) := by
  unfold smQ
  rw [List.getD_eq_getElem?_getD, List.getElem?_eq_getElem (by rw [smD_cnt]; exact hq)]
  rfl
theorem mrg_c {m : MapD} {k : Int} (h : cstM m = 0) (h2 : 2 ≤ m.nw) (h0 : 0 ≤ k) (hk : k < m.nw - 1) {q : Nat} (hq : (q : Int) < m.nw - 1) (hne : (q : Int) ≠ k) : smQ (mrgM m k) q = smQ m q := by
  rw [smQ_eq (chk_okm (cst_ok (mrg_cst h h2 h0 hk)).1) (show (q : Int) < m.nw - 1 from hq), smQ_eq (chk_okm (cst_ok h).1) (by omega), mrg_car, show (mrgM m k).ss.length = m.ss.length from updM_len _ _ _]
  refine sumN_congr fun i hi => ?_
  rw [mrg_own hi]
  by_cases e : ownL m i = m.nw - 1
  · rw [if_pos e, if_neg (by omega), if_neg (by omega)]
  · rw [if_neg e]
theorem mrg_k {m : MapD} {k : Nat} (h : cstM m = 0) (h2 : 2 ≤ m.nw) (hk : (k : Int) < m.nw - 1) {l : Nat} (hl : (l : Int) = m.nw - 1) : smQ (mrgM m k) k = smQ m k + smQ m l := by
  rw [smQ_eq (chk_okm (cst_ok (mrg_cst h h2 (by omega) hk)).1) (show (k : Int) < m.nw - 1 from hk), smQ_eq (chk_okm (cst_ok h).1) (by omega), smQ_eq (chk_okm (cst_ok h).1) (by omega), mrg_car, show (mrgM m k).ss.length = m.ss.length from updM_len _ _ _, ← sumN_add]
  refine sumN_congr fun i hi => ?_
  rw [mrg_own hi]
  by_cases e : ownL m i = m.nw - 1
  · rw [if_pos e, if_pos rfl, if_neg (by omega), if_pos (by omega)]; omega
  · rw [if_neg e, if_neg (by omega : ¬ ownL m i = (l : Int))]; omega
theorem mrg_sum {m : MapD} {k : Int} {d : Nat} {p q : Nat → Bool} {g : Stt → Int} (hg : ∀ l k s, g (mrgF l k s) = g s) (hp : ∀ i, i < m.ss.length → p i = q i) : sumO (mrgM m k) d p g m.ss.length = sumO m d q g m.ss.length :=
  updM_sum (Nat.le_refl _) (fun s => ⟨(mrgF_f _ _ s).1, hg _ _ s⟩) hp
theorem mrg_b {m : MapD} {k : Int} {q : Nat} (hq : (q : Int) < m.nw - 1) (hne : (q : Int) ≠ k) : bndOne (mrgM m k) q = bndOne m q := by
  have e : ∀ i, i < m.ss.length → inD (ownL (mrgM m k)) (q : Int) i = inD (ownL m) (q : Int) i := fun i hi => by
    simp only [inD]
    rw [mrg_own hi]
    by_cases e : ownL m i = m.nw - 1
    · rw [if_pos e]
      have h1 : (k == (q : Int)) = false := by simp; omega
      have h2 : (ownL m i == (q : Int)) = false := by simp; omega
      rw [h1, h2]
    · rw [if_neg e]
  have e' : ∀ i, i < m.ss.length → nt (inD (ownL (mrgM m k)) (q : Int)) i = nt (inD (ownL m) (q : Int)) i := fun i hi => by simp only [nt]; rw [e i hi]
  unfold bndOne sizeLo sizeHi
  refine Prod.ext (sumN_congr fun d _ => ?_) (sumN_congr fun d _ => ?_)
  · unfold partLo
    rw [show (mrgM m k).ss.length = m.ss.length from updM_len _ _ _, mrg_sum (g := Stt.lo) (fun l k s => (mrgF_f l k s).2.2.1) e, mrg_sum (g := Stt.hi) (fun l k s => (mrgF_f l k s).2.2.2) e']
    rfl
  · unfold partHi
    rw [show (mrgM m k).ss.length = m.ss.length from updM_len _ _ _, mrg_sum (g := Stt.hi) (fun l k s => (mrgF_f l k s).2.2.2) e, mrg_sum (g := Stt.lo) (fun l k s => (mrgF_f l k s).2.2.1) e']
    rfl
theorem mrg_part {m : MapD} {k l : Nat} (h : cstM m = 0) (hk : (k : Int) < m.nw - 1) (hl : (l : Int) = m.nw - 1) {d : Nat} (hd : d < m.old.length) :
    partLo m (inD (ownL m) (k : Int)) d + partLo m (inD (ownL m) (l : Int)) d ≤ partLo (mrgM m k) (inD (ownL (mrgM m k)) (k : Int)) d ∧ partHi (mrgM m k) (inD (ownL (mrgM m k)) (k : Int)) d ≤ partHi m (inD (ownL m) (k : Int)) d + partHi m (inD (ownL m) (l : Int)) d := by
  have ok := chk_okm (cst_ok h).1
  obtain ⟨c1, c2⟩ := conM_at (cst_ok h).2 hd
  have hx : ∀ i, i < m.ss.length → inD (ownL (mrgM m k)) (k : Int) i = (inD (ownL m) (k : Int) i || inD (ownL m) (l : Int) i) := fun i hi => by
    simp only [inD]
    rw [mrg_own hi, ← hl]
    by_cases e : ownL m i = (l : Int)
    · rw [if_pos e]; simp [e]
    · rw [if_neg e, beq_eq_false_iff_ne.2 e, Bool.or_false]
  have s1 : ∀ g : Stt → Int, (∀ l k s, g (mrgF l k s) = g s) → sumO (mrgM m k) d (inD (ownL (mrgM m k)) (k : Int)) g m.ss.length = sumO m d (inD (ownL m) (k : Int)) g m.ss.length + sumO m d (inD (ownL m) (l : Int)) g m.ss.length := fun g hg => by
    rw [mrg_sum hg hx]
    unfold sumO
    rw [← sumN_add]
    refine sumN_congr fun i hi => ?_
    by_cases eo : (m.S i).o = (d : Int)
    · by_cases e1 : ownL m i = (k : Int)
      · have e2 : ownL m i ≠ (l : Int) := by omega
        simp [inD, eo, e1, beq_eq_false_iff_ne.2 (show (k : Int) ≠ (l : Int) by omega)]
      · by_cases e2 : ownL m i = (l : Int)
        · simp [inD, eo, e2, beq_eq_false_iff_ne.2 (show (l : Int) ≠ (k : Int) by omega)]
        · simp [inD, eo, e1, e2]
    · simp [eo]
  have l1 := s1 Stt.lo (fun l k s => (mrgF_f l k s).2.2.1)
  have l2 := s1 Stt.hi (fun l k s => (mrgF_f l k s).2.2.2)
  have t0 : ∀ (p : Nat → Bool) (g : Stt → Int), sumO m d (nt p) g m.ss.length = sumO m d tt g m.ss.length - sumO m d p g m.ss.length := fun p g => by
    have := sumO_split m d p g m.ss.length
    omega
  have tx : ∀ (p : Nat → Bool) (g : Stt → Int), (∀ l k s, g (mrgF l k s) = g s) → sumO (mrgM m k) d (nt p) g m.ss.length = sumO m d tt g m.ss.length - sumO (mrgM m k) d p g m.ss.length := fun p g hg => by
    have h1 := sumO_split (mrgM m k) d p g m.ss.length
    rw [mrg_sum (q := tt) hg fun i _ => rfl] at h1
    omega
  have b : ∀ p : Nat → Bool, sumO m d p Stt.lo m.ss.length ≤ sumO m d p Stt.hi m.ss.length := fun p => sumO_le d p _ fun i hi => (ok.sAt hi).2.2.2.2.2.2.2.1
  have b1 := b (inD (ownL m) (k : Int))
  have b2 := b (inD (ownL m) (l : Int))
  unfold partLo partHi
  rw [show (mrgM m k).ss.length = m.ss.length from updM_len _ _ _, tx _ Stt.lo (fun l k s => (mrgF_f l k s).2.2.1), tx _ Stt.hi (fun l k s => (mrgF_f l k s).2.2.2), l1, l2, t0, t0, t0, t0, show (mrgM m k).at_ d = m.at_ d from rfl]
  generalize sumO m d (inD (ownL m) (k : Int)) Stt.lo m.ss.length = v1 at *
  generalize sumO m d (inD (ownL m) (k : Int)) Stt.hi m.ss.length = v2 at *
  generalize sumO m d (inD (ownL m) (l : Int)) Stt.lo m.ss.length = v3 at *
  generalize sumO m d (inD (ownL m) (l : Int)) Stt.hi m.ss.length = v4 at *
  generalize sumO m d tt Stt.lo m.ss.length = v5 at *
  generalize sumO m d tt Stt.hi m.ss.length = v6 at *
  omega
theorem mrg_bnd {m : MapD} {k l : Nat} (h : cstM m = 0) (hk : (k : Int) < m.nw - 1) (hl : (l : Int) = m.nw - 1) :
    (bndOne m k).1 + (bndOne m l).1 ≤ (bndOne (mrgM m k) k).1 ∧ (bndOne (mrgM m k) k).2 ≤ (bndOne m k).2 + (bndOne m l).2 := by
  unfold bndOne sizeLo sizeHi
  constructor
  · show sumN _ _ + sumN _ _ ≤ sumN _ _
    rw [← sumN_add]
    exact sumN_le fun d hd => (mrg_part h hk hl hd).1
  · show sumN _ _ ≤ sumN _ _ + sumN _ _
    rw [← sumN_add]
    exact sumN_le fun d hd => (mrg_part h hk hl hd).2
end Go.Proofs.YtlnamjhgbdacbaaGreat
