/- All roundings of a table, one after the other: the reference's findings. Conditions stand at each theorem. -/
import Derived.IntWalk
import Derived.Deep.MidRow
import Derived.Deep.DeepCutAuto
import Derived.Maps.AppendAt
import Derived.Test.YtgoianldiomdoaaG11
import Derived.Test.YtgoianldiomdoaaG12
/- The reference's enumeration of all tables of neighbours: its roundings are those of the search, in order. -/
namespace Go.Proofs.Ytgoianldiomdoaa

def cntR (b : Int) : List Int → Nat
  | [] => 0
  | x :: xs => (if 0 < x % b then 1 else 0) + cntR b xs
def cntT (b : Int) : List (List Int) → Nat
  | [] => 0
  | x :: xs => cntR b x + cntT b xs
theorem nthRow_snd {b : Int} : ∀ (xs : List Int) (q : Int), (nthRow b xs q).2 = q / (2 ^ cntR b xs : Int)
  | [], q => by simp [nthRow, cntR]
  | x :: xs, q => by
    simp only [nthRow, cntR, nthRow_snd xs q]
    split
    · rw [Int.ediv_ediv_of_nonneg (Int.pow_nonneg (by decide)), Nat.add_comm, Int.pow_succ]
    · rw [Nat.zero_add]
theorem nthT_snd {b : Int} : ∀ (xs : List (List Int)) (q : Int), (nthT b xs q).2 = q / (2 ^ cntT b xs : Int)
  | [], q => by simp [nthT, cntT]
  | x :: xs, q => by
    simp only [nthT, cntT, nthT_snd xs q, nthRow_snd]
    rw [Int.ediv_ediv_of_nonneg (Int.pow_nonneg (by decide)), Nat.add_comm, Int.pow_add]
theorem high_low {b x : Int} (hb : 2 ≤ b) : highOf b x = lowOf b x + (if 0 < x % b then b else 0) := by
  have h0 := Int.emod_nonneg x (show b ≠ 0 by omega)
  have h1 := Int.emod_lt_of_pos x (show 0 < b by omega)
  rw [← high_as hb]
  unfold lowOf
  split
  · rw [Int.emod_eq_of_lt (by omega) (by omega)]; omega
  · rw [show x % b = 0 by omega, Int.sub_zero, Int.emod_self]; omega
def encRow (b : Int) : List Int → List Int → Int → Int
  | x :: xs, l :: ls, q => encRow b xs ls (if 0 < x % b then 2 * q + (if l = lowOf b x then 0 else 1) else q)
  | _, _, q => q
def encT (b : Int) : List (List Int) → List (List Int) → Int → Int
  | x :: xs, l :: ls, q => encT b xs ls (encRow b x l q)
  | _, _, q => q
theorem enc_row {b : Int} (hb : 2 ≤ b) : ∀ (xs ls : List Int) (q : Int), ls.length = xs.length → (∀ (i : Nat) (x y : Int), xs[i]? = some x → ls[i]? = some y → nearB b y x = true) → 0 ≤ q → nthRow b xs (encRow b xs ls q) = (ls, q) ∧ 0 ≤ encRow b xs ls q
  | [], [], q, _, _, hq => ⟨rfl, hq⟩
  | [], _ :: _, _, hl, _, _ => by simp at hl
  | _ :: _, [], _, hl, _, _ => by simp at hl
  | x :: xs, l :: ls, q, hl, hn, hq => by
    have hx := hn 0 x l rfl rfl
    have h0 := Int.emod_nonneg x (show b ≠ 0 by omega)
    have hq' : 0 ≤ (if 0 < x % b then 2 * q + (if l = lowOf b x then 0 else 1) else q) := by
      split
      · split <;> omega
      · exact hq
    obtain ⟨ih, ih2⟩ := enc_row hb xs ls (if 0 < x % b then 2 * q + (if l = lowOf b x then 0 else 1) else q) (by simpa using hl) (fun i x' y' h1 h2 => hn (i + 1) x' y' h1 h2) hq'
    refine ⟨?_, ih2⟩
    simp only [nthRow, encRow, ih]
    unfold nearB at hx
    simp only [Bool.or_eq_true, beq_iff_eq] at hx
    have hh := high_low (x := x) hb
    by_cases hp : 0 < x % b
    · simp only [if_pos hp] at hh ⊢
      by_cases hlow : l = lowOf b x
      · rw [if_pos hlow]
        rw [show (2 * q + 0) % 2 = 0 by omega, show (2 * q + 0) / 2 = q by omega, hlow]; simp
      · rw [if_neg hlow]
        rw [show (2 * q + 1) % 2 = 1 by omega, show (2 * q + 1) / 2 = q by omega]
        rcases hx with hx | hx
        · exact absurd hx.symm hlow
        · rw [hh] at hx
          rw [← hx, Int.one_mul]
    · simp only [if_neg hp] at hh ⊢
      rcases hx with hx | hx
      · rw [← hx]; simp
      · rw [hh] at hx; rw [← hx]
theorem enc_tab {b : Int} (hb : 2 ≤ b) : ∀ (xs ls : List (List Int)) (q : Int), ls.length = xs.length → (∀ (r : Nat) (x y : List Int), xs[r]? = some x → ls[r]? = some y → y.length = x.length ∧ ∀ (i : Nat) (u v : Int), x[i]? = some u → y[i]? = some v → nearB b v u = true) → 0 ≤ q → nthT b xs (encT b xs ls q) = (ls, q) ∧ 0 ≤ encT b xs ls q
  | [], [], q, _, _, hq => ⟨rfl, hq⟩
  | [], _ :: _, _, hl, _, _ => by simp at hl
  | _ :: _, [], _, hl, _, _ => by simp at hl
  | x :: xs, l :: ls, q, hl, hn, hq => by
    obtain ⟨h1, h2⟩ := hn 0 x l rfl rfl
    obtain ⟨k1, k2⟩ := enc_row hb x l q h1 h2 hq
    obtain ⟨ih, ih2⟩ := enc_tab hb xs ls (encRow b x l q) (by simpa using hl) (fun r x' y' h1 h2 => hn (r + 1) x' y' h1 h2) k2
    refine ⟨?_, ih2⟩
    simp only [nthT, encT, ih, k1]
theorem nthRow_lt {b : Int} (hb : 2 ≤ b) : ∀ (xs : List Int) (q q' : Int), q < q' → (nthRow b xs q).2 ≤ (nthRow b xs q').2 ∧ ((nthRow b xs q).2 = (nthRow b xs q').2 → ltL (nthRow b xs q).1 (nthRow b xs q').1 = true)
  | [], q, q', h => ⟨by simp only [nthRow]; omega, fun e => by simp only [nthRow] at e; omega⟩
  | x :: xs, q, q', h => by
    obtain ⟨ih1, ih2⟩ := nthRow_lt hb xs q q' h
    simp only [nthRow]
    generalize (nthRow b xs q).2 = p at *
    generalize (nthRow b xs q').2 = p' at *
    by_cases hp : 0 < x % b
    · simp only [if_pos hp]
      refine ⟨by omega, fun e => ?_⟩
      by_cases he : p = p'
      · subst he; simp [ltL, ih2 rfl]
      · rw [show p % 2 = 0 by omega, show p' % 2 = 1 by omega]
        simp only [ltL, Bool.or_eq_true, decide_eq_true_eq]
        left; omega
    · simp only [if_neg hp]
      exact ⟨ih1, fun e => by subst e; simp [ltL, ih2 rfl]⟩
theorem nthT_lt {b : Int} (hb : 2 ≤ b) : ∀ (xs : List (List Int)) (q q' : Int), q < q' → (nthT b xs q).2 ≤ (nthT b xs q').2 ∧ ((nthT b xs q).2 = (nthT b xs q').2 → ltT (nthT b xs q).1 (nthT b xs q').1 = true)
  | [], q, q', h => ⟨by simp only [nthT]; omega, fun e => by simp only [nthT] at e; omega⟩
  | x :: xs, q, q', h => by
    obtain ⟨ih1, ih2⟩ := nthT_lt hb xs q q' h
    simp only [nthT]
    generalize (nthT b xs q).2 = p at *
    generalize (nthT b xs q').2 = p' at *
    by_cases he : p = p'
    · subst he
      exact ⟨Int.le_refl _, fun _ => by simp [ltT, ih2 rfl]⟩
    · obtain ⟨k1, k2⟩ := nthRow_lt hb x p p' (by omega)
      exact ⟨k1, fun e => by simp [ltT, k2 e]⟩

theorem sorted_ext {α : Type} {r : α → α → Prop} (irr : ∀ a, ¬ r a a) (asy : ∀ a b, r a b → ¬ r b a) : ∀ {L R : List α}, L.Pairwise r → R.Pairwise r → (∀ x, x ∈ L ↔ x ∈ R) → L = R
  | [], [], _, _, _ => rfl
  | [], y :: R, _, _, h => by have := (h y).2 (by simp); simp at this
  | x :: L, [], _, _, h => by have := (h x).1 (by simp); simp at this
  | x :: L, y :: R, hL, hR, h => by
    obtain ⟨l1, l2⟩ := List.pairwise_cons.1 hL
    obtain ⟨r1, r2⟩ := List.pairwise_cons.1 hR
    have hxy : x = y := by
      have h1 := (h x).1 (by simp)
      have h2 := (h y).2 (by simp)
      rcases List.mem_cons.1 h1 with e | h1
      · exact e
      · rcases List.mem_cons.1 h2 with e | h2
        · exact e.symm
        · exact absurd (r1 x h1) (asy _ _ (l1 y h2))
    subst hxy
    congr 1
    refine sorted_ext irr asy l2 r2 fun z => ⟨fun hz => ?_, fun hz => ?_⟩
    · rcases List.mem_cons.1 ((h z).1 (by simp [hz])) with e | h3
      · subst e; exact absurd (l1 _ hz) (irr _)
      · exact h3
    · rcases List.mem_cons.1 ((h z).2 (by simp [hz])) with e | h3
      · subst e; exact absurd (r1 _ hz) (irr _)
      · exact h3

section
variable {b : Int} {cs : List (List Int)} {fs : List Fx}
/-- the roundings among the first tables -/
def rndTo (b : Int) (cs : List (List Int)) (fs : List Fx) (q : Nat) : List (List (List Int)) := ((List.range q).map fun (i : Nat) => (nthT b cs (i : Int)).1).filter fun x => isrB b cs fs x
theorem rndTo_succ (q : Nat) : rndTo b cs fs (q + 1) = rndTo b cs fs q ++ if isrB b cs fs (nthT b cs (q : Int)).1 then [(nthT b cs (q : Int)).1] else [] := by
  unfold rndTo
  rw [List.range_succ, List.map_append, List.filter_append]
  simp [List.filter_cons]
theorem nthRow_near (hb : 2 ≤ b) : ∀ (xs : List Int) (q : Int) (i : Nat) (x y : Int), xs[i]? = some x → (nthRow b xs q).1[i]? = some y → nearB b y x = true
  | [], _, _, _, _, h, _ => by simp at h
  | x :: xs, q, 0, x', y, h, hy => by
    have hh := high_low (x := x) hb
    simp only [nthRow, List.getElem?_cons_zero, Option.some.injEq] at h hy
    subst h hy
    unfold nearB
    simp only [Bool.or_eq_true, beq_iff_eq]
    rw [hh]
    by_cases hp : 0 < x % b
    · simp only [if_pos hp]
      rcases (by omega : (nthRow b xs q).2 % 2 = 0 ∨ (nthRow b xs q).2 % 2 = 1) with e | e
      · left; rw [e]; simp
      · right; rw [e]; simp
    · simp only [if_neg hp]
      left; simp
  | x :: xs, q, i + 1, x', y, h, hy => by
    simp only [nthRow, List.getElem?_cons_succ] at h hy
    exact nthRow_near hb xs q i x' y h hy
theorem nth_alike (hc : chkE b cs fs = 0) (q : Int) : alikeB cs.length (colsOf cs) (nthT b cs q).1 = true := by
  have ok := chk_ok hc
  have hb := ok.okc.b1
  unfold alikeB
  rw [nthT_len, Bool.and_eq_true]
  refine ⟨by simp, List.all_eq_true.2 fun r hr => ?_⟩
  obtain ⟨i, hi, e⟩ := List.mem_iff_getElem.1 hr
  rw [nthT_len] at hi
  have hx := List.getElem?_eq_getElem (l := cs) (i := i) hi
  have hy := (nthT_at (b := b) (q := q) hx).1
  have hr' : r = (nthRow b cs[i] (nthT b (cs.drop (i + 1)) q).2).1 := by
    rw [List.getElem?_eq_getElem (by rw [nthT_len]; exact hi), e] at hy
    injection hy
  have hm : cs[i] ∈ cs := List.getElem_mem hi
  unfold rowB
  rw [hr', nthRow_len, ok.okc.row _ hm, Bool.and_eq_true]
  refine ⟨by simp, List.all_eq_true.2 fun v hv => ?_⟩
  obtain ⟨j, hj, ej⟩ := List.mem_iff_getElem.1 hv
  have hj2 := hj
  rw [nthRow_len] at hj2
  have hn := nthRow_near hb cs[i] (nthT b (cs.drop (i + 1)) q).2 j _ v (List.getElem?_eq_getElem hj2) (by rw [List.getElem?_eq_getElem hj, ej])
  have hcb := ok.okc.cell _ hm _ (List.getElem_mem hj2)
  have h1 := lowOf_bound hb hcb.1
  have h2 := high_near (x := cs[i][j]) hb
  have hb2 := ok.okc.b2
  have h3 := low_le (x := cs[i][j]) hb
  unfold nearB at hn
  simp only [Bool.or_eq_true, beq_iff_eq] at hn
  simp only [withinB, Bool.and_eq_true, decide_eq_true_eq]
  rcases hn with hn | hn <;> omega
theorem rnds_all (hc : chkE b cs fs = 0) : rndTo b cs fs (2 ^ cntT b cs) = rnds b cs fs cs.length zeroS := by
  have ok := chk_ok hc
  have hb := ok.okc.b1
  have hz : ∀ (q : Nat), q < 2 ^ cntT b cs → (nthT b cs (q : Int)).2 = 0 := fun q hq => by
    rw [nthT_snd]
    exact Int.ediv_eq_zero_of_lt (by omega) (by exact_mod_cast hq)
  refine sorted_ext (r := fun a c => ltT a c = true) (fun a h => by rw [ltT_irrefl] at h; cases h) (fun a c h h' => by rw [ltT_asymm h] at h'; cases h') ?_ (rnds_sorted hb cs fs _ _) fun x => ?_
  · refine List.Pairwise.filter _ (List.pairwise_map.2 ?_)
    refine List.Pairwise.imp_of_mem ?_ (List.pairwise_lt_range (n := 2 ^ cntT b cs))
    intro q q' h1 h2 hlt
    exact (nthT_lt hb cs q q' (by omega)).2 (by rw [hz q (List.mem_range.1 h1), hz q' (List.mem_range.1 h2)])
  · rw [rnds_isR]
    unfold rndTo
    rw [List.mem_filter, List.mem_map]
    constructor
    · rintro ⟨⟨q, _, rfl⟩, h⟩
      exact (isr_iff hc (nth_alike hc _)).1 h
    · intro h
      refine ⟨?_, (isr_iff hc (h.alike ok)).2 h⟩
      obtain ⟨e1, e2⟩ := enc_tab hb cs x 0 h.len (fun r u v hu hv => cands_mem.1 (h.row r u v hu hv).1) (Int.le_refl _)
      obtain ⟨q, hq⟩ := Int.eq_ofNat_of_zero_le e2
      rw [hq] at e1
      refine ⟨q, ?_, by rw [e1]⟩
      have h2 := nthT_snd (b := b) cs (q : Int)
      rw [e1] at h2
      rw [List.mem_range]
      apply Decidable.byContradiction
      intro hn
      have h3 : (1 : Int) ≤ (q : Int) / (2 ^ cntT b cs : Int) := by
        rw [Int.le_ediv_iff_mul_le (Int.pow_pos (by decide))]
        rw [Int.one_mul]
        exact_mod_cast Nat.le_of_not_lt hn
      simp only at h2
      omega
end
end Go.Proofs.Ytgoianldiomdoaa
/- The reference's count of cells that are no multiples. -/
namespace Go.Proofs.Ytgoianldiomdoaa
open Go.RowKit Go.Shelf

theorem cntR_le {b : Int} : ∀ (xs : List Int), cntR b xs ≤ xs.length
  | [] => Nat.le_refl _
  | x :: xs => by
    have := cntR_le (b := b) xs
    simp only [cntR, List.length_cons]
    split <;> omega
theorem cntR_take {b : Int} : ∀ {xs : List Int} {j : Nat} {x : Int}, xs[j]? = some x → cntR b (xs.take (j + 1)) = cntR b (xs.take j) + (if 0 < x % b then 1 else 0)
  | [], _, _, h => by simp at h
  | y :: xs, 0, x, h => by
    simp at h; subst h
    simp [cntR]
  | y :: xs, j + 1, x, h => by
    simp only [List.getElem?_cons_succ] at h
    have := cntR_take (b := b) h
    simp only [List.take_succ_cons, cntR, this]
    omega
theorem cntT_take {b : Int} : ∀ {cs : List (List Int)} {k : Nat} {xs : List Int}, cs[k]? = some xs → cntT b (cs.take (k + 1)) = cntT b (cs.take k) + cntR b xs
  | [], _, _, h => by simp at h
  | y :: cs, 0, x, h => by
    simp at h; subst h
    simp [cntT]
  | y :: cs, j + 1, x, h => by
    simp only [List.getElem?_cons_succ] at h
    have := cntT_take (b := b) h
    simp only [List.take_succ_cons, cntT, this]
    omega
theorem cntT_le {b : Int} {M : Nat} : ∀ {cs : List (List Int)}, (∀ xs ∈ cs, xs.length ≤ M) → cntT b cs ≤ cs.length * M
  | [], _ => Nat.zero_le _
  | x :: cs, h => by
    have h1 := cntT_le (b := b) (cs := cs) fun xs hx => h xs (by simp [hx])
    have h2 := cntR_le (b := b) x
    have h3 := h x (by simp)
    simp only [cntT, List.length_cons, Nat.add_mul]
    omega
theorem cntT_take_le {b : Int} {cs : List (List Int)} (ok : Okc b cs) (k : Nat) : cntT b (cs.take k) ≤ 25 := by
  have h := cntT_le (b := b) (M := 5) (cs := cs.take k) fun xs hx => by
    have := ok.row xs (List.mem_of_mem_take hx)
    have := ok.c2
    omega
  have := ok.n2
  rw [List.length_take] at h
  omega

set_option maxRecDepth 100000 in
set_option maxHeartbeats 4000000 in
theorem free_any (b : Int) (A : Option Addr) (c : Nat) (cs : List (List Int)) (A2 : Option Addr) (c2 : Nat) (fs : List Fx) (w : World) (h : TIn A c cs A2 c2 fs w) (ok : Okc b cs) :
    Calls Try.prog 45 #[.agg #[.int .i64 b, .slice A cs.length c, .slice A2 fs.length c2]] w fun e w' => e = .returned (.int .i64 (cntT b cs : Int)) ∧ Below w.heap.size w w' := by
  have hB := below_box (w := w) #[.int .i64 b, .slice A cs.length c, .slice A2 fs.length c2] 25
  have hT := Blk.new w 25 #[.int .i64 b, .slice A cs.length c, .slice A2 fs.length c2]
  have HB := hid hB
  have HT := hid hT
  have HH := hid h
  have OK := hid ok
  have HTL := hid (fun k => cntT_take_le (b := b) ok k)
  have hb1 := ok.b1
  have hb2 := ok.b2
  have hn5 := ok.n2
  have hn1 := ok.n1
  have hc4 := ok.c2
  have hm1 := h.m1
  have hl1 := h.l1
  unfold maxLen at hm1
  have hb00 : ¬ b = 0 := by omega
  obtain ⟨t0, t1, t2⟩ := hT.c3
  clear h hB hT ok
  go_enter Try.func45, Try.ntmps45
  go_wp2
  clear t0 t1 t2
  go_loopw [3, 4] (fun t i W => ∃ k : Nat, k ≤ cs.length ∧ i = .int .i64 k ∧ t = .int .i64 (cntT b (cs.take k) : Int) ∧ Below (w.alloc (.cells #[.int .i64 b, .slice A cs.length c, .slice A2 fs.length c2] 25)).heap.size (w.alloc (.cells #[.int .i64 b, .slice A cs.length c, .slice A2 fs.length c2] 25)) W) (fun _ i _ => cs.length - (intOf i).toNat)
  case atStart => exact ⟨0, Nat.zero_le _, rfl, rfl, Below.refl _ _⟩
  case round =>
    obtain ⟨k, hk, rfl, rfl, hbr⟩ := hrel
    have hbw := HB.out.trans (hbr.mono HB.out.size)
    obtain ⟨t0, t1, t2⟩ := (HT.out.keep hbr).c3
    by_cases hlt : k < cs.length
    · have hkI : (k : Int) < (cs.length : Int) := by omega
      obtain ⟨xs, hxs⟩ : ∃ xs, cs[k]? = some xs := ⟨_, List.getElem?_eq_getElem hlt⟩
      have hrow := OK.out.row xs (List.mem_of_getElem? hxs)
      have HST := hid (cntT_take (b := b) hxs)
      have HXS := hid hxs
      have HBR := hid hbr
      have HCB := hid (OK.out.cell xs (List.mem_of_getElem? hxs))
      have hk25 := HTL.out k
      obtain ⟨z, hz⟩ : ∃ z, cntT b (cs.take k) = z := ⟨_, rfl⟩
      rw [hz] at hk25 HST
      rw [hz]
      clear hz hxs hbr hbw
      go_wp2
      clear t0 t1 t2
      go_loopw [3, 5] (fun t i W => ∃ j : Nat, j ≤ xs.length ∧ i = .int .i64 j ∧ t = .int .i64 ((z + cntR b (xs.take j) : Nat) : Int) ∧ Below (w.alloc (.cells #[.int .i64 b, .slice A cs.length c, .slice A2 fs.length c2] 25)).heap.size (w.alloc (.cells #[.int .i64 b, .slice A cs.length c, .slice A2 fs.length c2] 25)) W) (fun _ i _ => xs.length - (intOf i).toNat)
      case atStart => exact ⟨0, Nat.zero_le _, rfl, rfl, HBR.out⟩
      case round =>
        obtain ⟨j, hj, rfl, rfl, hbj⟩ := hrel
        have hbw := HB.out.trans (hbj.mono HB.out.size)
        obtain ⟨t0, t1, t2⟩ := (HT.out.keep hbj).c3
        obtain ⟨a, A1, c1, rfl, p1, p2, p3, p4, p5⟩ := (HH.out.at_ hbw).ic k xs HXS.out
        unfold maxLen at p4
        have HBJ := hid hbj
        have hle := cntR_le (b := b) (xs.take j)
        rw [List.length_take] at hle
        by_cases hlj : j < xs.length
        · have hjI : (j : Int) < (xs.length : Int) := by omega
          obtain ⟨x, hx⟩ : ∃ x, xs[j]? = some x := ⟨_, List.getElem?_eq_getElem hlj⟩
          obtain ⟨ax, rfl, u1, u2⟩ := p5 j x hx
          obtain ⟨hx1, hx2⟩ := HCB.out x (List.mem_of_getElem? hx)
          have HSJ := hid (cntR_take (b := b) hx)
          obtain ⟨y, hy⟩ : ∃ y, cntR b (xs.take j) = y := ⟨_, rfl⟩
          rw [hy] at hle HSJ
          rw [hy]
          have h0 := Int.emod_nonneg x hb00
          have h1 := Int.emod_lt_of_pos x (show 0 < b by omega)
          obtain ⟨u, hu⟩ : ∃ u, x % b = u := ⟨_, rfl⟩
          rw [hu] at h0 h1 HSJ
          have htm : x.tmod b = u := by rw [Int.tmod_eq_emod_of_nonneg hx1]; exact hu
          have hwu : IntKind.i64.wrap u = u := IntWalk.i64_in _ (by omega)
          clear hx hy hu hbj hbw p5
          have s1 := xt_cell p2
          have s2 := xt_cell u2
          obtain ⟨x0, x1, x2⟩ := xt_c3 (HT.out.keep HBJ.out)
          go_wp2
          clear t0 t1 t2 p2 u2
          by_cases hp : 0 < u
          · rw [if_pos hp] at HSJ
            refine wp_region_quiet_xt (by kernel_rfl) (by kernel_rfl) ?_
            repeat (go_big_quiet_step (fail))
            refine wpQuiet_nil ?_
            intro W3 hw3
            replace hw3 := of_xt hw3
            have HW3 := hid hw3
            clear hw3 s1 s2 x0 x1 x2
            go_wp2
            go_roundw
            case rel => exact ⟨j + 1, by omega, by go_num, by rw [HSJ.out]; go_num, HBJ.out.trans (HW3.out.mono HBJ.out.size)⟩
            case measure => first | (simp [intOf]; done) | (simp [intOf]; omega)
          · rw [if_neg hp] at HSJ
            have hpd : decide (0 < u) = false := by simp; omega
            refine wp_region_quiet_xt (by kernel_rfl) (by kernel_rfl) ?_
            repeat (go_big_quiet_step (fail))
            refine wpQuiet_nil ?_
            intro W3 hw3
            replace hw3 := of_xt hw3
            have HW3 := hid hw3
            clear hw3 s1 s2 x0 x1 x2
            go_wp2
            go_roundw
            case rel => exact ⟨j + 1, by omega, by go_num, by rw [HSJ.out]; rfl, HBJ.out.trans (HW3.out.mono HBJ.out.size)⟩
            case measure => first | (simp [intOf]; done) | (simp [intOf]; omega)
        · have hjI : decide ((j : Int) < (xs.length : Int)) = false := by simp; omega
          obtain rfl : j = xs.length := by omega
          clear p5 hbj hbw
          go_wp2
          go_roundw
          case rel => exact ⟨k + 1, by omega, by go_num, by rw [HST.out, List.take_length], HBJ.out⟩
          case measure => first | (simp [intOf]; done) | (simp [intOf]; omega)
    · have hkI : decide ((k : Int) < (cs.length : Int)) = false := by simp; omega
      obtain rfl : k = cs.length := by omega
      have HBJ := hid hbw
      clear hbr hbw
      go_wp2
      go_ret
      exact ⟨by rw [List.take_length]; rfl, HBJ.out⟩
end Go.Proofs.Ytgoianldiomdoaa
/- The reference's table of neighbours with a number, the blocks named. -/
namespace Go.Proofs.Ytgoianldiomdoaa
open Go.RowKit Go.Shelf
def GivesNthB (b : Int) (cs : List (List Int)) (q : Int) (w : World) (e : Ending) (w' : World) : Prop :=
  ∃ go Rr, e = .returned (.slice (some ⟨go, 0, none⟩) cs.length cs.length) ∧ IsRows w' w'.heap.size (some ⟨go, 0, none⟩) (nthT b cs q).1 ∧ NthI cs (nthT b cs q).1 go Rr 0 w w'
set_option maxRecDepth 100000 in
set_option maxHeartbeats 4000000 in
theorem nth_blk (b : Int) (A : Option Addr) (c : Nat) (cs : List (List Int)) (A2 : Option Addr) (c2 : Nat) (fs : List Fx) (q : Int) (w : World) (h : TIn A c cs A2 c2 fs w) (ok : Okc b cs) (hq : 0 ≤ q) (hq2 : q ≤ 4294967295) :
    Calls Try.prog 57 #[.agg #[.int .i64 b, .slice A cs.length c, .slice A2 fs.length c2], .int .i64 q] w (GivesNthB b cs q w) := by
  have hB := below_box (w := w) #[.int .i64 b, .slice A cs.length c, .slice A2 fs.length c2] 25
  have hT := Blk.new w 25 #[.int .i64 b, .slice A cs.length c, .slice A2 fs.length c2]
  have HB := hid hB
  have HT := hid hT
  have HH := hid h
  have OK := hid ok
  have hb1 := ok.b1
  have hb2 := ok.b2
  have hn5 := ok.n2
  have hn1 := ok.n1
  have hc4 := ok.c2
  have hm1 := h.m1
  have hl1 := h.l1
  unfold maxLen at hm1
  have hk1 := run_make_row' (P := Try.prog) 22 56 (.slice none 0 0) 24 Try.underlying22 rows_info rfl .i64 .i64 cs.length (by omega) (by omega)
  obtain ⟨t0, t1, t2⟩ := hT.c3
  clear h hB hT ok
  go_enter Try.func57, Try.ntmps57
  obtain ⟨T, hTT⟩ : ∃ T, T = (nthT b cs q).1 := ⟨_, rfl⟩
  have HTT := hid hTT
  have htl : T.length = cs.length := by rw [hTT, nthT_len]
  have HTL := hid htl
  clear hTT htl
  go_wp2
  clear t0 t1 t2 hk1
  refine gen (p := Code.wp _ _ _ _) (fun W => NthI cs T (w.heap.size + 1) (fun _ => 0) cs.length w W ∧ Blk W w.heap.size 25 #[.int .i64 b, .slice A cs.length c, .slice A2 fs.length c2]) ?_ ?_
  · have k1 := Blk.new (w.alloc (.cells #[.int .i64 b, .slice A cs.length c, .slice A2 fs.length c2] 25)) 56 (madeCells #[.slice none 0 0] cs.length)
    rw [World.size_alloc] at k1
    refine ⟨⟨?_, fun i xs hi hx => ?_, by omega, HB.out.alloc HB.out.size _⟩, HT.out.alloc _⟩
    · have e : madeCells #[Value.slice none 0 0] cs.length = rowsC cs.length (outV cs (fun _ => 0) cs.length) := by
        apply Array.ext
        · rw [size_madeCells]; simp [rowsC]
        · intro i h1 h2
          have hi : i < cs.length := by simpa [rowsC] using h2
          simp [rowsC, madeCells, outV, hi, Nat.mod_one]
      rw [← e]; exact k1
    · have := (List.getElem?_eq_some_iff.1 hx).1
      have := HTL.out
      omega
  rintro W1 ⟨hI, hT1⟩
  have HI := hid hI
  have HT1 := hid hT1
  clear hI hT1
  obtain ⟨go, hgo⟩ : ∃ go, go = w.heap.size + 1 := ⟨_, rfl⟩
  rw [← hgo] at HI
  rw [← hgo]
  have hgo1 : go ≠ w.heap.size := by omega
  have hgo2 : w.heap.size ≤ go := by omega
  have HGO := hid hgo1
  clear hgo hgo1
  go_loopw [6, 1] (fun i t wr => ∃ (k : Nat) (Rr : Nat → Nat) (z : Int), z = (k : Int) - 1 ∧ k ≤ cs.length ∧ i = .int .i64 z ∧ t = .int .i64 (nthT b (cs.drop k) q).2 ∧ NthI cs T go Rr k w wr ∧ Blk wr w.heap.size 25 #[.int .i64 b, .slice A cs.length c, .slice A2 fs.length c2]) (fun i _ _ => ((intOf i) + 1).toNat)
  case atStart => exact ⟨cs.length, _, _, rfl, Nat.le_refl _, rfl, by rw [List.drop_length]; rfl, HI.out, HT1.out⟩
  case round =>
    obtain ⟨k, Rr, z, hz, hk, rfl, rfl, hi, hT2⟩ := hrel
    clear HI HT1
    have HI := hid hi
    have HT2 := hid hT2
    clear hi
    cases k with
    | zero =>
      obtain rfl : z = -1 := by omega
      have hfin := hid (show GivesNthB b cs q w (.returned (.slice (some ⟨go, 0, none⟩) cs.length cs.length)) wr by
        have hi := HI.out
        refine ⟨go, Rr, rfl, fun r xs hx => ?_, by rw [← HTT.out]; exact hi⟩
        rw [← HTT.out] at hx
        have hr := (List.getElem?_eq_some_iff.1 hx).1
        have hrc : r < cs.length := by have := HTL.out; omega
        obtain ⟨hb, hbs⟩ := hi.rows r xs (Nat.zero_le _) hx
        have hlen : xs.length = (cs.getD r []).length := by
          have hy := List.getElem?_eq_getElem hrc
          have := (nthT_at (b := b) (q := q) hy).1
          rw [← HTT.out, hx] at this
          injection this with this
          rw [this, nthRow_len, List.getD, hy]; rfl
        have e := hi.out.cell r
        rw [rowsC_get hrc] at e
        unfold outV at e
        rw [if_neg (by omega), ← hlen] at e
        refine ⟨_, some ⟨Rr r, 0, none⟩, xs.length, rfl, hi.out.lt, ?_, Nat.le_refl _, ?_, fun j x hj => ⟨_, rfl, hb.lt, ?_⟩⟩
        · rw [show (⟨go, 0, none⟩ : Addr).add r = ⟨go, r, none⟩ by unfold Addr.add; split <;> simp_all]; exact e
        · have := OK.out.c2
          have hy := List.getElem?_eq_getElem hrc
          have := OK.out.row _ (List.mem_of_getElem? hy)
          rw [hlen, List.getD, hy]
          unfold maxLen
          simp only [Option.getD_some]
          omega
        · have hjl := (List.getElem?_eq_some_iff.1 hj).1
          rw [show (⟨Rr r, 0, none⟩ : Addr).add j = ⟨Rr r, j, none⟩ by unfold Addr.add; split <;> simp_all, hb.cell, cellsF_get hjl]
          unfold partF
          rw [if_neg (by omega), List.getD, hj]; rfl)
      clear hz
      go_wp2
      go_ret
      exact hfin.out
    | succ k =>
      obtain rfl : z = (k : Int) := by omega
      have hkc : (k : Int) < (cs.length : Int) := by omega
      have hkn : k < cs.length := by omega
      obtain ⟨xs, hxs⟩ : ∃ xs, cs[k]? = some xs := ⟨_, List.getElem?_eq_getElem hkn⟩
      have hxl := OK.out.row xs (List.mem_of_getElem? hxs)
      have hgx : cs.getD k [] = xs := by rw [List.getD, hxs]; rfl
      obtain ⟨a, A1, c1, rfl, p1, p2, p3, p4, p5⟩ := (HH.out.at_ HI.out.below).ic k xs hxs
      obtain ⟨t0, t1, t2⟩ := hT2.c3
      obtain ⟨q1, hq1⟩ : ∃ q1, q1 = (nthT b (cs.drop (k + 1)) q).2 := ⟨_, rfl⟩
      have hqn := nthT_nn b (cs.drop (k + 1)) q hq
      rw [← hq1] at hqn
      rw [← hq1]
      have HQ1 := hid hq1
      have HXS := hid (And.intro hxs (And.intro hxl hgx))
      have hx4 : xs.length ≤ 4 := by omega
      have hk2 := run_make_row' (P := Try.prog) 56 3 (.int .i64 0) 8 Try.underlying56 int_info rfl .i64 .i64 xs.length (by omega) (by omega)
      obtain ⟨R, hR⟩ : ∃ R, R = (nthRow b xs q1).1 := ⟨_, rfl⟩
      have hRl : R.length = xs.length := by rw [hR, nthRow_len]
      have HR := hid hR
      have HRL := hid hRl
      have hgl := HI.out.out.lt
      have hgf := HI.out.out.frozen k
      have hgf2 : ∀ o, (wr.alloc o).frozen? ⟨go, k, none⟩ = false := fun o => (HI.out.out.alloc o).frozen k
      have hgc : wr.cell? ⟨go, k, none⟩ = some (.slice none 0 0) := by
        rw [HI.out.out.cell, rowsC_get hkn]; unfold outV; rw [if_pos (by omega)]
      have hgc2 : ∀ o, (wr.alloc o).cell? ⟨go, k, none⟩ = some (.slice none 0 0) := fun o => by
        rw [(HI.out.out.alloc o).cell, rowsC_get hkn]; unfold outV; rw [if_pos (by omega)]
      have hgl2 : go < wr.heap.size + 1 := by omega
      have hqn1 := hqn.1
      have hqn2 := hqn.2
      unfold maxLen at p4
      clear hxs hxl hgx hq1 hR hRl hqn p5 hz hT2
      go_upto_region 6 with (fail)
      clear t0 t1 t2 p2 hgc hgc2 hgf hgf2 hk2
      obtain ⟨Rr', hRr'⟩ : ∃ Rr' : Nat → Nat, Rr' = fun i => if i = k then wr.heap.size else Rr i := ⟨_, rfl⟩
      refine gen (p := Code.wp _ _ _ _) (fun W => NthJ cs T R go Rr' k (partF R xs.length) w W ∧ Blk W w.heap.size 25 #[.int .i64 b, .slice (some a) cs.length c, .slice A2 fs.length c2]) ?_ ?_
      · have hi := HI.out
        have hk' : Rr' k = wr.heap.size := by rw [hRr']; simp
        have hko : ∀ i, i ≠ k → Rr' i = Rr i := fun i hi => by rw [hRr']; simp [hi]
        have hs : wr.heap.size = (wr.setCell ⟨go, k, none⟩ (.slice (some ⟨wr.heap.size, 0, none⟩) xs.length xs.length)).heap.size := by simp
        refine ⟨⟨?_, ?_, ?_, fun i ys hi2 hy => ?_, hgo2, ?_⟩, ?_⟩
        · have e : (rowsC cs.length (outV cs Rr (k + 1))).setIfInBounds k (.slice (some ⟨wr.heap.size, 0, none⟩) xs.length xs.length) = rowsC cs.length (outV cs Rr' k) := by
            refine rowsC_set (f' := outV cs Rr' k) ?_ fun i _ hik => ?_
            · unfold outV; rw [if_neg (by omega), hk', HXS.out.2.2]
            · unfold outV
              by_cases h1 : i < k
              · rw [if_pos h1, if_pos (by omega)]
              · rw [if_neg h1, if_neg (by omega), hko i hik]
          rw [← e]
          exact (hi.out.set_ k _).alloc _
        · rw [hk', HRL.out]
          have := Blk.new (wr.setCell ⟨go, k, none⟩ (.slice (some ⟨wr.heap.size, 0, none⟩) xs.length xs.length)) 3 (madeCells #[.int .i64 0] xs.length)
          rw [← hs] at this
          rw [cellsF_ext (F := fun _ => 0) (fun i hi => by unfold partF; rw [if_pos hi]), ← cellsF_zero]
          exact this
        · rw [hk']; exact hi.below.size
        · obtain ⟨h1, h2⟩ := hi.rows i ys hi2 hy
          rw [hko i (by omega), hk']
          exact ⟨(h1.far (p := ⟨go, k, none⟩) (fun e => by
            have := hi.out
            rw [← show Rr i = go from e] at this
            exact Blk.ne_ h1 this (by decide) rfl) _).alloc _, h2, by have := h1.lt; omega⟩
        · exact (hi.below.setCell (p := ⟨go, k, none⟩) hgo2 _).alloc (by rw [← hs]; exact hi.below.size) _
        · exact (HT2.out.far (p := ⟨go, k, none⟩) (fun e => HGO.out e.symm) _).alloc _
      rintro W1 ⟨hJ, hT3⟩
      have HJ := hid hJ
      have HT3 := hid hT3
      obtain ⟨t0, t1, t2⟩ := hT3.c3
      have p2 := (((HH.out.at_ HJ.out.below).ic k xs HXS.out.1))
      obtain ⟨a9, A9, c9, he, r1, r2, r3, r4, r5⟩ := p2
      injection he with he
      subst he
      unfold maxLen at r4
      clear hJ hT3 r5 hRr' HI HT2
      go_wp2
      clear t0 t1 t2 r2
      go_loopw [7, 1] (fun i t W => ∃ (j : Nat) (z : Int), z = (j : Int) - 1 ∧ j ≤ xs.length ∧ i = .int .i64 z ∧ t = .int .i64 (nthRow b (xs.drop j) q1).2 ∧ NthJ cs T R go Rr' k (partF R j) w W ∧ Blk W w.heap.size 25 #[.int .i64 b, .slice (some a) cs.length c, .slice A2 fs.length c2]) (fun i _ _ => ((intOf i) + 1).toNat)
      case atStart => exact ⟨xs.length, _, rfl, Nat.le_refl _, rfl, by rw [List.drop_length]; rfl, HJ.out, HT3.out⟩
      case round =>
        obtain ⟨j, z, hz, hj, rfl, rfl, hj2, hT4⟩ := hrel
        clear HJ HT3
        have HJ := hid hj2
        have HT4 := hid hT4
        clear hj2
        cases j with
        | zero =>
          obtain rfl : z = -1 := by omega
          have HN := hid (show NthI cs T go Rr' k w wr by
            have hi := HJ.out
            refine ⟨hi.out, fun i ys hi2 hy => ?_, hi.h, hi.below⟩
            by_cases hik : i = k
            · subst hik
              have e := (nthT_at (b := b) (q := q) HXS.out.1).1
              rw [← HTT.out, hy, ← HQ1.out, ← HR.out] at e
              injection e with e
              subst e
              exact ⟨hi.cur, hi.hc⟩
            · obtain ⟨h1, h2, h3⟩ := hi.rows i ys (by omega) hy
              exact ⟨h1, h2⟩)
          have HQE := hid (show (nthRow b (xs.drop 0) q1).2 = (nthT b (cs.drop k) q).2 by
            have e := (nthT_at (b := b) (q := q) HXS.out.1).2
            rw [e, ← HQ1.out]; rfl)
          clear hz hT4
          go_wp2
          go_roundw
          case rel => exact ⟨k, Rr', _, rfl, by omega, rfl, by rw [HQE.out], HN.out, HT4.out⟩
          case measure => first | (simp [intOf]; done) | (simp [intOf]; omega)
        | succ j =>
          obtain rfl : z = (j : Int) := by omega
          have hjx : (j : Int) < (xs.length : Int) := by omega
          obtain ⟨x, hx⟩ : ∃ x, xs[j]? = some x := ⟨_, List.getElem?_eq_getElem (by omega)⟩
          obtain ⟨hx1, hx2⟩ := OK.out.cell xs (List.mem_of_getElem? HXS.out.1) x (List.mem_of_getElem? hx)
          obtain ⟨q2, hq2⟩ : ∃ q2, q2 = (nthRow b (xs.drop (j + 1)) q1).2 := ⟨_, rfl⟩
          have hq2n := nthRow_nn b (xs.drop (j + 1)) q1 hqn1
          rw [← hq2] at hq2n
          rw [← hq2]
          obtain ⟨hq21, hq22⟩ := hq2n
          have hat := nthRow_at (b := b) (q := q1) hx
          rw [← HR.out, ← hq2] at hat
          have HAT := hid hat
          have HQ2 := hid hq2
          clear hq2
          have m1 := Int.emod_nonneg x (show b ≠ 0 by omega)
          have m2 := Int.emod_lt_of_pos x (show 0 < b by omega)
          have m3 := Int.mul_ediv_add_emod x b
          have m4 := Int.mul_nonneg (show 0 ≤ b by omega) (Int.ediv_nonneg hx1 (show 0 ≤ b by omega))
          obtain ⟨u, hu⟩ : ∃ u, u = x % b := ⟨_, rfl⟩
          have hlo : lowOf b x = x - u := by unfold lowOf; rw [hu]
          rw [hlo] at hat
          rw [hlo, ← hu] at HAT
          rw [← hu] at m1 m2 m3
          have hux : u ≤ x := by omega
          have hxu : x % b = u := hu.symm
          obtain ⟨a8, A8, c8, he, p1, p2, p3, p4, p5⟩ := (HH.out.at_ HJ.out.below).ic k xs HXS.out.1
          injection he with he
          subst he
          unfold maxLen at p4
          obtain ⟨ax, rfl, v1, v2⟩ := p5 j x hx
          obtain ⟨t0, t1, t2⟩ := hT4.c3
          have hjR : j < R.length := by have := HRL.out; omega
          have o1 : wr.cell? ⟨go, k, none⟩ = some (.slice (some ⟨Rr' k, 0, none⟩) xs.length xs.length) := by
            rw [HJ.out.out.cell, rowsC_get hkn]; unfold outV; rw [if_neg (by omega), HXS.out.2.2]
          have o2 := HJ.out.cur.cell j
          rw [cellsF_get hjR] at o2
          have o3 := HJ.out.cur.frozen j
          have o4 := HJ.out.cur.lt
          have k1 : ∀ u, (wr.setCell ⟨Rr' k, j, none⟩ u).cell? ⟨w.heap.size, 0, none⟩ = some (.int .i64 b) := fun u => ((HT4.out.far (p := ⟨Rr' k, j, none⟩) (Blk.ne_ HT4.out HJ.out.cur (by decide)) u).c3).1
          have hb0 : (b == 0) = false := by simp; omega
          have hb00 : ¬ b = 0 := by omega
          have htm : x.tmod b = u := by rw [Int.tmod_eq_emod_of_nonneg hx1]; exact hxu
          have hw1 : IntKind.i64.wrap u = u := IntWalk.i64_in _ (by omega)
          have hw2 : IntKind.i64.wrap (x - u) = x - u := IntWalk.i64_in _ (by omega)
          have HU := hid hu
          have HN1 := hid (show NthJ cs T R go Rr' k (fun i => if i = j then x - u else partF R (j + 1) i) w (wr.setCell ⟨Rr' k, j, none⟩ (.int .i64 (x - u))).drew from
            (HJ.out.store (c := j) (F' := fun i => if i = j then x - u else partF R (j + 1) i) (by simp) (fun i _ hi => by simp [hi])).drew)
          have HTN := hid (show Blk (wr.setCell ⟨Rr' k, j, none⟩ (.int .i64 (x - u))).drew w.heap.size 25 #[.int .i64 b, .slice (some a) cs.length c, .slice A2 fs.length c2] from (HT4.out.far (p := ⟨Rr' k, j, none⟩) (Blk.ne_ HT4.out HJ.out.cur (by decide)) _).drew)
          clear hat hu hlo hx p5 hT4 hz
          by_cases hup : 0 < u
          · have HUP := hid hup
            go_wp2
            go_still_tail 11, (by kernel_rfl)
            go_wp2
            refine gen (p := Code.wp _ _ _ _) (fun W => NthJ cs T R go Rr' k (fun i => if i = j then x - u else partF R (j + 1) i) w W ∧ Blk W w.heap.size 25 #[.int .i64 b, .slice (some a) cs.length c, .slice A2 fs.length c2]) ⟨HN1.out, HTN.out⟩ ?_
            rintro W2 ⟨hJ2, hT5⟩
            clear HJ HT4 HN1 HTN t0 t1 t2 p2 v2 o1 o2 o3 o4 k1
            have HJ := hid hJ2
            have HT4 := hid hT5
            obtain ⟨t0, t1, t2⟩ := hT5.c3
            have o1 : W2.cell? ⟨go, k, none⟩ = some (.slice (some ⟨Rr' k, 0, none⟩) xs.length xs.length) := by
              rw [hJ2.out.cell, rowsC_get hkn]; unfold outV; rw [if_neg (by omega), HXS.out.2.2]
            have o2 := hJ2.cur.cell j
            rw [cellsF_get hjR, if_pos rfl] at o2
            have o3 := hJ2.cur.frozen j
            have o4 := hJ2.cur.lt
            have hm1' := Int.emod_nonneg q2 (show (2 : Int) ≠ 0 by omega)
            have hm2' := Int.emod_lt_of_pos q2 (show (0 : Int) < 2 by omega)
            obtain ⟨y, hy⟩ : ∃ y, y = q2 % 2 * b := ⟨_, rfl⟩
            have hy0 : 0 ≤ y ∧ y ≤ 100 := by
              rw [hy]
              have : q2 % 2 = 0 ∨ q2 % 2 = 1 := by omega
              rcases this with h | h <;> rw [h] <;> omega
            obtain ⟨hy1, hy2⟩ := hy0
            have hqy : q2 % 2 * b = y := hy.symm
            have htm2 : q2.tmod 2 = q2 % 2 := Int.tmod_eq_emod_of_nonneg hq21
            have hw3 : IntKind.i64.wrap (q2 % 2) = q2 % 2 := IntWalk.i64_in _ (by omega)
            have hw4 : IntKind.i64.wrap y = y := IntWalk.i64_in _ (by omega)
            have hw5 : IntKind.i64.wrap (x - u + y) = x - u + y := IntWalk.i64_in _ (by omega)
            have HY := hid hy
            have HN1 := hid (show NthJ cs T R go Rr' k (partF R j) w (W2.setCell ⟨Rr' k, j, none⟩ (.int .i64 (x - u + y))).drew from
              (hJ2.store (c := j) (F' := partF R j) (by
                unfold partF
                rw [if_neg (by omega), HAT.out.1, if_pos HUP.out, HY.out]) (fun i _ hi => by
                unfold partF
                rw [if_neg hi]
                by_cases h1 : i < j
                · rw [if_pos h1, if_pos (by omega)]
                · rw [if_neg h1, if_neg (by omega)])).drew)
            have HTN := hid (show Blk (W2.setCell ⟨Rr' k, j, none⟩ (.int .i64 (x - u + y))).drew w.heap.size 25 #[.int .i64 b, .slice (some a) cs.length c, .slice A2 fs.length c2] from (hT5.far (p := ⟨Rr' k, j, none⟩) (Blk.ne_ hT5 hJ2.cur (by decide)) _).drew)
            clear hJ2 hT5 hy
            go_still_tail 13, (by kernel_rfl)
            go_wp2
            go_roundw
            case rel => exact ⟨j, _, rfl, by omega, rfl, by first | rw [HAT.out.2, if_pos HUP.out] | (rw [HAT.out.2, if_pos HUP.out]; rfl), HN1.out, HTN.out⟩
            case measure => first | (simp [intOf]; done) | (simp [intOf]; omega)
          · obtain rfl : u = 0 := by omega
            have HN2 := hid (show NthJ cs T R go Rr' k (partF R j) w (wr.setCell ⟨Rr' k, j, none⟩ (.int .i64 (x - 0))).drew from
              (HJ.out.store (c := j) (F' := partF R j) (by
                unfold partF
                rw [if_neg (by omega), HAT.out.1, if_neg (by omega), Int.add_zero]) (fun i _ hi => by
                unfold partF
                by_cases h1 : i < j
                · rw [if_pos h1, if_pos (by omega)]
                · rw [if_neg h1, if_neg (by omega)])).drew)
            rw [Int.sub_zero] at HN2 HTN
            clear HN1
            go_wp2
            go_still_tail 11, (by kernel_rfl)
            go_wp2
            go_roundw
            case rel => exact ⟨j, _, rfl, by omega, rfl, by rw [HAT.out.2, if_neg (by omega)], HN2.out, HTN.out⟩
            case measure => first | (simp [intOf]; done) | (simp [intOf]; omega)
end Go.Proofs.Ytgoianldiomdoaa
/- The reference's findings in memory: the ranges, and the best numbers. -/
namespace Go.Proofs.Ytgoianldiomdoaa
open Go.RowKit Go.Shelf

/-- ranges in memory: a row of the call's own, and each row of ranges in its block -/
structure GM (base : Nat) (VS : Value) (Gg : Nat → Nat) (g : List (List (Int × Int))) (m : Nat) (W : World) : Prop where
  own : W.ownsRow base 47 1 VS g.length ((List.range g.length).map fun r => Value.slice (some ⟨Gg r, 0, none⟩) m m)
  rows : ∀ (r : Nat) (row : List (Int × Int)), g[r]? = some row → Blk W (Gg r) 51 (rowCells row).toArray ∧ row.length = m ∧ base ≤ Gg r
  inj : ∀ r r', r < g.length → r' < g.length → Gg r = Gg r' → r = r'
section
variable {base m : Nat} {VS : Value} {Gg : Nat → Nat} {g : List (List (Int × Int))} {W W' : World}
theorem GM.nil (base : Nat) (Gg : Nat → Nat) (m : Nat) (W : World) : GM base (.slice none 0 0) Gg [] m W :=
  ⟨⟨rfl, .inl ⟨rfl, rfl⟩⟩, fun r row h => by simp at h, fun r r' h => by simp at h⟩
theorem GM.keep (h : GM base VS Gg g m W) (hb : Below W.heap.size W W') : GM base VS Gg g m W' :=
  ⟨row_kept (vo := .slice none 0 0) h.own (grown_of_below hb _) (.inl rfl), fun r row hr => ⟨(h.rows r row hr).1.keep hb, (h.rows r row hr).2⟩, h.inj⟩
/-- a store into a block of another kind -/
theorem GM.far (h : GM base VS Gg g m W) {z t i : Nat} {us : Array Value} (hz : Blk W z t us) (h1 : t ≠ 47) (h2 : t ≠ 51) (u : Value) : GM base VS Gg g m (W.setCell ⟨z, i, none⟩ u) :=
  ⟨h.own.kept (grown_of_set W ⟨z, i, none⟩ u) (own_ne h.own (blk_not hz h1)), fun r row hr => ⟨(h.rows r row hr).1.far (p := ⟨z, i, none⟩) (Blk.ne_ (h.rows r row hr).1 hz (fun e => h2 e.symm)) u, (h.rows r row hr).2⟩, h.inj⟩
/-- one row's address -/
theorem GM.at_ (h : GM base VS Gg g m W) {r : Nat} (hr : r < g.length) : ∃ z cap, VS = .slice (some ⟨z, 0, none⟩) g.length cap ∧ g.length ≤ cap ∧ cap ≤ maxLen ∧ W.cell? ⟨z, r, none⟩ = some (.slice (some ⟨Gg r, 0, none⟩) m m) := by
  rcases h.own.2 with ⟨_, e⟩ | ⟨z, cap, cur, e, _, _, hl, hm, _⟩
  · omega
  · refine ⟨z, cap, e, hl, hm, ?_⟩
    have := h.own.cells (g := z) (by rw [e]; rfl) r (.slice (some ⟨Gg r, 0, none⟩) m m) (by simp [hr])
    rw [add_blk] at this
    exact this
/-- one range is stored -/
theorem GM.store (h : GM base VS Gg g m W) {r c : Nat} {row : List (Int × Int)} (hr : g[r]? = some row) (x y : Int) :
    GM base VS Gg (g.set r (row.set c (x, y))) m (W.setCells (Gg r) (c * 2) [.int .i64 x, .int .i64 y]) := by
  obtain ⟨hb, hl, hbs⟩ := h.rows r row hr
  have hrl := (List.getElem?_eq_some_iff.1 hr).1
  have hb1 := hb.set_ (c * 2) (.int .i64 x)
  have hb2 := hb1.set_ (c * 2 + 1) (.int .i64 y)
  have he : ((rowCells row).toArray.setIfInBounds (c * 2) (.int .i64 x)).setIfInBounds (c * 2 + 1) (.int .i64 y) = (rowCells (row.set c (x, y))).toArray := by
    rw [← rowCells_set]; simp
  rw [he] at hb2
  have o1 := h.own.kept (grown_of_set W ⟨Gg r, c * 2, none⟩ (.int .i64 x)) (own_ne h.own (blk_not hb (by decide)))
  have o2 := o1.kept (grown_of_set _ ⟨Gg r, c * 2 + 1, none⟩ (.int .i64 y)) (own_ne o1 (blk_not hb1 (by decide)))
  refine ⟨by rw [List.length_set]; exact o2, fun r' row' hr' => ?_, fun a b h1 h2 => h.inj a b (by simpa using h1) (by simpa using h2)⟩
  by_cases e : r = r'
  · subst e
    rw [List.getElem?_set_self hrl] at hr'
    injection hr' with hr'
    subst hr'
    exact ⟨hb2, by rw [List.length_set]; exact hl, hbs⟩
  · rw [List.getElem?_set_ne e] at hr'
    obtain ⟨k1, k2, k3⟩ := h.rows r' row' hr'
    have hne : Gg r' ≠ Gg r := fun q => e (h.inj r r' hrl (List.getElem?_eq_some_iff.1 hr').1 q.symm)
    exact ⟨(k1.far (p := ⟨Gg r, c * 2, none⟩) hne _).far (p := ⟨Gg r, c * 2 + 1, none⟩) hne _, k2, k3⟩
/-- one row is appended -/
theorem GM.push (h : GM base VS Gg g m W) {z : Nat} {row : List (Int × Int)} {v' : Value} (hz : Blk W z 51 (rowCells row).toArray) (hl : row.length = m) (hb : base ≤ z) (hne : ∀ r, r < g.length → Gg r ≠ z)
    (ho : W'.ownsRow base 47 1 v' (g.length + 1) (((List.range g.length).map fun r => Value.slice (some ⟨Gg r, 0, none⟩) m m) ++ [.slice (some ⟨z, 0, none⟩) m m])) (hg : W.grownBy W' VS.ownBlock) :
    GM base v' (fun i => if i = g.length then z else Gg i) (g ++ [row]) m W' := by
  have hk : ∀ {q : Nat} {us : Array Value}, Blk W q 51 us → Blk W' q 51 us := fun hq => by
    have := hg.block _ hq.lt (by
      rcases own_ne h.own (blk_not hq (by decide)) with e | e
      · rw [e]; intro e'; cases e'
      · exact fun e' => e e'.symm)
    exact this.trans hq
  refine ⟨?_, fun r row' hr => ?_, fun a b h1 h2 e => ?_⟩
  · rw [List.length_append, List.length_singleton]
    have e : ((List.range (g.length + 1)).map fun r => Value.slice (some ⟨if r = g.length then z else Gg r, 0, none⟩) m m) = ((List.range g.length).map fun r => Value.slice (some ⟨Gg r, 0, none⟩) m m) ++ [.slice (some ⟨z, 0, none⟩) m m] := by
      rw [List.range_succ, List.map_append, List.map_singleton, if_pos rfl]
      congr 1
      apply List.map_congr_left
      intro i hi
      rw [if_neg (by have := List.mem_range.1 hi; omega)]
    rw [e]; exact ho
  · by_cases e : r = g.length
    · subst e
      rw [List.getElem?_append_right (Nat.le_refl _), Nat.sub_self] at hr
      simp at hr
      subst hr
      simp only [if_pos]
      exact ⟨hk hz, hl, hb⟩
    · have hlt : r < g.length := by
        have := (List.getElem?_eq_some_iff.1 hr).1
        simp at this; omega
      rw [List.getElem?_append_left hlt] at hr
      obtain ⟨k1, k2, k3⟩ := h.rows r row' hr
      simp only [if_neg e]
      exact ⟨hk k1, k2, k3⟩
  · simp only [List.length_append, List.length_singleton] at h1 h2
    have e : (if a = g.length then z else Gg a) = (if b = g.length then z else Gg b) := e
    by_cases ha : a = g.length
    · by_cases hb' : b = g.length
      · omega
      · rw [if_pos ha, if_neg hb'] at e
        exact absurd e.symm (hne b (by omega))
    · by_cases hb' : b = g.length
      · rw [if_neg ha, if_pos hb'] at e
        exact absurd e (hne a (by omega))
      · rw [if_neg ha, if_neg hb'] at e
        exact h.inj a b (by omega) (by omega) e
end
/-- the best numbers stay where they are -/
theorem NthI.far {cs T : List (List Int)} {go : Nat} {Rr : Nat → Nat} {k : Nat} {w W : World} (h : NthI cs T go Rr k w W) {z t i : Nat} {us : Array Value} (hz : Blk W z t us) (h1 : t ≠ 56) (h2 : t ≠ 3) (hw : w.heap.size ≤ z) (u : Value) : NthI cs T go Rr k w (W.setCell ⟨z, i, none⟩ u) :=
  ⟨h.out.far (p := ⟨z, i, none⟩) (Blk.ne_ h.out hz (fun e => h1 e.symm)) u, fun j xs hj hx => ⟨(h.rows j xs hj hx).1.far (p := ⟨z, i, none⟩) (Blk.ne_ (h.rows j xs hj hx).1 hz (fun e => h2 e.symm)) u, (h.rows j xs hj hx).2⟩, h.h, h.below.setCell (p := ⟨z, i, none⟩) hw u⟩
theorem NthI.keep {cs T : List (List Int)} {go : Nat} {Rr : Nat → Nat} {k : Nat} {w W W' : World} (h : NthI cs T go Rr k w W) (hb : Below W.heap.size W W') : NthI cs T go Rr k w W' :=
  ⟨h.out.keep hb, fun j xs hj hx => ⟨(h.rows j xs hj hx).1.keep hb, (h.rows j xs hj hx).2⟩, h.h, h.below.trans (hb.mono h.below.size)⟩
/-- begun in a later world -/
theorem NthI.from_ {cs T : List (List Int)} {go : Nat} {Rr : Nat → Nat} {k : Nat} {w w1 W : World} (h : NthI cs T go Rr k w1 W) (hb : Below w.heap.size w w1) : NthI cs T go Rr k w W :=
  ⟨h.out, fun j xs hj hx => ⟨(h.rows j xs hj hx).1, Nat.le_trans hb.size (h.rows j xs hj hx).2⟩, Nat.le_trans hb.size h.h, hb.trans (h.below.mono hb.size)⟩
end Go.Proofs.Ytgoianldiomdoaa
/- The ranges of a list of tables of numbers, in plain words. -/
namespace Go.Proofs.Ytgoianldiomdoaa

def iniR (l : List Int) : List (Int × Int) := l.map fun v => (v, v)
def iniG (x : List (List Int)) : List (List (Int × Int)) := x.map iniR
def updA (g : List (List (Int × Int))) (y : List (List Int)) : List (List (Int × Int)) := List.zipWith updR g y
/-- the ranges of all -/
def spn : List (List (List Int)) → List (List (Int × Int))
  | [] => []
  | x :: R => R.foldl updA (iniG x)
theorem spn_snoc {R : List (List (List Int))} {y : List (List Int)} (h : R ≠ []) : spn (R ++ [y]) = updA (spn R) y := by
  cases R with
  | nil => exact absurd rfl h
  | cons x R => simp [spn, List.foldl_append]
theorem spn_one (y : List (List Int)) : spn [y] = iniG y := rfl
def updAT (g : List (List (Int × Int))) (y : List (List Int)) (r : Nat) : List (List (Int × Int)) := List.zipWith updR (g.take r) (y.take r) ++ g.drop r
theorem updAT_zero (g : List (List (Int × Int))) (y : List (List Int)) : updAT g y 0 = g := by simp [updAT]
theorem updAT_len {g : List (List (Int × Int))} {y : List (List Int)} (h : g.length = y.length) (r : Nat) : (updAT g y r).length = g.length := by
  simp [updAT, List.length_zipWith]; omega
theorem updAT_all {g : List (List (Int × Int))} {y : List (List Int)} (h : g.length = y.length) : updAT g y y.length = updA g y := by
  unfold updAT updA
  rw [List.take_of_length_le (by omega), List.take_of_length_le (by omega), List.drop_of_length_le (by omega), List.append_nil]
theorem updAT_get {g : List (List (Int × Int))} {y : List (List Int)} {r : Nat} (h : g.length = y.length) (hr : r < g.length) : (updAT g y r)[r]? = g[r]? := by
  unfold updAT
  rw [List.getElem?_append_right (by simp [List.length_zipWith]; omega)]
  simp [List.length_zipWith, List.getElem?_drop]
  congr 1; omega
theorem updAT_succ {g : List (List (Int × Int))} {y : List (List Int)} {r : Nat} {row : List (Int × Int)} {l : List Int} (h : g.length = y.length) (hr : g[r]? = some row) (hl : y[r]? = some l) : updAT g y (r + 1) = (updAT g y r).set r (updR row l) := by
  obtain ⟨h1, e1⟩ := List.getElem?_eq_some_iff.1 hr
  obtain ⟨h2, e2⟩ := List.getElem?_eq_some_iff.1 hl
  unfold updAT
  have hz : (List.zipWith updR (g.take r) (y.take r)).length = r := by simp [List.length_zipWith]; omega
  rw [List.set_append_right _ _ (by omega), hz, Nat.sub_self, List.take_succ_eq_append_getElem h1, List.take_succ_eq_append_getElem h2, List.zipWith_append (by simp; omega), List.append_assoc, e1, e2]
  congr 1
  have hd : (g.drop r).set 0 (updR row l) = updR row l :: g.drop (r + 1) := by
    rw [List.drop_eq_getElem_cons h1]; rfl
  rw [hd]; simp
def iniTo (l : List Int) (m c : Nat) : List (Int × Int) := iniR (l.take c) ++ List.replicate (m - c) (0, 0)
theorem iniTo_zero (l : List Int) (m : Nat) : iniTo l m 0 = List.replicate m (0, 0) := by simp [iniTo, iniR]
theorem iniTo_all {l : List Int} : iniTo l l.length l.length = iniR l := by simp [iniTo]
theorem iniTo_len {l : List Int} {c : Nat} (h : c ≤ l.length) : (iniTo l l.length c).length = l.length := by
  simp [iniTo, iniR]; omega
theorem iniTo_succ {l : List Int} {c : Nat} {v : Int} (hv : l[c]? = some v) : iniTo l l.length (c + 1) = (iniTo l l.length c).set c (v, v) := by
  obtain ⟨hc, e⟩ := List.getElem?_eq_some_iff.1 hv
  unfold iniTo iniR
  have hz : ((l.take c).map fun v => (v, v)).length = c := by simp; omega
  rw [List.set_append_right _ _ (by omega), hz, Nat.sub_self, List.take_succ_eq_append_getElem hc, List.map_append, List.append_assoc, e]
  congr 1
  rw [show l.length - c = (l.length - (c + 1)) + 1 by omega, List.replicate_succ]
  rfl
theorem iniTo_get {l : List Int} {c : Nat} (hc : c < l.length) : (iniTo l l.length c)[c]? = some (0, 0) := by
  unfold iniTo iniR
  have hz : ((l.take c).map fun v => (v, v)).length = c := by simp; omega
  rw [List.getElem?_append_right (by omega), hz, Nat.sub_self, List.getElem?_replicate, if_pos (by omega)]
theorem iniG_take {y : List (List Int)} {r : Nat} {l : List Int} (h : y[r]? = some l) : (iniG y).take r ++ [iniR l] = (iniG y).take (r + 1) := by
  obtain ⟨hr, e⟩ := List.getElem?_eq_some_iff.1 h
  have hr' : r < (iniG y).length := by simpa [iniG] using hr
  rw [List.take_succ_eq_append_getElem hr']
  simp [iniG, e]

section
variable {n m : Nat}
theorem ex_ini {x : List (List Int)} (hn : x.length = n) (hm : ∀ l ∈ x, l.length = m) : Ex n m (iniG x) fun r l => x[r]? = some l := by
  have hrow : ∀ (r : Nat) (row : List (Int × Int)), (iniG x)[r]? = some row → ∃ l, x[r]? = some l ∧ row = iniR l := fun r row h => by
    unfold iniG at h
    rw [List.getElem?_map] at h
    cases hx : x[r]? with
    | none => rw [hx] at h; cases h
    | some l => rw [hx] at h; injection h with h; exact ⟨l, rfl, h.symm⟩
  have hcell : ∀ (l : List Int) (c : Nat) (p : Int × Int), (iniR l)[c]? = some p → ∃ v, l[c]? = some v ∧ p = (v, v) := fun l c p h => by
    unfold iniR at h
    rw [List.getElem?_map] at h
    cases hx : l[c]? with
    | none => rw [hx] at h; cases h
    | some v => rw [hx] at h; injection h with h; exact ⟨v, rfl, h.symm⟩
  refine ⟨by simp [iniG, hn], fun r row h => ?_, fun r row c p l v h1 h2 h3 h4 => ?_, fun r row c p h1 h2 => ?_, fun r row c p h1 h2 => ?_⟩
  · obtain ⟨l, h1, rfl⟩ := hrow r row h
    simp [iniR, hm l (List.mem_of_getElem? h1)]
  · obtain ⟨l', k1, rfl⟩ := hrow r row h1
    obtain ⟨v', k2, rfl⟩ := hcell l' c p h2
    rw [k1] at h3
    injection h3 with h3
    subst h3
    rw [k2] at h4
    injection h4 with h4
    subst h4
    exact ⟨Int.le_refl _, Int.le_refl _⟩
  · obtain ⟨l', k1, rfl⟩ := hrow r row h1
    obtain ⟨v', k2, rfl⟩ := hcell l' c p h2
    exact .inr ⟨l', k1, k2⟩
  · obtain ⟨l', k1, rfl⟩ := hrow r row h1
    obtain ⟨v', k2, rfl⟩ := hcell l' c p h2
    exact .inr ⟨l', k1, k2⟩
theorem ex_upd {g : List (List (Int × Int))} {P : Nat → List Int → Prop} {y : List (List Int)} (h : Ex n m g P) (hn : y.length = n) (hm : ∀ l ∈ y, l.length = m) : ∀ r, r ≤ n → Ex n m (updAT g y r) fun r' l => P r' l ∨ (r' < r ∧ y[r']? = some l)
  | 0, _ => by
    rw [updAT_zero]
    exact h.ext fun r' l => ⟨.inl, fun k => k.elim id fun k => absurd k.1 (by omega)⟩
  | r + 1, hr => by
    have ih := ex_upd h hn hm r (by omega)
    obtain ⟨l, hl⟩ : ∃ l, y[r]? = some l := ⟨_, List.getElem?_eq_getElem (by omega)⟩
    obtain ⟨row, hrow⟩ : ∃ row, g[r]? = some row := ⟨_, List.getElem?_eq_getElem (by rw [h.len]; omega)⟩
    have e : updAT g y (r + 1) = updG (updAT g y r) r l := by
      rw [updAT_succ (by rw [h.len, hn]) hrow hl]
      unfold updG
      rw [List.getD, updAT_get (by rw [h.len, hn]) (by rw [h.len]; omega), hrow]; rfl
    rw [e]
    refine (ih.step (by omega) (hm l (List.mem_of_getElem? hl))).ext fun r' l' => ⟨?_, ?_⟩
    · rintro ((k | ⟨k1, k2⟩) | ⟨rfl, rfl⟩)
      · exact .inl k
      · exact .inr ⟨by omega, k2⟩
      · exact .inr ⟨by omega, hl⟩
    · rintro (k | ⟨k1, k2⟩)
      · exact .inl (.inl k)
      · by_cases e' : r' = r
        · subst e'
          rw [hl] at k2
          injection k2 with k2
          exact .inr ⟨rfl, k2.symm⟩
        · exact .inl (.inr ⟨by omega, k2⟩)
theorem ex_fold : ∀ {R : List (List (List Int))} {g : List (List (Int × Int))} {P : Nat → List Int → Prop}, Ex n m g P → (∀ x ∈ R, x.length = n ∧ ∀ l ∈ x, l.length = m) → Ex n m (R.foldl updA g) fun r l => P r l ∨ ∃ x ∈ R, x[r]? = some l
  | [], g, P, h, _ => h.ext fun r l => ⟨.inl, fun k => k.elim id fun ⟨x, hx, _⟩ => by simp at hx⟩
  | y :: R, g, P, h, hs => by
    obtain ⟨hn, hm⟩ := hs y (by simp)
    have h1 := ex_upd h hn hm n (Nat.le_refl _)
    have e : updAT g y n = updA g y := by rw [← hn]; exact updAT_all (by rw [h.len, hn])
    rw [e] at h1
    refine (ex_fold h1 fun z hz => hs z (by simp [hz])).ext fun r l => ⟨?_, ?_⟩
    · rintro ((k | ⟨_, k⟩) | ⟨x, hx, k⟩)
      · exact .inl k
      · exact .inr ⟨y, by simp, k⟩
      · exact .inr ⟨x, by simp [hx], k⟩
    · rintro (k | ⟨x, hx, k⟩)
      · exact .inl (.inl k)
      · rcases List.mem_cons.1 hx with rfl | hx
        · exact .inl (.inr ⟨by have := (List.getElem?_eq_some_iff.1 k).1; omega, k⟩)
        · exact .inr ⟨x, hx, k⟩
theorem ex_spn {R : List (List (List Int))} (h : R ≠ []) (hs : ∀ x ∈ R, x.length = n ∧ ∀ l ∈ x, l.length = m) : Ex n m (spn R) fun r l => ∃ x ∈ R, x[r]? = some l := by
  cases R with
  | nil => exact absurd rfl h
  | cons x R =>
    obtain ⟨hn, hm⟩ := hs x (by simp)
    refine (ex_fold (ex_ini hn hm) fun z hz => hs z (by simp [hz])).ext fun r l => ⟨?_, ?_⟩
    · rintro (k | ⟨z, hz, k⟩)
      · exact ⟨x, by simp, k⟩
      · exact ⟨z, by simp [hz], k⟩
    · rintro ⟨z, hz, k⟩
      rcases List.mem_cons.1 hz with rfl | hz
      · exact .inl k
      · exact .inr ⟨z, hz, k⟩
theorem Ex.unique {g g' : List (List (Int × Int))} {P : Nat → List Int → Prop} (h : Ex n m g P) (h' : Ex n m g' P) (hP : ∀ r, r < n → ∃ l, P r l ∧ l.length = m) (hb : ∀ r l, P r l → ∀ v ∈ l, 0 ≤ v ∧ v ≤ 10100) : g = g' := by
  have key : ∀ {g g' : List (List (Int × Int))}, Ex n m g P → Ex n m g' P → ∀ (r : Nat) (row row' : List (Int × Int)) (c : Nat) (p p' : Int × Int), g[r]? = some row → g'[r]? = some row' → row[c]? = some p → row'[c]? = some p' → p'.1 ≤ p.1 ∧ p.2 ≤ p'.2 := by
    intro g g' h h' r row row' c p p' h1 h1' h2 h2'
    have hr : r < n := by have := (List.getElem?_eq_some_iff.1 h1).1; rw [h.len] at this; exact this
    obtain ⟨l, hl, hlen⟩ := hP r hr
    have hc : c < m := by have := (List.getElem?_eq_some_iff.1 h2).1; rw [h.row r row h1] at this; exact this
    obtain ⟨v, hv⟩ : ∃ v, l[c]? = some v := ⟨_, List.getElem?_eq_getElem (by omega)⟩
    have hv2 := hb r l hl v (List.mem_of_getElem? hv)
    have k1 := h.lo r row c p l v h1 h2 hl hv
    have k2 := h'.lo r row' c p' l v h1' h2' hl hv
    refine ⟨?_, ?_⟩
    · rcases h.al r row c p h1 h2 with e | ⟨l2, q1, q2⟩
      · omega
      · exact (h'.lo r row' c p' l2 _ h1' h2' q1 q2).1
    · rcases h.ah r row c p h1 h2 with e | ⟨l2, q1, q2⟩
      · omega
      · exact (h'.lo r row' c p' l2 _ h1' h2' q1 q2).2
  refine List.ext_getElem? fun r => ?_
  by_cases hr : r < n
  · obtain ⟨row, e1⟩ : ∃ row, g[r]? = some row := ⟨_, List.getElem?_eq_getElem (by rw [h.len]; exact hr)⟩
    obtain ⟨row', e2⟩ : ∃ row', g'[r]? = some row' := ⟨_, List.getElem?_eq_getElem (by rw [h'.len]; exact hr)⟩
    rw [e1, e2]
    congr 1
    have l1 := h.row r row e1
    have l2 := h'.row r row' e2
    refine List.ext_getElem? fun c => ?_
    by_cases hc : c < m
    · obtain ⟨p, q1⟩ : ∃ p, row[c]? = some p := ⟨_, List.getElem?_eq_getElem (by omega)⟩
      obtain ⟨p', q2⟩ : ∃ p', row'[c]? = some p' := ⟨_, List.getElem?_eq_getElem (by omega)⟩
      rw [q1, q2]
      congr 1
      have a1 := key h h' r row row' c p p' e1 e2 q1 q2
      have a2 := key h' h r row' row c p' p e2 e1 q2 q1
      exact Prod.ext (by omega) (by omega)
    · rw [List.getElem?_eq_none (by omega), List.getElem?_eq_none (by omega)]
  · rw [List.getElem?_eq_none (by rw [h.len]; omega), List.getElem?_eq_none (by rw [h'.len]; omega)]
end
/-- Span finds the ranges of all roundings -/
theorem span_plain {b : Int} {cs : List (List Int)} {fs : List Fx} (hc : chkE b cs fs = 0) (hw : (spec b cs fs cs.length zeroS).ways ≠ 0) : spanOf b cs fs = spn (rnds b cs fs cs.length zeroS) := by
  have ok := chk_ok hc
  have hal : ∀ x, IsR b cs fs x → x.length = cs.length ∧ ∀ l ∈ x, l.length = colsOf cs ∧ ∀ v ∈ l, 0 ≤ v ∧ v ≤ 10100 := fun x hx => by
    obtain ⟨h1, h2⟩ := alike_rows (hx.alike ok)
    exact ⟨h1, h2⟩
  have h1 := span_ex ok hw
  have h2 := ex_spn (n := cs.length) (m := colsOf cs) (ways_ne hw) fun x hx => ⟨(hal x (rnds_isR.1 hx)).1, fun l hl => ((hal x (rnds_isR.1 hx)).2 l hl).1⟩
  have h3 := h2.ext (P' := fun r l => ∃ x, IsR b cs fs x ∧ x[r]? = some l) fun r l => ⟨fun ⟨x, k1, k2⟩ => ⟨x, rnds_isR.1 k1, k2⟩, fun ⟨x, k1, k2⟩ => ⟨x, rnds_isR.2 k1, k2⟩⟩
  refine h1.unique h3 (fun r hr => ?_) fun r l ⟨x, k1, k2⟩ v hv => ((hal x k1).2 l (List.mem_of_getElem? k2)).2 v hv
  have hB := best_isR hw
  obtain ⟨a1, a2⟩ := hal _ hB
  obtain ⟨l, hl⟩ : ∃ l, (bestOf b cs fs cs.length zeroS)[r]? = some l := ⟨_, List.getElem?_eq_getElem (by omega)⟩
  exact ⟨l, ⟨_, hB, hl⟩, (a2 l (List.mem_of_getElem? hl)).1⟩
end Go.Proofs.Ytgoianldiomdoaa
/- The reference's findings: all roundings of a table, walked. -/
namespace Go.Proofs.Ytgoianldiomdoaa
open Go.RowKit Go.Shelf

/-- what was found so far -/
structure AllP (cs : List (List Int)) (R : List (List (List Int))) (VB : Value) (ch : Int) (VS : Value) (w W : World) : Prop where
  below : Below w.heap.size w W
  span : ∃ Gg, GM w.heap.size VS Gg (spn R) (colsOf cs) W
  best : (R = [] ∧ VB = .slice none 0 0 ∧ ch = 0) ∨ ∃ x go Rr, Best R (fun y => changeOf y cs) x ∧ ch = changeOf x cs ∧ VB = .slice (some ⟨go, 0, none⟩) cs.length cs.length ∧ NthI cs x go Rr 0 w W
def GivesAll (cs : List (List Int)) (R : List (List (List Int))) (w : World) (e : Ending) (w' : World) : Prop :=
  ∃ VB ch VS, e = .returned (.agg #[.int .i64 (R.length : Int), VB, .int .i64 ch, VS]) ∧ AllP cs R VB ch VS w w'
theorem AllP.keep {cs : List (List Int)} {R : List (List (List Int))} {VB : Value} {ch : Int} {VS : Value} {w W W' : World} (h : AllP cs R VB ch VS w W) (hb : Below W.heap.size W W') : AllP cs R VB ch VS w W' :=
  ⟨h.below.trans (hb.mono h.below.size), ex_of h.span fun _ g => g.keep hb, or_of h.best id fun ⟨x, go, Rr, h1, h2, h3, h4⟩ => ⟨x, go, Rr, h1, h2, h3, h4.keep hb⟩⟩
/-- a number is stored in the box of the findings -/
theorem AllP.far {cs : List (List Int)} {R : List (List (List Int))} {VB : Value} {ch : Int} {VS : Value} {w W : World} (h : AllP cs R VB ch VS w W) {z i : Nat} {us : Array Value} (hz : Blk W z 43 us) (hw : w.heap.size ≤ z) (u : Value) : AllP cs R VB ch VS w (W.setCell ⟨z, i, none⟩ u) :=
  ⟨h.below.setCell (p := ⟨z, i, none⟩) hw u, ex_of h.span fun _ g => g.far hz (by decide) (by decide) u, or_of h.best id fun ⟨x, go, Rr, h1, h2, h3, h4⟩ => ⟨x, go, Rr, h1, h2, h3, h4.far hz (by decide) (by decide) hw u⟩⟩

/-- while the ranges take up one rounding more -/
structure RS (b : Int) (A : Option Addr) (c : Nat) (cs : List (List Int)) (A2 : Option Addr) (c2 : Nat) (fs : List Fx) (R : List (List (List Int))) (T : List (List Int)) (go : Nat) (Rr : Nat → Nat) (ga : Nat) (ch : Int) (VB VS : Value) (g : List (List (Int × Int))) (w W : World) : Prop where
  tb : Blk W w.heap.size 25 #[.int .i64 b, .slice A cs.length c, .slice A2 fs.length c2]
  rb : Blk W (w.heap.size + 1) 43 #[.int .i64 0, .slice none 0 0, .int .i64 0, .slice none 0 0]
  ab : Blk W ga 43 #[.int .i64 (R.length : Int), VB, .int .i64 ch, VS]
  best : ∃ x gb Rb, Best (R ++ [T]) (fun y => changeOf y cs) x ∧ ch = changeOf x cs ∧ VB = .slice (some ⟨gb, 0, none⟩) cs.length cs.length ∧ NthI cs x gb Rb 0 w W
  num : NthI cs T go Rr 0 w W
  gm : ∃ Gg, GM w.heap.size VS Gg g (colsOf cs) W
section
variable {b : Int} {A : Option Addr} {c : Nat} {cs : List (List Int)} {A2 : Option Addr} {c2 : Nat} {fs : List Fx} {R : List (List (List Int))} {T : List (List Int)} {go : Nat} {Rr : Nat → Nat} {ga : Nat} {ch : Int} {VB VS : Value} {g : List (List (Int × Int))} {w W W' : World}
theorem RS.keep (h : RS b A c cs A2 c2 fs R T go Rr ga ch VB VS g w W) (hb : Below W.heap.size W W') : RS b A c cs A2 c2 fs R T go Rr ga ch VB VS g w W' :=
  ⟨h.tb.keep hb, h.rb.keep hb, h.ab.keep hb, ex_of h.best fun _ ⟨gb, Rb, h1, h2, h3, h4⟩ => ⟨gb, Rb, h1, h2, h3, h4.keep hb⟩, h.num.keep hb, ex_of h.gm fun _ g => g.keep hb⟩
/-- one cell of a block of ranges is stored: all but the ranges -/
theorem RS.far (h : RS b A c cs A2 c2 fs R T go Rr ga ch VB VS g w W) {z i : Nat} {us : Array Value} (hz : Blk W z 51 us) (hw : w.heap.size ≤ z) (u : Value) :
    Blk (W.setCell ⟨z, i, none⟩ u) w.heap.size 25 #[.int .i64 b, .slice A cs.length c, .slice A2 fs.length c2] ∧ Blk (W.setCell ⟨z, i, none⟩ u) (w.heap.size + 1) 43 #[.int .i64 0, .slice none 0 0, .int .i64 0, .slice none 0 0] ∧ Blk (W.setCell ⟨z, i, none⟩ u) ga 43 #[.int .i64 (R.length : Int), VB, .int .i64 ch, VS] ∧
    (∃ x gb Rb, Best (R ++ [T]) (fun y => changeOf y cs) x ∧ ch = changeOf x cs ∧ VB = .slice (some ⟨gb, 0, none⟩) cs.length cs.length ∧ NthI cs x gb Rb 0 w (W.setCell ⟨z, i, none⟩ u)) ∧ NthI cs T go Rr 0 w (W.setCell ⟨z, i, none⟩ u) :=
  ⟨h.tb.far (p := ⟨z, i, none⟩) (Blk.ne_ h.tb hz (by decide)) u, h.rb.far (p := ⟨z, i, none⟩) (Blk.ne_ h.rb hz (by decide)) u, h.ab.far (p := ⟨z, i, none⟩) (Blk.ne_ h.ab hz (by decide)) u,
   ex_of h.best fun _ ⟨gb, Rb, h1, h2, h3, h4⟩ => ⟨gb, Rb, h1, h2, h3, h4.far hz (by decide) (by decide) hw u⟩, h.num.far hz (by decide) (by decide) hw u⟩
/-- one range is stored -/
theorem RS.store {Gg : Nat → Nat} (h : RS b A c cs A2 c2 fs R T go Rr ga ch VB VS g w W) (hg : GM w.heap.size VS Gg g (colsOf cs) W) {r k : Nat} {row : List (Int × Int)} (hr : g[r]? = some row) (x y : Int) :
    RS b A c cs A2 c2 fs R T go Rr ga ch VB VS (g.set r (row.set k (x, y))) w (W.setCells (Gg r) (k * 2) [.int .i64 x, .int .i64 y]) := by
  obtain ⟨hb, _, hbs⟩ := hg.rows r row hr
  have hb1 := hb.set_ (k * 2) (.int .i64 x)
  obtain ⟨q1, q2, q3, q4, q5⟩ := h.far (i := k * 2) hb hbs (.int .i64 x)
  have h2 : RS b A c cs A2 c2 fs R T go Rr ga ch VB VS g w W := h
  have e1 : Blk ((W.setCell ⟨Gg r, k * 2, none⟩ (.int .i64 x)).setCell ⟨Gg r, k * 2 + 1, none⟩ (.int .i64 y)) w.heap.size 25 #[.int .i64 b, .slice A cs.length c, .slice A2 fs.length c2] := q1.far (p := ⟨Gg r, k * 2 + 1, none⟩) (Blk.ne_ q1 hb1 (by decide)) _
  have e2 : Blk ((W.setCell ⟨Gg r, k * 2, none⟩ (.int .i64 x)).setCell ⟨Gg r, k * 2 + 1, none⟩ (.int .i64 y)) (w.heap.size + 1) 43 #[.int .i64 0, .slice none 0 0, .int .i64 0, .slice none 0 0] := q2.far (p := ⟨Gg r, k * 2 + 1, none⟩) (Blk.ne_ q2 hb1 (by decide)) _
  have e3 := q3.far (p := ⟨Gg r, k * 2 + 1, none⟩) (Blk.ne_ q3 hb1 (by decide)) (.int .i64 y)
  exact ⟨e1, e2, e3, ex_of q4 fun _ ⟨gb, Rb, h1, h2, h3, h4⟩ => ⟨gb, Rb, h1, h2, h3, h4.far hb1 (by decide) (by decide) hbs _⟩, q5.far hb1 (by decide) (by decide) hbs _, ⟨Gg, hg.store hr x y⟩⟩
theorem NthI.grown {x : List (List Int)} {gb : Nat} {Rb : Nat → Nat} {vs : List Value} {k : Nat} (h : NthI cs x gb Rb 0 w W) (ho : W.ownsRow w.heap.size 47 1 VS k vs) (hgr : W.grownBy W' VS.ownBlock) : NthI cs x gb Rb 0 w W' := by
  have hk : ∀ {q t : Nat} {us : Array Value}, Blk W q t us → t ≠ 47 → Blk W' q t us := fun hq ht => (hgr.block _ hq.lt (by
    rcases own_ne ho (blk_not hq ht) with e | e
    · rw [e]; intro e'; cases e'
    · exact fun e' => e e'.symm)).trans hq
  exact ⟨hk h.out (by decide), fun j xs hj hx => ⟨hk (h.rows j xs hj hx).1 (by decide), (h.rows j xs hj hx).2⟩, h.h, below_row' h.below ho (Nat.le_refl _) hgr h.below.size⟩
/-- one row is appended, and the ranges' new place stored -/
theorem RS.push {Gg : Nat → Nat} {z : Nat} {row : List (Int × Int)} {v' : Value} {W2 : World} (h : RS b A c cs A2 c2 fs R T go Rr ga ch VB VS g w W) (hg : GM w.heap.size VS Gg g (colsOf cs) W) (hb : Below W.heap.size W W2) (hga : w.heap.size ≤ ga) (hq1 : w.heap.size + 1 ≠ ga)
    (hz : Blk W2 z 51 (rowCells row).toArray) (hz2 : W.heap.size ≤ z) (hl : row.length = colsOf cs)
    (ho : W'.ownsRow w.heap.size 47 1 v' (g.length + 1) (((List.range g.length).map fun r => Value.slice (some ⟨Gg r, 0, none⟩) (colsOf cs) (colsOf cs)) ++ [.slice (some ⟨z, 0, none⟩) (colsOf cs) (colsOf cs)])) (hgr : W2.grownBy W' VS.ownBlock) :
    Blk W' ga 43 #[.int .i64 (R.length : Int), VB, .int .i64 ch, VS] ∧ RS b A c cs A2 c2 fs R T go Rr ga ch VB v' (g ++ [row]) w (W'.setCell ⟨ga, 3, none⟩ v') := by
  have h2 := h.keep hb
  have g2 := hg.keep hb
  have hws := h.num.below.size
  have g3 := g2.push hz hl (by omega) (fun r hr => by
    obtain ⟨row', e⟩ : ∃ row', g[r]? = some row' := ⟨_, List.getElem?_eq_getElem hr⟩
    have := (hg.rows r row' e).1.lt
    omega) ho hgr
  have hk : ∀ {q t : Nat} {us : Array Value}, Blk W2 q t us → t ≠ 47 → Blk W' q t us := fun hq ht => (hgr.block _ hq.lt (by
    rcases own_ne g2.own (blk_not hq ht) with e | e
    · rw [e]; intro e'; cases e'
    · exact fun e' => e e'.symm)).trans hq
  have k1 := hk h2.tb (by decide)
  have k2 := hk h2.rb (by decide)
  have k3 := hk h2.ab (by decide)
  have hne : w.heap.size + 1 ≠ ga → Blk (W'.setCell ⟨ga, 3, none⟩ v') (w.heap.size + 1) 43 #[.int .i64 0, .slice none 0 0, .int .i64 0, .slice none 0 0] := fun q => k2.far (p := ⟨ga, 3, none⟩) q _
  have hn1 : w.heap.size + 1 ≠ ga := hq1
  refine ⟨k3, k1.far (p := ⟨ga, 3, none⟩) (Blk.ne_ k1 k3 (by decide)) _, hne hn1, k3.set_ 3 v', ex_of h2.best fun _ ⟨gb, Rb, h1, e2, e3, h4⟩ => ⟨gb, Rb, h1, e2, e3, (h4.grown g2.own hgr).far k3 (by decide) (by decide) hga _⟩, (h2.num.grown g2.own hgr).far k3 (by decide) (by decide) hga _, ⟨_, g3.far k3 (by decide) (by decide) _⟩⟩
/-- one number of the table under test -/
theorem NthI.at_ (h : NthI cs T go Rr 0 w W) (hT : T.length = cs.length) (hl : ∀ k, (T.getD k []).length = (cs.getD k []).length) {r : Nat} {xs : List Int} (hr : T[r]? = some xs) :
    W.cell? ⟨go, r, none⟩ = some (.slice (some ⟨Rr r, 0, none⟩) xs.length xs.length) ∧ ∀ (k : Nat) (x : Int), xs[k]? = some x → W.cell? ⟨Rr r, k, none⟩ = some (.int .i64 x) := by
  have hrl := (List.getElem?_eq_some_iff.1 hr).1
  have e := h.out.cell r
  rw [rowsC_get (by omega)] at e
  unfold outV at e
  have hx : (cs.getD r []).length = xs.length := by rw [← hl r, List.getD, hr]; rfl
  rw [if_neg (by omega), hx] at e
  refine ⟨e, fun k x hk => ?_⟩
  have hkl := (List.getElem?_eq_some_iff.1 hk).1
  rw [(h.rows r xs (Nat.zero_le _) hr).1.cell, cellsF_get hkl]
  unfold partF
  rw [if_neg (by omega), List.getD, hk]; rfl
end
theorem rranges_info : (Try.prog.info? 47).map (fun i => (i.zero, i.size, i.bytes)) = some (some (.slice none 0 0), 1, 24) := by kernel_rfl
theorem rrange_info : (Try.prog.info? 51).map (fun i => (i.zero, i.size, i.bytes)) = some (some (.agg #[.int .i64 0, .int .i64 0]), 2, 16) := by kernel_rfl
theorem make_row0 (W : World) {m : Nat} (hm : m ≤ 4) : (Instr.makeSlice 47 (.int .i64 (m : Int)) (.int .i64 (m : Int))).run Try.prog W = .ok (.slice (some ⟨W.heap.size, 0, none⟩) m m) (W.alloc (.cells (rowCells (List.replicate m (0, 0))).toArray 51)) := by
  obtain ⟨i0, hi0, hz0, hz1, hz2⟩ := info_parts rrange_info
  have h := run_make (P := Try.prog) W 47 51 i0 _ Try.underlying47 hi0 hz0 .i64 .i64 m m (by omega) (Int.le_refl _) (by rw [hz2]; omega) (by omega)
  rw [hz1, Int.toNat_natCast] at h
  have e : madeCells (Value.agg #[.int .i64 0, .int .i64 0]).cells (m * 2) = (rowCells (List.replicate m (0, 0))).toArray := by
    rcases (by omega : m = 0 ∨ m = 1 ∨ m = 2 ∨ m = 3 ∨ m = 4) with rfl | rfl | rfl | rfl | rfl <;> (unfold madeCells; simp [Value.cells, rowCells, Array.range, List.replicate]; try rfl)
  rw [e] at h
  exact h
theorem one_at {W : World} {g t : Nat} {u : Value} (h : Blk W g t #[u]) : ∀ (j : Nat) (x : Value), [u][j]? = some x → W.cell? ((⟨g, 0, none⟩ : Addr).add j) = some x := by
  intro q x hq
  match q, hq with
  | 0, hq => injection hq with hq; subst hq; exact h.c1
  | q + 1, hq => simp at hq
theorem get_snoc {α : Type} {l : List α} {x : α} {r : Nat} (h : l.length = r) : (l ++ [x])[r]? = some x := by
  rw [List.getElem?_append_right (by omega), h, Nat.sub_self]; rfl
theorem set_snoc {α : Type} {l : List α} {x y : α} {r : Nat} (h : l.length = r) : (l ++ [x]).set r y = l ++ [y] := by
  rw [List.set_append_right _ _ (by omega), h, Nat.sub_self]; rfl
theorem GM.at2 {base m z n cap : Nat} {Gg : Nat → Nat} {g : List (List (Int × Int))} {W : World} (h : GM base (.slice (some ⟨z, 0, none⟩) n cap) Gg g m W) {r : Nat} (hr : r < g.length) : W.cell? ⟨z, r, none⟩ = some (.slice (some ⟨Gg r, 0, none⟩) m m) := by
  obtain ⟨z', cap', e, _, _, hc⟩ := h.at_ hr
  injection e with e1 _ _
  injection e1 with e1
  injection e1 with e1 _ _
  subst e1
  exact hc
theorem rndTo_shape {b : Int} {cs : List (List Int)} {fs : List Fx} (hc : chkE b cs fs = 0) (q : Nat) : ∀ x ∈ rndTo b cs fs q, x.length = cs.length ∧ ∀ l ∈ x, l.length = colsOf cs := by
  intro x hx
  unfold rndTo at hx
  obtain ⟨hx, _⟩ := List.mem_filter.1 hx
  obtain ⟨i, _, rfl⟩ := List.mem_map.1 hx
  obtain ⟨h1, h2⟩ := alike_rows (nth_alike hc (i : Int))
  exact ⟨h1, fun l hl => (h2 l hl).1⟩
theorem rndTo_len (b : Int) (cs : List (List Int)) (fs : List Fx) (q : Nat) : (rndTo b cs fs q).length ≤ q := by
  unfold rndTo
  refine Nat.le_trans (List.length_filter_le _ _) ?_
  simp
theorem spn_shape {b : Int} {cs : List (List Int)} {fs : List Fx} (hc : chkE b cs fs = 0) (q : Nat) (h : rndTo b cs fs q ≠ []) : (spn (rndTo b cs fs q)).length = cs.length ∧ ∀ (r : Nat) (row : List (Int × Int)), (spn (rndTo b cs fs q))[r]? = some row → row.length = colsOf cs := by
  have := ex_spn h (rndTo_shape hc q)
  exact ⟨this.len, this.row⟩
/-- a new best one -/
theorem best_new {R : List (List (List Int))} {T : List (List Int)} {VB VS : Value} {ch n : Int} {cs : List (List Int)} {w W : World} (h : AllP cs R VB ch VS w W) (hn : changeOf T cs = n) (ht : R = [] ∨ n < ch) : Best (R ++ [T]) (fun y => changeOf y cs) T := by
  have h1 : Best [T] (fun y => changeOf y cs) T := ⟨[], [], rfl, fun y hy => by simp at hy, fun y hy => by simp at hy⟩
  refine h1.right fun y hy => ?_
  rcases h.best with ⟨e, _⟩ | ⟨x, _, _, hB, e, _⟩
  · subst e; simp at hy
  · rcases ht with e' | hlt
    · subst e'; simp at hy
    · have this : changeOf x cs ≤ changeOf y cs := hB.le hy
      show changeOf T cs < changeOf y cs
      omega
set_option maxRecDepth 100000 in
set_option maxHeartbeats 4000000 in
theorem roundings_any (b : Int) (A : Option Addr) (c : Nat) (cs : List (List Int)) (A2 : Option Addr) (c2 : Nat) (fs : List Fx) (w : World) (h : TIn A c cs A2 c2 fs w) (hc : chkE b cs fs = 0) (h11 : cntT b cs ≤ 11) :
    Calls Try.prog 23 #[.agg #[.int .i64 b, .slice A cs.length c, .slice A2 fs.length c2]] w (GivesAll cs (rnds b cs fs cs.length zeroS) w) := by
  have HH := hid h
  have HC := hid hc
  have OK := hid (chk_ok hc)
  have HRA := hid (rnds_all hc)
  clear h hc
  go_enter Try.func23, Try.ntmps23
  go_wp2
  refine gen (p := Code.wp _ _ _ _) (fun W => Blk W w.heap.size 25 #[.int .i64 b, .slice A cs.length c, .slice A2 fs.length c2] ∧ Blk W (w.heap.size + 1) 43 #[.int .i64 0, .slice none 0 0, .int .i64 0, .slice none 0 0] ∧ Blk W (w.heap.size + 2) 43 #[.int .i64 0, .slice none 0 0, .int .i64 0, .slice none 0 0] ∧ Below w.heap.size w W) ?_ ?_
  · have h1 := (Below.refl w.heap.size w).alloc (Nat.le_refl _) (.cells #[.int .i64 b, .slice A cs.length c, .slice A2 fs.length c2] 25)
    have h2 := h1.alloc (by simp) (.cells #[.int .i64 0, .slice none 0 0, .int .i64 0, .slice none 0 0] 43)
    have h3 := h2.alloc (by simp; omega) (.cells #[.int .i64 0, .slice none 0 0, .int .i64 0, .slice none 0 0] 43)
    have k1 := ((Blk.new w 25 #[.int .i64 b, .slice A cs.length c, .slice A2 fs.length c2]).alloc (.cells #[.int .i64 0, .slice none 0 0, .int .i64 0, .slice none 0 0] 43)).alloc (.cells #[.int .i64 0, .slice none 0 0, .int .i64 0, .slice none 0 0] 43)
    have k2 := (Blk.new (w.alloc (.cells #[.int .i64 b, .slice A cs.length c, .slice A2 fs.length c2] 25)) 43 #[.int .i64 0, .slice none 0 0, .int .i64 0, .slice none 0 0]).alloc (.cells #[.int .i64 0, .slice none 0 0, .int .i64 0, .slice none 0 0] 43)
    have k3 := Blk.new ((w.alloc (.cells #[.int .i64 b, .slice A cs.length c, .slice A2 fs.length c2] 25)).alloc (.cells #[.int .i64 0, .slice none 0 0, .int .i64 0, .slice none 0 0] 43)) 43 #[.int .i64 0, .slice none 0 0, .int .i64 0, .slice none 0 0]
    simp only [World.size_alloc] at k2 k3
    exact ⟨k1, k2, k3, h3⟩
  rintro W1 ⟨k1, k2, k3, hb⟩
  obtain ⟨ga, hga⟩ : ∃ ga, ga = w.heap.size + 2 := ⟨_, rfl⟩
  rw [← hga] at k3
  rw [show w.heap.size + 1 + 1 = ga by omega]
  have hga2 : w.heap.size ≤ ga := by omega
  have hga3 : w.heap.size + 1 ≠ ga := by omega
  clear hga
  obtain ⟨N, hN⟩ : ∃ N, N = 2 ^ cntT b cs := ⟨_, rfl⟩
  have hN2 : N ≤ 2048 := by rw [hN]; exact Nat.pow_le_pow_right (show 0 < 2 by decide) h11
  have hNI : ((2 : Int) ^ cntT b cs) = (N : Int) := by rw [hN]; push_cast; rfl
  rw [← hN] at HRA
  clear hN
  have HT1 := hid k1
  have HR1 := hid k2
  have HA1 := hid k3
  have HB1 := hid hb
  clear k1 k2 k3 hb
  obtain ⟨z, hz⟩ : ∃ z, cntT b cs = z := ⟨_, rfl⟩
  rw [hz] at h11 hNI
  have HZ := hid hz
  have hwz : IntKind.u64.wrap (z : Int) = z := by rw [IntWalk.u64_in]; omega
  have hzt : ((z : Nat) : Int).toNat = z := by omega
  have hsh : IntKind.i64.wrap (1 * 2 ^ z) = (N : Int) := by rw [Int.one_mul, hNI]; exact IntWalk.i64_in _ (by omega)
  clear hz
  go_loopw [4] (fun i W => ∃ (q : Nat) (BA : Option Addr) (nb cb : Nat) (ch : Int) (SA : Option Addr) (ns cS : Nat), q ≤ N ∧ i = .int .i64 (q : Int) ∧ Blk W w.heap.size 25 #[.int .i64 b, .slice A cs.length c, .slice A2 fs.length c2] ∧ Blk W (w.heap.size + 1) 43 #[.int .i64 0, .slice none 0 0, .int .i64 0, .slice none 0 0] ∧ Blk W ga 43 #[.int .i64 ((rndTo b cs fs q).length : Int), .slice BA nb cb, .int .i64 ch, .slice SA ns cS] ∧ AllP cs (rndTo b cs fs q) (.slice BA nb cb) ch (.slice SA ns cS) w W) (fun i _ => N - (intOf i).toNat)
  case atStart =>
    exact ⟨0, none, 0, 0, 0, none, 0, 0, Nat.zero_le _, rfl, HT1.out, HR1.out, HA1.out, HB1.out, ⟨fun _ => 0, GM.nil _ _ _ _⟩, .inl ⟨rfl, rfl, rfl⟩⟩
  case round =>
    obtain ⟨q, BA, nb, cb, ch, SA, ns, cS, hq, rfl, hT, hR, hA, hP⟩ := hrel
    clear HT1 HR1 HA1 HB1
    have HT := hid hT
    have HR := hid hR
    have HA := hid hA
    have HP := hid hP
    have KF := hid (free_any b A c cs A2 c2 fs wr (HH.out.at_ hP.below) OK.out.okc)
    rw [HZ.out] at KF
    obtain ⟨t0, t1, t2⟩ := hT.c3
    clear hT hR hA hP
    go_wp2_with fail
    refine KF.out.mono ?_
    rintro e w2 ⟨rfl, hb⟩
    have HT2 := hid (HT.out.keep hb)
    have HR2 := hid (HR.out.keep hb)
    have HA2 := hid (HA.out.keep hb)
    have HP2 := hid (HP.out.keep hb)
    clear KF HT HR HA HP hb t0 t1 t2
    by_cases hlt : q < N
    · have hqI : (q : Int) < (N : Int) := by omega
      obtain ⟨t0, t1, t2⟩ := HT2.out.c3
      have HAL := hid (nth_alike HC.out (q : Int))
      have HRS := hid (rndTo_succ (b := b) (cs := cs) (fs := fs) q)
      have KN := hid (nth_blk b A c cs A2 c2 fs (q : Int) w2 (HH.out.at_ HP2.out.below) OK.out.okc (by omega) (by omega))
      unfold GivesNthB at KN
      have hTl := nthT_len b cs (q : Int)
      obtain ⟨T, hT⟩ : ∃ T, (nthT b cs (q : Int)).1 = T := ⟨_, rfl⟩
      rw [hT] at HAL HRS KN hTl
      clear hT
      have HTL := hid hTl
      clear hTl
      have HSH := hid (spn_shape HC.out q)
      obtain ⟨R, hR⟩ : ∃ R, rndTo b cs fs q = R := ⟨_, rfl⟩
      have hRl := rndTo_len b cs fs q
      rw [hR] at HRS HA2 HP2 HSH hRl
      clear hR
      obtain ⟨v, hv⟩ : ∃ v, isrB b cs fs T = v := ⟨_, rfl⟩
      rw [hv] at HRS
      have HV := hid hv
      clear hv
      go_wp2_with fail
      refine KN.out.mono ?_
      rintro e w3 ⟨go, Rr, rfl, hrows, hN⟩
      have hb := hN.below
      have HT3 := hid (HT2.out.keep hb)
      have HR3 := hid (HR2.out.keep hb)
      have HA3 := hid (HA2.out.keep hb)
      have HP3 := hid (HP2.out.keep hb)
      have HX3 := hid hrows
      have HN3 := hid (hN.from_ HP2.out.below)
      clear KN HT2 HR2 HA2 HP2 hb hrows hN t0 t1 t2
      have KI := isr_any b A c cs A2 c2 fs (some ⟨go, 0, none⟩) cs.length T w3 (HH.out.at_ HP3.out.below) HX3.out HC.out HAL.out
      rw [HTL.out, HV.out] at KI
      have KI := hid KI
      obtain ⟨t0, t1, t2⟩ := HT3.out.c3
      go_wp2_with fail
      refine KI.out.mono ?_
      rintro e w4 ⟨rfl, hb⟩
      have HT4 := hid (HT3.out.keep hb)
      have HR4 := hid (HR3.out.keep hb)
      have HA4 := hid (HA3.out.keep hb)
      have HP4 := hid (HP3.out.keep hb)
      have HX4 := hid (HX3.out.at_ hb)
      have HN4 := hid (HN3.out.keep hb)
      clear KI HT3 HR3 HA3 HP3 HX3 HN3 hb t0 t1 t2
      cases v with
      | false =>
        go_wp2
        go_roundw
        case rel => exact ⟨q + 1, BA, nb, cb, ch, SA, ns, cS, by omega, by go_num, HT4.out, HR4.out, by rw [HRS.out]; simpa using HA4.out, by rw [HRS.out]; simpa using HP4.out⟩
        case measure => first | (simp [intOf]; done) | (simp [intOf]; omega)
      | true =>
        have HAR := hid (alike_rows HAL.out)
        have HLEN := hid (show ∀ k, (T.getD k []).length = (cs.getD k []).length from fun k => by
          by_cases hk : k < cs.length
          · have h1 := List.getElem?_eq_getElem (l := T) (i := k) (by rw [HTL.out]; exact hk)
            have h2 := List.getElem?_eq_getElem (l := cs) (i := k) hk
            rw [List.getD, h1, List.getD, h2]
            show (T[k]'_).length = (cs[k]).length
            rw [(HAR.out.2 _ (List.mem_of_getElem? h1)).1, OK.out.okc.row _ (List.mem_of_getElem? h2)]
          · rw [List.getD, List.getElem?_eq_none (by rw [HTL.out]; omega), List.getD, List.getElem?_eq_none (by omega)])
        have KG := rchange_any (.int .i64 b) A c cs A2 c2 fs (some ⟨go, 0, none⟩) cs.length T w4 (HH.out.at_ HP4.out.below) HX4.out (by have := OK.out.okc.n2; have := HTL.out; omega) HTL.out (fun r hr => by have := (HAR.out.2 r hr).1; have := OK.out.okc.c2; omega) HLEN.out (fun r hr => (HAR.out.2 r hr).2) (fun r hr x hx => by have := OK.out.okc.cell r hr x hx; omega)
        rw [HTL.out] at KG
        have KG := hid KG
        obtain ⟨n, hn⟩ : ∃ n, changeOf T cs = n := ⟨_, rfl⟩
        rw [hn] at KG
        have HNN := hid hn
        clear hn
        obtain ⟨t0, t1, t2⟩ := HT4.out.c3
        go_wp2_with fail
        refine KG.out.mono ?_
        rintro e w5 ⟨rfl, hb⟩
        have HT5 := hid (HT4.out.keep hb)
        have HR5 := hid (HR4.out.keep hb)
        have HA5 := hid (HA4.out.keep hb)
        have HP5 := hid (HP4.out.keep hb)
        have HX5 := hid (HX4.out.at_ hb)
        have HN5 := hid (HN4.out.keep hb)
        clear KG HT4 HR4 HA4 HP4 HX4 HN4 hb t0 t1 t2
        obtain ⟨t0, t1, t2⟩ := HT5.out.c3
        obtain ⟨a0, a1, a2, a3⟩ := HA5.out.c4
        obtain ⟨tv, htv⟩ : ∃ tv : Bool, tv = (((R.length : Int) == 0) || decide (n < ch)) := ⟨_, rfl⟩
        go_upto_region 8 with (fail)
        go_cut [35] (fun v wx => v = .bool tv ∧ wx = w5)
        case first =>
          cases h0 : ((R.length : Int) == 0)
          all_goals
            cases h1 : decide (n < ch)
          all_goals
            rw [h0, h1] at htv
            subst htv
            go_wp2
            go_meet
            all_goals (first | exact ⟨rfl, rfl⟩ | rfl | trivial)
        case rest =>
        obtain ⟨rfl, hcw⟩ := hcut
        have hcw2 := hcw.symm
        subst hcw2
        have HTV := hid htv
        have af1 := HA5.out.frozen 1
        have af2 := HA5.out.frozen 2
        have al := HA5.out.lt
        clear htv
        rename_i hK
        refine hK _ _ ?_
        clear hK
        go_cut [6] (fun v wx => v = .int .i64 n ∧ ∃ ch1 BA1 nb1 cb1, RS b A c cs A2 c2 fs R T go Rr ga ch1 (.slice BA1 nb1 cb1) (.slice SA ns cS) (spn R) w wx)
        case first =>
          cases tv with
          | true =>
            have ht : R = [] ∨ n < ch := by
              have h := HTV.out.symm
              simp only [Bool.or_eq_true, beq_iff_eq, decide_eq_true_eq] at h
              rcases h with h | h
              · left; exact List.eq_nil_of_length_eq_zero (by omega)
              · right; exact h
            have hB := best_new HP5.out HNN.out ht
            have k1 := HA5.out.set_ 1 (.slice (some ⟨go, 0, none⟩) cs.length cs.length)
            have k2 := k1.set_ 2 (.int .i64 n)
            have n1 := HN5.out.far (i := 1) HA5.out (by decide) (by decide) hga2 (.slice (some ⟨go, 0, none⟩) cs.length cs.length)
            have n2 := n1.far (i := 2) k1 (by decide) (by decide) hga2 (.int .i64 n)
            have hne0 : w.heap.size ≠ ga := Blk.ne_ HT5.out HA5.out (by decide)
            have T1 := (HT5.out.far (p := ⟨ga, 1, none⟩) hne0 (.slice (some ⟨go, 0, none⟩) cs.length cs.length)).far (p := ⟨ga, 2, none⟩) hne0 (.int .i64 n)
            have R1 := (HR5.out.far (p := ⟨ga, 1, none⟩) hga3 (.slice (some ⟨go, 0, none⟩) cs.length cs.length)).far (p := ⟨ga, 2, none⟩) hga3 (.int .i64 n)
            have HRS := hid (show RS b A c cs A2 c2 fs R T go Rr ga n (.slice (some ⟨go, 0, none⟩) cs.length cs.length) (.slice SA ns cS) (spn R) w ((w5.setCell ⟨ga, 1, none⟩ (.slice (some ⟨go, 0, none⟩) cs.length cs.length)).setCell ⟨ga, 2, none⟩ (.int .i64 n)) from
              ⟨T1, R1, k2, ⟨T, go, Rr, hB, HNN.out.symm, rfl, n2⟩, n2, ex_of HP5.out.span fun _ gm => (gm.far HA5.out (by decide) (by decide) _).far k1 (by decide) (by decide) _⟩)
            clear hB k1 k2 n1 n2 T1 R1 hne0
            go_wp2
            go_meet
            exact ⟨rfl, n, some ⟨go, 0, none⟩, cs.length, cs.length, HRS.out⟩
          | false =>
            have h := HTV.out.symm
            simp only [Bool.or_eq_false_iff, beq_eq_false_iff_ne, decide_eq_false_iff_not] at h
            have HRS := hid (show RS b A c cs A2 c2 fs R T go Rr ga ch (.slice BA nb cb) (.slice SA ns cS) (spn R) w w5 from by
              refine ⟨HT5.out, HR5.out, HA5.out, ?_, HN5.out, HP5.out.span⟩
              rcases HP5.out.best with ⟨e, _⟩ | ⟨x, gb, Rb, hB, e1, e2, e3⟩
              · subst e; simp at h
              · exact ⟨x, gb, Rb, hB.left fun y hy => by
                  simp at hy
                  subst hy
                  show changeOf x cs ≤ changeOf y cs
                  have := HNN.out
                  omega, e1, e2, e3⟩)
            clear h
            go_wp2
            go_meet
            exact ⟨rfl, ch, BA, nb, cb, HRS.out⟩
        case rest =>
        obtain ⟨rfl, ch1, BA1, nb1, cb1, hrs⟩ := hcut
        have HS := hid hrs
        clear hrs HT5 HR5 HA5 HP5 HX5 HN5 t0 t1 t2 a0 a1 a2 a3 af1 af2 al HTV
        refine (‹∀ (a : Act) (w : World), Code.wp Try.prog _ _ a w → _›) _ _ ?_
        by_cases hR0 : R = []
        · subst hR0
          have HRT : Hid (rndTo b cs fs (q + 1) = [T]) := hid (by rw [HRS.out]; rfl)
          have hTL := HTL.out
          have hn5 := OK.out.okc.n2
          have hm4 : colsOf cs ≤ 4 := OK.out.okc.c2
          go_wp2
          go_loopw [7] (fun i W => ∃ (r : Nat) (SA2 : Option Addr) (ns2 cS2 : Nat), r ≤ cs.length ∧ i = .int .i64 (r : Int) ∧ RS b A c cs A2 c2 fs [] T go Rr ga ch1 (.slice BA1 nb1 cb1) (.slice SA2 ns2 cS2) ((iniG T).take r) w W) (fun i _ => cs.length - (intOf i).toNat)
          case atStart => exact ⟨0, SA, ns, cS, Nat.zero_le _, rfl, HS.out⟩
          case round =>
            obtain ⟨r, SA2, ns2, cS2, hr, rfl, hrs⟩ := hrel
            clear HS
            have HS := hid hrs
            obtain ⟨a0, a1, a2, a3⟩ := hrs.ab.c4
            have a0 : wr.cell? ⟨ga, 0, none⟩ = some (.int .i64 0) := a0
            clear hrs
            by_cases hrl : r < cs.length
            · have hrI : (r : Int) < (cs.length : Int) := by omega
              obtain ⟨xs, hxs⟩ : ∃ xs, T[r]? = some xs := ⟨_, List.getElem?_eq_getElem (by omega)⟩
              have HXL := hid (And.intro (HAR.out.2 xs (List.mem_of_getElem? hxs)).1 hxs)
              obtain ⟨y0, _⟩ := HS.out.num.at_ HTL.out HLEN.out hxs
              clear hxs
              go_wp2
              clear a0 a1 a2 a3 y0
              refine (wpIn_wide (n := 0)).1 ?_
              refine wpIn_region_each 9 (fun i v W' => match i with | 0 => v = .pointer (some ⟨ga, 3, none⟩) | 1 => v = .slice SA2 ns2 cS2 | 2 => v = .slice (some ⟨go, 0, none⟩) cs.length cs.length | 3 => v = .int .i64 (r : Int) | 4 => v = .pointer (some ⟨go, r, none⟩) | 5 => v = .slice (some ⟨Rr r, 0, none⟩) (colsOf cs) (colsOf cs) | 6 => v = .int .i64 (colsOf cs : Int) | 7 => ∃ gz, v = .slice (some ⟨gz, 0, none⟩) (colsOf cs) (colsOf cs) ∧ wr.heap.size ≤ gz ∧ Blk W' gz 51 (rowCells (List.replicate (colsOf cs) (0, 0))).toArray | 8 => ∃ gl, v = .slice (some ⟨gl, 0, none⟩) 1 1 ∧ ∃ gz, Blk W' gl 47 #[.slice (some ⟨gz, 0, none⟩) (colsOf cs) (colsOf cs)] ∧ wr.heap.size ≤ gz ∧ Blk W' gz 51 (rowCells (List.replicate (colsOf cs) (0, 0))).toArray | _ => True) (fun A B => Below A.heap.size A B) (fun _ _ => True) (by kernel_rfl) (by kernel_rfl) ?_ (fun h k => h.trans (k.mono h.size)) ⟨rfl, rfl, rfl, Nat.le_refl _, fun _ _ => rfl⟩ trivial (by kernel_rfl) ?_ ?_
              · intro i v W1 W2 hb h
                match i, h with
                | 0, h => exact h
                | 1, h => exact h
                | 2, h => exact h
                | 3, h => exact h
                | 4, h => exact h
                | 5, h => exact h
                | 6, h => exact h
                | 7, h =>
                  obtain ⟨gz, rfl, h1⟩ := h
                  exact ⟨_, rfl, h1.1, h1.2.keep hb⟩
                | 8, h =>
                  obtain ⟨gl, rfl, h1⟩ := h
                  exact ⟨_, rfl, ex_of h1 fun gz h => ⟨h.1.keep hb, h.2.1, h.2.2.keep hb⟩⟩
                | i + 9, h => trivial
              · refine ⟨?_, ?_, ?_, ?_, ?_, ?_, ?_, ?_, ?_, trivial⟩
                · -- 0
                  intro li a1 W2 hA K hK
                  have e3 := hA.par 3 (by kernel_rfl)
                  refine opStep none 0 rfl rfl (fun c hc => by cases hc) ?_
                  go_simp
                  exact hK _ _ rfl (Below.refl _ _) trivial
                · -- 1
                  intro li a1 W2 hA K hK
                  have e49 : a1.tmps.getD 49 undef = .pointer (some ⟨ga, 3, none⟩) := hA.val 0 49 (by kernel_rfl) (by kernel_rfl)
                  obtain ⟨_, _, _, q1⟩ := (HS.out.ab.keep hA.st).c4
                  refine opStep none 0 rfl rfl (fun c hc => by cases hc) ?_
                  go_simp
                  exact hK _ _ rfl (Below.refl _ _) trivial
                · -- 2
                  intro li a1 W2 hA K hK
                  have e5 := hA.par 5 (by kernel_rfl)
                  refine opStep none 0 rfl rfl (fun c hc => by cases hc) ?_
                  go_simp
                  exact hK _ _ rfl (Below.refl _ _) trivial
                · -- 3
                  intro li a1 W2 hA K hK
                  have e7 := hA.par 7 (by kernel_rfl)
                  refine opStep none 0 rfl rfl (fun c hc => by cases hc) ?_
                  go_simp
                  exact hK _ _ rfl (Below.refl _ _) trivial
                · -- 4
                  intro li a1 W2 hA K hK
                  have e51 : a1.tmps.getD 51 undef = .slice (some ⟨go, 0, none⟩) cs.length cs.length := hA.val 2 51 (by kernel_rfl) (by kernel_rfl)
                  have e52 : a1.tmps.getD 52 undef = .int .i64 (r : Int) := hA.val 3 52 (by kernel_rfl) (by kernel_rfl)
                  refine opStep none 0 rfl rfl (fun c hc => by cases hc) ?_
                  go_simp
                  exact hK _ _ (by first | rfl | exact congrArg (fun q => Value.pointer (some q)) (add_blk _ _)) (Below.refl _ _) trivial
                · -- 5
                  intro li a1 W2 hA K hK
                  have e53 : a1.tmps.getD 53 undef = .pointer (some ⟨go, r, none⟩) := hA.val 4 53 (by kernel_rfl) (by kernel_rfl)
                  obtain ⟨q1, _⟩ := (HS.out.num.keep hA.st).at_ HTL.out HLEN.out HXL.out.2
                  rw [HXL.out.1] at q1
                  refine opStep none 0 rfl rfl (fun c hc => by cases hc) ?_
                  go_simp
                  exact hK _ _ rfl (Below.refl _ _) trivial
                · -- 6
                  intro li a1 W2 hA K hK
                  have e54 : a1.tmps.getD 54 undef = .slice (some ⟨Rr r, 0, none⟩) (colsOf cs) (colsOf cs) := hA.val 5 54 (by kernel_rfl) (by kernel_rfl)
                  refine opStep none 0 rfl rfl (fun c hc => by cases hc) ?_
                  go_simp
                  exact hK _ _ rfl (Below.refl _ _) trivial
                · -- 7
                  intro li a1 W2 hA K hK
                  have e55 : a1.tmps.getD 55 undef = .int .i64 (colsOf cs : Int) := hA.val 6 55 (by kernel_rfl) (by kernel_rfl)
                  have hmk := make_row0 W2 (m := colsOf cs) (by omega)
                  refine opValue none 0 rfl rfl (fun c hc => by cases hc) (v := .slice (some ⟨W2.heap.size, 0, none⟩) (colsOf cs) (colsOf cs)) (W' := W2.alloc (.cells (rowCells (List.replicate (colsOf cs) (0, 0))).toArray 51)) (by simp [execOp, Act.eval, e55, hmk, Result.andThen]) ?_
                  exact hK _ _ ⟨_, rfl, hA.st.size, Blk.new _ _ _⟩ ((Below.refl _ _).alloc (Nat.le_refl _) _) trivial
                · -- 8
                  intro li a1 W2 hA K hK
                  obtain ⟨gz, e56, h56⟩ := hA.val 7 56 (by kernel_rfl) (by kernel_rfl)
                  have e56' := e56
                  rw [Array.getD_eq_getD_getElem?] at e56'
                  refine opStep none 0 rfl rfl (fun c hc => by cases hc) ?_
                  go_simp
                  exact hK _ _ ⟨_, rfl, gz, Blk.new _ _ _, h56.1, h56.2.alloc _⟩ ((Below.refl _ _).alloc (Nat.le_refl _) _) trivial
              · intro li a1 W2 hD
                obtain ⟨gl, e57, gz, hgl, hgz1, hgz2⟩ := hD.val 8 57 (by kernel_rfl) (by kernel_rfl)
                have e50 : a1.tmps.getD 50 undef = .slice SA2 ns2 cS2 := hD.val 1 50 (by kernel_rfl) (by kernel_rfl)
                have ep := hD.par 3 (by kernel_rfl)
                have hst := hD.st
                have hs2 := hst.size
                obtain ⟨Gg, gm⟩ := HS.out.gm
                have g2 := gm.keep hst
                have hws := HS.out.num.below.size
                have htl : ((iniG T).take r).length = r := by rw [List.length_take]; unfold iniG; rw [List.length_map, HTL.out]; omega
                obtain ⟨i0, hi0, hz0, hz1, hz2⟩ := info_parts rranges_info
                obtain ⟨v', w7, hrun, hr7, hg7, _, hf7⟩ := run_append_own_at (P := Try.prog) W2 w.heap.size 41 41 47 i0 (.slice none 0 0) 1 24 Try.underlying41 hi0 hz0 hz1 hz2 rfl (by decide) (.slice SA2 ns2 cS2) ((iniG T).take r).length _ g2.own ⟨gl, 0, none⟩ 1 1 [.slice (some ⟨gz, 0, none⟩) (colsOf cs) (colsOf cs)] rfl (one_at hgl) (fun u hu => by simp at hu; subst hu; rfl) (by simp only [maxLen]; omega) (by omega) (by omega)
                obtain ⟨z7, z8⟩ := HS.out.push gm hst hga2 hga3 hgz2 hgz1 (by simp) hr7 hg7
                have HZ := hid z8
                obtain ⟨g6, cap6, rfl⟩ := Go.ownsRow_succ hr7
                obtain ⟨y0, y1, y2, y3⟩ := z7.c4
                have yf := z7.frozen 3
                have yl := z7.lt
                have hkp2 := hD.keeps (ds := [49, 50, 51, 52, 53, 54, 55, 56, 57, 58, 59]) (by kernel_rfl)
                have hds := hD.size
                have hsz : a1.tmps.size = 141 := hD.size
                have hdd := hD.defers
                clear hst hr7 hg7 hf7 hgl z7 z8 gm g2 hgz1 hgz2 hws
                have HTK := hid htl
                clear htl
                refine tail_val (i := 9) (v := .slice (some ⟨g6, 0, none⟩) (((iniG T).take r).length + 1) cap6) (W' := w7) none 0 rfl rfl rfl (fun c hc => by cases hc) (by simp [execOp, resolve, invoke, builtin, Act.eval, e50, e57, hrun, Result.andThen]) (by rw [hsz]; decide) ?_
                intro a3 s3 d3 f3 o3
                have hkp3 := keeps_then hkp2 o3 (by decide)
                have ep' : a3.tmps.getD 3 undef = .pointer (some ⟨ga, 0, none⟩) := (o3 3 (by decide)).trans ep
                refine tail_val (i := 10) (v := .pointer (some ⟨ga, 3, none⟩)) (W' := w7) none 0 rfl rfl rfl (fun c hc => by cases hc) (by go_simp) (by rw [s3, hsz]; decide) ?_
                intro a4 s4 d4 f4 o4
                have hkp4 := keeps_then hkp3 o4 (by decide)
                have ea : a4.tmps.getD 58 undef = .slice (some ⟨g6, 0, none⟩) (((iniG T).take r).length + 1) cap6 := (o4 58 (by decide)).trans f3
                refine tail_store (i := 11) (W' := w7.setCell ⟨ga, 3, none⟩ (.slice (some ⟨g6, 0, none⟩) (((iniG T).take r).length + 1) cap6)) none 0 rfl rfl rfl (fun c hc => by cases hc) (by go_simp) ?_
                have e := act_mix [49, 50, 51, 52, 53, 54, 55, 56, 57, 58, 59] (s4.trans (s3.trans hds)) (d4.trans (d3.trans hdd)) (fun i _ hc => hkp4 i hc)
                generalize (fun i => a4.tmps.getD i undef) = g' at e
                refine wpListIn_nil ?_
                rw [e]
                clear e hD hkp2 hkp3 hkp4 s3 s4 d3 d4 f3 f4 o3 o4 e50 e57 ep ep' ea hds hdd hsz y0 y1 y2 y3 yf yl hi0 hz0 hz1 hz2 hrun hs2
                simp only [mix, List.contains_cons, List.contains_nil, Nat.reduceAdd, Nat.reduceBEq, Bool.or_false, Bool.or_true, cond_true, cond_false]
                generalize w7.setCell ⟨ga, 3, none⟩ (.slice (some ⟨g6, 0, none⟩) (((iniG T).take r).length + 1) cap6) = W8 at *
                obtain ⟨ns3, hns3⟩ : ∃ ns3, ((iniG T).take r).length + 1 = ns3 := ⟨_, rfl⟩
                rw [hns3] at HZ
                have HN4 := hid (show ns3 = r + 1 by have := HTK.out; omega)
                clear hns3 HS
                obtain ⟨xs, hxs, hxl⟩ : ∃ xs : List Int, T[r]? = some xs ∧ xs.length = colsOf cs := ⟨xs, HXL.out.2, HXL.out.1⟩
                obtain ⟨pre, hpre⟩ : ∃ pre, (iniG T).take r = pre := ⟨_, rfl⟩
                rw [hpre] at HZ HTK
                have HNX := hid (show pre ++ [iniTo xs xs.length xs.length] = (iniG T).take (r + 1) by rw [iniTo_all, ← hpre]; exact iniG_take hxs)
                clear hpre
                have hrs : RS b A c cs A2 c2 fs [] T go Rr ga ch1 (.slice BA1 nb1 cb1) (.slice (some ⟨g6, 0, none⟩) ns3 cap6) (pre ++ [iniTo xs xs.length 0]) w W8 := by
                  rw [iniTo_zero, hxl]
                  exact HZ.out
                clear HZ HXL
                have HXL := hid (And.intro hxs hxl)
                have HS := hid hrs
                have hxc : (xs.length : Int) ≤ 5 := by omega
                clear hrs hxs hxl
                go_wp2
                go_loopw [8] (fun i W => ∃ j : Nat, j ≤ xs.length ∧ i = .int .i64 (j : Int) ∧ RS b A c cs A2 c2 fs [] T go Rr ga ch1 (.slice BA1 nb1 cb1) (.slice (some ⟨g6, 0, none⟩) ns3 cap6) (pre ++ [iniTo xs xs.length j]) w W) (fun i _ => xs.length - (intOf i).toNat)
                case atStart => exact ⟨0, Nat.zero_le _, rfl, HS.out⟩
                case round =>
                  obtain ⟨j, hj, rfl, hrs⟩ := hrel
                  clear HS
                  have HS := hid hrs
                  clear hrs
                  obtain ⟨a0, a1, a2, a3⟩ := HS.out.ab.c4
                  rw [show (([] : List (List (List Int))).length : Int) = 0 from rfl] at a0
                  obtain ⟨y0, y1⟩ := HS.out.num.at_ HTL.out HLEN.out HXL.out.1
                  by_cases hjl : j < xs.length
                  · have hjI : (j : Int) < (xs.length : Int) := by omega
                    obtain ⟨x, hx⟩ : ∃ x, xs[j]? = some x := ⟨_, List.getElem?_eq_getElem hjl⟩
                    have y2 := y1 j x hx
                    obtain ⟨Gg, gm⟩ := HS.out.gm
                    have hset : (pre ++ [iniTo xs xs.length j])[r]? = some (iniTo xs xs.length j) := get_snoc HTK.out
                    have z1 := gm.at2 (List.getElem?_eq_some_iff.1 hset).1
                    obtain ⟨hb, _, hbs⟩ := gm.rows r _ hset
                    have f2 := hb.frozen (j * 2)
                    have f3 := hb.frozen (j * 2 + 1)
                    have bl := hb.lt
                    have hin0 := iniTo_get hjl
                    have z2 := hb.cell (j * 2)
                    have z3 := hb.cell (j * 2 + 1)
                    rw [List.getElem?_toArray, (rowCells_lo hin0).1] at z2
                    rw [List.getElem?_toArray, (rowCells_lo hin0).2] at z3
                    have hnew := HS.out.store gm (k := j) hset x x
                    rw [set_snoc HTK.out, ← iniTo_succ hx] at hnew
                    have HNEW := hid hnew
                    have HXJ := hid hx
                    have hjm : (j : Int) < (colsOf cs : Int) := by have := HXL.out.2; omega
                    have hrn : (r : Int) < (ns3 : Int) := by have := HN4.out; omega
                    obtain ⟨gr, hgr⟩ : ∃ gr, Gg r = gr := ⟨_, rfl⟩
                    rw [hgr] at z1 z2 z3 f2 f3 bl HNEW
                    clear hnew hset hb hbs hx gm y1 hgr hin0
                    go_wp2
                    go_still_tail 21, (by kernel_rfl)
                    go_wp2
                    refine gen (p := Code.wp _ _ _ _) (fun W => RS b A c cs A2 c2 fs [] T go Rr ga ch1 (.slice BA1 nb1 cb1) (.slice (some ⟨g6, 0, none⟩) ns3 cap6) (pre ++ [iniTo xs xs.length (j + 1)]) w W) ?_ ?_
                    · exact HNEW.out.keep (Below.refl _ _).drew
                    intro W10 hrs
                    clear HS a0 a1 a2 a3 y0 y2 z1 z2 z3 f2 f3 bl HNEW
                    have HS := hid hrs
                    clear hrs
                    obtain ⟨a0, a1, a2, a3⟩ := HS.out.ab.c4
                    rw [show (([] : List (List (List Int))).length : Int) = 0 from rfl] at a0
                    obtain ⟨y0, y1⟩ := HS.out.num.at_ HTL.out HLEN.out HXL.out.1
                    have y2 := y1 j x HXJ.out
                    obtain ⟨Gg, gm⟩ := HS.out.gm
                    have hset : (pre ++ [iniTo xs xs.length (j + 1)])[r]? = some (iniTo xs xs.length (j + 1)) := get_snoc HTK.out
                    have z1 := gm.at2 (List.getElem?_eq_some_iff.1 hset).1
                    obtain ⟨hb, _, hbs⟩ := gm.rows r _ hset
                    have hini : (iniTo xs xs.length (j + 1))[j]? = some (x, x) := by
                      rw [iniTo_succ HXJ.out, List.getElem?_set_self (by rw [iniTo_len (by omega)]; omega)]
                    have z2 := hb.cell (j * 2)
                    have z3 := hb.cell (j * 2 + 1)
                    rw [List.getElem?_toArray, (rowCells_lo hini).1] at z2
                    rw [List.getElem?_toArray, (rowCells_lo hini).2] at z3
                    have f2 := hb.frozen (j * 2)
                    have f3 := hb.frozen (j * 2 + 1)
                    have bl := hb.lt
                    have hnew := HS.out.store gm (k := j) hset x x
                    rw [set_snoc HTK.out, show (iniTo xs xs.length (j + 1)).set j (x, x) = iniTo xs xs.length (j + 1) by
                      obtain ⟨h1, h2⟩ := List.getElem?_eq_some_iff.1 hini
                      rw [← h2]; exact List.set_getElem_self h1] at hnew
                    have HNEW := hid hnew
                    obtain ⟨gs, hgs⟩ : ∃ gs, Gg r = gs := ⟨_, rfl⟩
                    rw [hgs] at z1 z2 z3 f2 f3 bl HNEW
                    clear hnew hset hb hbs gm y1 hgs hini
                    go_still_tail 41, (by kernel_rfl)
                    go_wp2
                    go_roundw
                    case rel =>
                      refine ⟨j + 1, by omega, by go_num, ?_⟩
                      have hn := HNEW.out
                      exact hn.keep (Below.refl _ _).drew
                    case measure => first | (simp [intOf]; done) | (simp [intOf]; omega)
                  · have hjI : decide ((j : Int) < (xs.length : Int)) = false := by simp; omega
                    obtain rfl : j = xs.length := by omega
                    clear y1
                    go_wp2
                    go_roundw
                    case rel => exact ⟨r + 1, some ⟨g6, 0, none⟩, ns3, cap6, by omega, by go_num, by rw [← HNX.out]; exact HS.out⟩
                    case measure => first | (simp [intOf]; done) | (simp [intOf]; omega)
            · have hrI : decide ((r : Int) < (cs.length : Int)) = false := by simp; omega
              obtain rfl : r = cs.length := by omega
              have af0 := HS.out.ab.frozen 0
              have al := HS.out.ab.lt
              have HE := hid (show Blk (wr.setCell ⟨ga, 0, none⟩ (.int .i64 1)) w.heap.size 25 #[.int .i64 b, .slice A cs.length c, .slice A2 fs.length c2] ∧ Blk (wr.setCell ⟨ga, 0, none⟩ (.int .i64 1)) (w.heap.size + 1) 43 #[.int .i64 0, .slice none 0 0, .int .i64 0, .slice none 0 0] ∧ Blk (wr.setCell ⟨ga, 0, none⟩ (.int .i64 1)) ga 43 #[.int .i64 ((rndTo b cs fs (q + 1)).length : Int), .slice BA1 nb1 cb1, .int .i64 ch1, .slice SA2 ns2 cS2] ∧ AllP cs (rndTo b cs fs (q + 1)) (.slice BA1 nb1 cb1) ch1 (.slice SA2 ns2 cS2) w (wr.setCell ⟨ga, 0, none⟩ (.int .i64 1)) by
                have h := HS.out
                rw [HRT.out]
                refine ⟨h.tb.far (p := ⟨ga, 0, none⟩) (Blk.ne_ h.tb h.ab (by decide)) _, h.rb.far (p := ⟨ga, 0, none⟩) hga3 _, ?_, ⟨h.num.below.setCell (p := ⟨ga, 0, none⟩) hga2 _, ?_, ?_⟩⟩
                · exact h.ab.set_ 0 (.int .i64 1)
                · obtain ⟨Gg, gm⟩ := h.gm
                  refine ⟨Gg, ?_⟩
                  rw [spn_one]
                  rw [List.take_of_length_le (by unfold iniG; rw [List.length_map, hTL]; omega)] at gm
                  exact gm.far h.ab (by decide) (by decide) _
                · obtain ⟨x, gb, Rb, h1, h2, h3, h4⟩ := h.best
                  exact .inr ⟨x, gb, Rb, h1, h2, h3, h4.far h.ab (by decide) (by decide) hga2 _⟩)
              go_wp2
              go_roundw
              case rel => exact ⟨q + 1, BA1, nb1, cb1, ch1, SA2, ns2, cS2, by omega, by go_num, by first | exact HE.out.1 | simpa using HE.out.1, by first | exact HE.out.2.1 | simpa using HE.out.2.1, by first | exact HE.out.2.2.1 | simpa using HE.out.2.2.1, by first | exact HE.out.2.2.2 | simpa using HE.out.2.2.2⟩
              case measure => first | (simp [intOf]; done) | (simp [intOf]; omega)
        · have hshp := HSH.out hR0
          have HSP := hid hshp
          have HRT : Hid (rndTo b cs fs (q + 1) = R ++ [T]) := hid (by rw [HRS.out]; simp)
          have hTL := HTL.out
          have hn5 := OK.out.okc.n2
          clear hshp
          obtain ⟨z0, hz0, hns, hcS1, hcS2⟩ : ∃ z0, SA = some ⟨z0, 0, none⟩ ∧ ns = cs.length ∧ cs.length ≤ cS ∧ cS ≤ maxLen := by
            obtain ⟨Gg, gm⟩ := HS.out.gm
            have hn0 := OK.out.okc.n1
            obtain ⟨z, cap, e, e1, e2, _⟩ := gm.at_ (r := 0) (by rw [HSP.out.1]; omega)
            injection e with e3 e4 e5
            rw [HSP.out.1] at e4 e1
            exact ⟨z, e3, e4, by omega, by omega⟩
          subst hz0 hns
          unfold maxLen at hcS2
          go_wp2
          go_loopw [7] (fun i W => ∃ r : Nat, r ≤ cs.length ∧ i = .int .i64 (r : Int) ∧ RS b A c cs A2 c2 fs R T go Rr ga ch1 (.slice BA1 nb1 cb1) (.slice (some ⟨z0, 0, none⟩) cs.length cS) (updAT (spn R) T r) w W) (fun i _ => cs.length - (intOf i).toNat)
          case atStart => exact ⟨0, Nat.zero_le _, rfl, by rw [updAT_zero]; exact HS.out⟩
          case round =>
            obtain ⟨r, hr, rfl, hrs⟩ := hrel
            clear HS
            have HS := hid hrs
            obtain ⟨a0, a1, a2, a3⟩ := hrs.ab.c4
            clear hrs
            by_cases hrl : r < cs.length
            · have hrI : (r : Int) < (cs.length : Int) := by omega
              have hR0I : ((R.length : Int) == 0) = false := beq_eq_false_iff_ne.2 (by
                have := List.length_pos_iff.2 hR0
                omega)
              obtain ⟨xs, hxs⟩ : ∃ xs, T[r]? = some xs := ⟨_, List.getElem?_eq_getElem (by omega)⟩
              obtain ⟨row, hrow⟩ : ∃ row, (spn R)[r]? = some row := ⟨_, List.getElem?_eq_getElem (by rw [HSP.out.1]; omega)⟩
              have hxl : xs.length = colsOf cs := (HAR.out.2 xs (List.mem_of_getElem? hxs)).1
              have hrl2 : row.length = xs.length := by rw [HSP.out.2 r row hrow, hxl]
              have hug : (updAT (spn R) T r)[r]? = some row := (updAT_get (by rw [HSP.out.1, hTL]) (by rw [HSP.out.1]; omega)).trans hrow
              have hul : r < (updAT (spn R) T r).length := (List.getElem?_eq_some_iff.1 hug).1
              have hgs : (updAT (spn R) T r).set r row = updAT (spn R) T r := by
                obtain ⟨h1, h2⟩ := List.getElem?_eq_some_iff.1 hug
                rw [← h2]; exact List.set_getElem_self h1
              have hnext := updAT_succ (g := spn R) (y := T) (by rw [HSP.out.1, hTL]) hrow hxs
              obtain ⟨U, hU⟩ : ∃ U, updAT (spn R) T r = U := ⟨_, rfl⟩
              rw [hU] at hug hul hgs hnext
              have hrs : RS b A c cs A2 c2 fs R T go Rr ga ch1 (.slice BA1 nb1 cb1) (.slice (some ⟨z0, 0, none⟩) cs.length cS) (U.set r (updTo row xs 0)) w wr := by
                rw [updTo_zero, hgs, ← hU]
                exact HS.out
              clear HS
              have HS := hid hrs
              have HXL := hid (And.intro hxl (And.intro hrl2 (And.intro hxs hul)))
              have HNX := hid hnext
              have hx5 : (xs.length : Int) ≤ 5 := by have := OK.out.okc.c2; omega
              clear hrs hxl hrl2 hxs hul hug hgs hnext hrow hU
              obtain ⟨y0, _⟩ := HS.out.num.at_ HTL.out HLEN.out HXL.out.2.2.1
              go_wp2
              clear a0 a1 a2 a3 y0
              go_loopw [8] (fun i W => ∃ j : Nat, j ≤ xs.length ∧ i = .int .i64 (j : Int) ∧ RS b A c cs A2 c2 fs R T go Rr ga ch1 (.slice BA1 nb1 cb1) (.slice (some ⟨z0, 0, none⟩) cs.length cS) (U.set r (updTo row xs j)) w W) (fun i _ => xs.length - (intOf i).toNat)
              case atStart => exact ⟨0, Nat.zero_le _, rfl, HS.out⟩
              case round =>
                obtain ⟨j, hj, rfl, hrs⟩ := hrel
                clear HS
                have HS := hid hrs
                clear hrs
                obtain ⟨a0, a1, a2, a3⟩ := HS.out.ab.c4
                obtain ⟨y0, y1⟩ := HS.out.num.at_ HTL.out HLEN.out HXL.out.2.2.1
                by_cases hjl : j < xs.length
                · have hjI : (j : Int) < (xs.length : Int) := by omega
                  obtain ⟨x, hx⟩ : ∃ x, xs[j]? = some x := ⟨_, List.getElem?_eq_getElem hjl⟩
                  obtain ⟨p, hp⟩ : ∃ p, row[j]? = some p := ⟨_, List.getElem?_eq_getElem (by have := HXL.out.2.1; omega)⟩
                  have y2 := y1 j x hx
                  obtain ⟨Gg, gm⟩ := HS.out.gm
                  have hset : (U.set r (updTo row xs j))[r]? = some (updTo row xs j) := List.getElem?_set_self HXL.out.2.2.2
                  have z1 := gm.at2 (List.getElem?_eq_some_iff.1 hset).1
                  obtain ⟨hb, _, hbs⟩ := gm.rows r _ hset
                  have hpj : (updTo row xs j)[j]? = some p := (updTo_get HXL.out.2.1 hjl).trans hp
                  have z2 := hb.cell (j * 2)
                  have z3 := hb.cell (j * 2 + 1)
                  rw [List.getElem?_toArray, (rowCells_lo hpj).1] at z2
                  rw [List.getElem?_toArray, (rowCells_lo hpj).2] at z3
                  have f2 := hb.frozen (j * 2)
                  have f3 := hb.frozen (j * 2 + 1)
                  have bl := hb.lt
                  have hnew := HS.out.store gm (k := j) hset (min p.1 x) (max p.2 x)
                  rw [List.set_set, show (updTo row xs j).set j (min p.1 x, max p.2 x) = updTo row xs (j + 1) by
                    rw [updTo_succ HXL.out.2.1 hjl]
                    obtain ⟨_, e1⟩ := List.getElem?_eq_some_iff.1 hx
                    obtain ⟨_, e2⟩ := List.getElem?_eq_some_iff.1 hp
                    rw [e1, e2]; rfl] at hnew
                  have HNEW := hid hnew
                  have hjm : (j : Int) < (colsOf cs : Int) := by have := HXL.out.1; omega
                  obtain ⟨gr, hgr⟩ : ∃ gr, Gg r = gr := ⟨_, rfl⟩
                  rw [hgr] at z1 z2 z3 f2 f3 bl HNEW
                  clear hnew hset hb hbs hpj hx hp gm y1 hgr
                  go_wp2
                  go_still_tail 41, (by kernel_rfl)
                  go_wp2
                  go_roundw
                  case rel =>
                    refine ⟨j + 1, by omega, by go_num, ?_⟩
                    have hn := HNEW.out
                    rw [show min p.1 x = (if x < p.1 then x else p.1) by split <;> omega, show max p.2 x = (if p.2 < x then x else p.2) by split <;> omega] at hn
                    exact hn.keep (Below.refl _ _).drew
                  case measure => first | (simp [intOf]; done) | (simp [intOf]; omega)
                · have hjI : decide ((j : Int) < (xs.length : Int)) = false := by simp; omega
                  obtain rfl : j = xs.length := by omega
                  clear y1
                  go_wp2
                  go_roundw
                  case rel => exact ⟨r + 1, by omega, by go_num, by rw [HNX.out]; exact HS.out⟩
                  case measure => first | (simp [intOf]; done) | (simp [intOf]; omega)
            · have hrI : decide ((r : Int) < (cs.length : Int)) = false := by simp; omega
              obtain rfl : r = cs.length := by omega
              have af0 := HS.out.ab.frozen 0
              have al := HS.out.ab.lt
              have hw1 : IntKind.i64.wrap ((R.length : Int) + 1) = (R.length : Int) + 1 := IntWalk.i64_in _ (by omega)
              have HE := hid (show Blk (wr.setCell ⟨ga, 0, none⟩ (.int .i64 ((R.length : Int) + 1))) w.heap.size 25 #[.int .i64 b, .slice A cs.length c, .slice A2 fs.length c2] ∧ Blk (wr.setCell ⟨ga, 0, none⟩ (.int .i64 ((R.length : Int) + 1))) (w.heap.size + 1) 43 #[.int .i64 0, .slice none 0 0, .int .i64 0, .slice none 0 0] ∧ Blk (wr.setCell ⟨ga, 0, none⟩ (.int .i64 ((R.length : Int) + 1))) ga 43 #[.int .i64 ((rndTo b cs fs (q + 1)).length : Int), .slice BA1 nb1 cb1, .int .i64 ch1, (.slice (some ⟨z0, 0, none⟩) cs.length cS)] ∧ AllP cs (rndTo b cs fs (q + 1)) (.slice BA1 nb1 cb1) ch1 (.slice (some ⟨z0, 0, none⟩) cs.length cS) w (wr.setCell ⟨ga, 0, none⟩ (.int .i64 ((R.length : Int) + 1))) by
                have h := HS.out
                rw [HRT.out]
                refine ⟨h.tb.far (p := ⟨ga, 0, none⟩) (Blk.ne_ h.tb h.ab (by decide)) _, h.rb.far (p := ⟨ga, 0, none⟩) hga3 _, ?_, ⟨h.num.below.setCell (p := ⟨ga, 0, none⟩) hga2 _, ?_, ?_⟩⟩
                · have := h.ab.set_ 0 (.int .i64 ((R.length : Int) + 1))
                  rw [List.length_append, List.length_singleton]
                  exact this
                · obtain ⟨Gg, gm⟩ := h.gm
                  refine ⟨Gg, ?_⟩
                  rw [spn_snoc hR0, ← updAT_all (by rw [HSP.out.1, hTL]), hTL]
                  exact gm.far h.ab (by decide) (by decide) _
                · obtain ⟨x, gb, Rb, h1, h2, h3, h4⟩ := h.best
                  exact .inr ⟨x, gb, Rb, h1, h2, h3, h4.far h.ab (by decide) (by decide) hga2 _⟩)
              go_wp2
              go_roundw
              case rel => exact ⟨q + 1, BA1, nb1, cb1, ch1, some ⟨z0, 0, none⟩, cs.length, cS, by omega, by go_num, by first | exact HE.out.1 | simpa using HE.out.1, by first | exact HE.out.2.1 | simpa using HE.out.2.1, by first | exact HE.out.2.2.1 | simpa using HE.out.2.2.1, by first | exact HE.out.2.2.2 | simpa using HE.out.2.2.2⟩
              case measure => first | (simp [intOf]; done) | (simp [intOf]; omega)
    · have hqI : decide ((q : Int) < (N : Int)) = false := by simp; omega
      obtain rfl : q = N := by omega
      obtain ⟨a0, a1, a2, a3⟩ := HA2.out.c4
      obtain ⟨r0, r1, r2, r3⟩ := HR2.out.c4
      have rf0 := HR2.out.frozen 0
      have rf1 := HR2.out.frozen 1
      have rf2 := HR2.out.frozen 2
      have rf3 := HR2.out.frozen 3
      have rl := HR2.out.lt
      have al := HA2.out.lt
      have hl1 : w.heap.size ≤ w.heap.size + 1 := by omega
      have z1 := HR2.out.set_ 0 (.int .i64 ((rndTo b cs fs q).length : Int))
      have p1 := HP2.out.far (i := 0) HR2.out hl1 (.int .i64 ((rndTo b cs fs q).length : Int))
      have z2 := z1.set_ 1 (.slice BA nb cb)
      have p2 := p1.far (i := 1) z1 hl1 (.slice BA nb cb)
      have z3 := z2.set_ 2 (.int .i64 ch)
      have p3 := p2.far (i := 2) z2 hl1 (.int .i64 ch)
      have z4 := z3.set_ 3 (.slice SA ns cS)
      have p4 := p3.far (i := 3) z3 hl1 (.slice SA ns cS)
      have HZF := hid z4
      have HPF := hid p4
      clear z1 z2 z3 z4 p1 p2 p3 p4 hl1
      go_wp2
      generalize ((((w2.setCell ⟨w.heap.size + 1, 0, none⟩ (.int .i64 ((rndTo b cs fs q).length : Int))).setCell ⟨w.heap.size + 1, 1, none⟩ (.slice BA nb cb)).setCell ⟨w.heap.size + 1, 2, none⟩ (.int .i64 ch)).setCell ⟨w.heap.size + 1, 3, none⟩ (.slice SA ns cS)) = W9 at *
      have hz4 : Blk W9 (w.heap.size + 1) 43 #[.int .i64 ((rndTo b cs fs q).length : Int), .slice BA nb cb, .int .i64 ch, .slice SA ns cS] := HZF.out
      obtain ⟨e0, e1, e2, e3⟩ := hz4.c4
      clear hz4 HZF a0 a1 a2 a3 r0 r1 r2 r3 rf0 rf1 rf2 rf3
      refine bodyPost_ret (v := .agg #[.int .i64 ((rndTo b cs fs q).length : Int), .slice BA nb cb, .int .i64 ch, .slice SA ns cS]) (by simp [results, Try.results23, go_sem, e0, e1, e2, e3]) rfl ?_
      exact ⟨.slice BA nb cb, ch, .slice SA ns cS, by rw [HRA.out], by rw [← HRA.out]; exact HPF.out⟩
end Go.Proofs.Ytgoianldiomdoaa
