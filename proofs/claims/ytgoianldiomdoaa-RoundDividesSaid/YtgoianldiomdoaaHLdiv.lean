/- For every list of weights and every total, what Divide returns is as the document says, or the error is: the statement RoundDivides. No condition. -/
import Derived.Test.YtgoianldiomdoaaG8
import Derived.Test.YtgoianldiomdoaaG7
import Derived.Test.YtgoianldiomdoaaG6
namespace Go.Proofs.Ytgoianldiomdoaa
open Go.RowKit Go.Shelf

set_option maxRecDepth 100000 in
set_option maxHeartbeats 4000000 in
theorem divides_ok (A : Option Addr) (c : Nat) (ws : List Int) (total : Int) (w : World) (h : IsInts w w.heap.size A ws) (hA : A = none → c = 0) (hl : ws.length ≤ c) (hm : c ≤ maxLen) (he : divE ws total = 0) :
    Calls Try.prog 5 #[.slice A ws.length c, .int .i64 total] w fun e w' => e = .returned (.bool true) ∧ Below w.heap.size w w' := by
  have KA := hid (fun W => awake_any W)
  unfold maxLen at hm
  obtain ⟨ok, hne, hg, hwt⟩ := div_ok he
  have hl12 := ok.l
  have hs0 := ok.s0
  have K1 := hid (list_any A c ws w h hA (by omega))
  have K2 := hid (fun A3 c3 W (h1 : IsInts W W.heap.size A3 ws) (h2 : ws.length ≤ c3) (h3 : c3 ≤ maxLen) => divide_ok A3 c3 ws total W h1 h2 h3 he)
  have K3 := hid (fun W (hW : Below w.heap.size w W) => rdivide_any A c ws total W (h.at_ hW) hl (by unfold maxLen; exact hm) he)
  have KIN := hid (fun (x lo hi : Int) (W : World) => in_any x lo hi W)
  have hdl := div_len ws total
  have HI := hid h
  have OK := hid (And.intro ok (List.all_eq_true.1 hg))
  have HWT := hid hwt
  have h15 : decide ((15 : Int) < (ws.length : Int)) = false := by simp; omega
  have h12 : decide ((12 : Int) < (ws.length : Int)) = false := by simp; omega
  have hsz : (ws.sum == 0) = false := by simp; omega
  have hs1 := ok.s1
  clear h hA ok hne hg hwt he
  go_enter Try.func5, Try.ntmps5
  go_wp2_with fail
  refine (K1.out).mono ?_
  rintro e w2 ⟨A3, c3, rfl, g1, g2, g3, g4, g5, hb2⟩
  have HB2 := hid hb2
  have hk2 := hid (K2.out A3 c3 w2 g3 g1 g2)
  clear K1 K2 hb2 g1 g2 g3 g4 g5
  go_wp2_with fail
  refine (hk2.out).mono ?_
  rintro e w3 ⟨A4, c4, rfl, d1, d2, d3, d4, d5, hb3⟩
  have HB3 := hid (HB2.out.trans (hb3.mono HB2.out.size))
  have HD := hid (And.intro d1 (And.intro d2 d3))
  clear hk2 hb3 d1 d2 d3 d4 d5
  go_wp2
  go_loopw [7, 8, 9] (fun t l i wr => ∃ k : Nat, k ≤ ws.length ∧ i = .int .i64 k ∧ t = .int .i64 0 ∧ l = .int .i64 ((ws.take k).sum) ∧ Below w3.heap.size w3 wr) (fun _ _ i _ => ws.length - (intOf i).toNat)
  case atStart => exact ⟨0, Nat.zero_le _, rfl, rfl, rfl, Below.refl _ _⟩
  case round =>
    obtain ⟨k, hk, rfl, rfl, rfl, hbr⟩ := hrel
    by_cases hlt : k < ws.length
    · have hkI : (k : Int) < (ws.length : Int) := by omega
      obtain ⟨x, hx⟩ : ∃ x, ws[k]? = some x := ⟨_, List.getElem?_eq_getElem hlt⟩
      have hxb := OK.out.1.x x (List.mem_of_getElem? hx)
      have hxg := OK.out.2 x (List.mem_of_getElem? hx)
      obtain ⟨a, rfl, hab, hac⟩ := (HI.out.at_ (HB3.out.trans (hbr.mono HB3.out.size))) k x hx
      have hpl := part_le (fun x hx => (OK.out.1.x x hx).1) k
      have HSK := hid (show (ws.take (k + 1)).sum = (ws.take k).sum + x by
        obtain ⟨hk', e⟩ := List.getElem?_eq_some_iff.1 hx
        rw [List.take_succ_eq_append_getElem hk', List.sum_append, e]; simp)
      have KX := hid (fun W => KIN.out x 0 10000 W)
      have hxg' : withinB x 0 10000 = true := hxg
      rw [hxg'] at KX
      have HBR := hid hbr
      clear hx hab hxg hxg' hbr
      go_wp2_with fail
      refine (KX.out _).mono ?_
      rintro e w5 ⟨rfl, rfl⟩
      go_wp2
      go_roundw
      case rel => exact ⟨k + 1, by omega, by go_num, rfl, (by first | rfl | (rw [HSK.out])), HBR.out⟩
      case measure => first | (simp [intOf]; done) | (simp [intOf]; omega)
    · have hkI : decide ((k : Int) < (ws.length : Int)) = false := by simp; omega
      obtain rfl : k = ws.length := by omega
      rw [List.take_length]
      have HBR := hid hbr
      have KX := hid (fun W => KIN.out total 0 100000 W)
      rw [HWT.out] at KX
      clear hbr
      go_wp2_with fail
      refine (KX.out _).mono ?_
      rintro e w5 ⟨rfl, rfl⟩
      go_wp2_with fail
      refine (K3.out _ (HB3.out.trans (HBR.out.mono HB3.out.size))).mono ?_
      rintro e w6 ⟨A5, c5, rfl, f1, f2, f3, hb6⟩
      have HB6 := hid (HBR.out.trans (hb6.mono HBR.out.size))
      have KINT := hid (ints_any A4 c4 (divOf ws total) A5 c5 (divOf ws total) w6 (HD.out.1.at_ HB6.out) f1 (by rw [hdl]; exact HD.out.2.1) HD.out.2.2 (by rw [hdl]; exact f2) f3)
      rw [hdl, show decide (divOf ws total = divOf ws total) = true by simp] at KINT
      clear hb6 f1 f2 f3 K3
      go_wp2_with fail
      refine (KINT.out).mono ?_
      rintro e w7 ⟨rfl, hb7⟩
      have HB7 := hid (HB6.out.trans (hb7.mono HB6.out.size))
      clear hb7 KINT
      go_wp2_with fail
      refine (KA.out _).mono ?_
      rintro e w8 ⟨rfl, hb8⟩
      have HB8 := hid (HB7.out.trans (hb8.mono HB7.out.size))
      clear hb8
      go_wp2
      go_ret
      exact ⟨rfl, HB3.out.trans (HB8.out.mono HB3.out.size)⟩

theorem div_cases (ws : List Int) (total : Int) : (divE ws total = 3 ∧ 12 < ws.length) ∨ divE ws total = 2 ∨ divE ws total = 7 ∨ divE ws total = 0 := by
  unfold divE
  by_cases h1 : 12 < ws.length
  · rw [if_pos h1]; exact .inl ⟨rfl, h1⟩
  · rw [if_neg h1]
    right
    split
    · exact .inl rfl
    · split
      · exact .inr (.inl rfl)
      · exact .inr (.inr rfl)
theorem div_seven {ws : List Int} {total : Int} (h : divE ws total = 7) : ws.length ≤ 12 ∧ (∀ x ∈ ws, withinB x 0 10000 = true) ∧ withinB total 0 100000 = true ∧ ws.sum = 0 := by
  unfold divE at h
  by_cases h1 : 12 < ws.length
  · rw [if_pos h1] at h; cases h
  rw [if_neg h1] at h
  cases ha : (ws.all fun x => withinB x 0 10000)
  · rw [ha] at h; simp at h
  cases hb : withinB total 0 100000
  · rw [ha, hb] at h; simp at h
  rw [ha, hb] at h
  cases hs : (ws.sum == 0)
  · rw [hs] at h; simp at h
  · exact ⟨by omega, List.all_eq_true.1 ha, rfl, by simpa using hs⟩
theorem div_two {ws : List Int} {total : Int} (h : divE ws total = 2) : ws.length ≤ 12 ∧ ((∃ x ∈ ws, withinB x 0 10000 = false) ∨ withinB total 0 100000 = false) := by
  unfold divE at h
  by_cases h1 : 12 < ws.length
  · rw [if_pos h1] at h; cases h
  rw [if_neg h1] at h
  refine ⟨by omega, ?_⟩
  cases hb : withinB total 0 100000
  · exact .inr rfl
  cases ha : (ws.all fun x => withinB x 0 10000)
  · rw [List.all_eq_false] at ha
    obtain ⟨x, hx, hn⟩ := ha
    exact .inl ⟨x, hx, by simpa using hn⟩
  · rw [ha, hb] at h
    cases hs : (ws.sum == 0) <;> (rw [hs] at h; simp at h)
theorem part_good (ws : List Int) (k : Nat) (hl : ws.length ≤ 12) (h : ∀ (i : Nat) (x : Int), i < k → ws[i]? = some x → withinB x 0 10000 = true) : 0 ≤ (ws.take k).sum ∧ (ws.take k).sum ≤ 12 * 10000 := by
  have hb : ∀ y ∈ ws.take k, 0 ≤ y ∧ y ≤ 10000 := fun y hy => by
    obtain ⟨i, hi⟩ := List.getElem?_of_mem hy
    rw [List.getElem?_take] at hi
    split at hi
    · rename_i hik
      have := h i y hik hi
      simpa [withinB] using this
    · cases hi
  have h1 := sum_nonneg _ fun y hy => (hb y hy).1
  have h2 := take_sum_le 10000 _ fun y hy => (hb y hy).2
  have h3 : (ws.take k).length ≤ 12 := by simp; omega
  omega

set_option maxRecDepth 100000 in
set_option maxHeartbeats 4000000 in
theorem divides_3 (A : Option Addr) (c : Nat) (ws : List Int) (total : Int) (w : World) (h : IsInts w w.heap.size A ws) (hA : A = none → c = 0) (hl : ws.length ≤ c) (hm : c ≤ maxLen) (he : divE ws total = 3) (h12 : 12 < ws.length) (h15 : ws.length ≤ 15) :
    Calls Try.prog 5 #[.slice A ws.length c, .int .i64 total] w fun e w' => e = .returned (.bool true) ∧ Below w.heap.size w w' := by
  have KA := hid (fun W => awake_any W)
  unfold maxLen at hm
  have h15I : decide ((15 : Int) < (ws.length : Int)) = false := by simp; omega
  have h12I : (12 : Int) < (ws.length : Int) := by omega
  have h0I : (0 : Int) < (ws.length : Int) := by omega
  have K1 := hid (list_any A c ws w h hA (by omega))
  have K2 := hid (fun A3 c3 W (h1 : IsInts W W.heap.size A3 ws) (h2 : ws.length ≤ c3) (h3 : c3 ≤ maxLen) => divide_bad A3 c3 ws total W h1 h2 h3 (by rw [he]; decide))
  rw [he] at K2
  have KIN := hid (fun (x lo hi : Int) (W : World) => in_any x lo hi W)
  have HI := hid h
  have HE := hid he
  clear h hA he
  go_enter Try.func5, Try.ntmps5
  go_wp2_with fail
  refine (K1.out).mono ?_
  rintro e w2 ⟨A3, c3, rfl, g1, g2, g3, g4, g5, hb2⟩
  have HB2 := hid hb2
  have hk2 := hid (K2.out A3 c3 w2 g3 g1 g2)
  clear K1 K2 hb2 g1 g2 g3 g4 g5
  go_wp2_with fail
  refine (hk2.out).mono ?_
  rintro e w3 ⟨rfl, hb3⟩
  have HB3 := hid (HB2.out.trans (hb3.mono HB2.out.size))
  clear hk2 hb3
  go_wp2
  go_loopw [7, 8, 9] (fun t l i wr => i = .int .i64 0 ∧ t = .int .i64 3 ∧ l = .int .i64 0 ∧ Below w3.heap.size w3 wr) (fun _ _ _ _ => 0)
  case atStart => exact ⟨rfl, rfl, rfl, Below.refl _ _⟩
  case round =>
    obtain ⟨rfl, rfl, rfl, hbr⟩ := hrel
    have HBR := hid hbr
    clear hbr
    go_wp2_with fail
    refine (KA.out _).mono ?_
    rintro e w8 ⟨rfl, hb8⟩
    have HB8 := hid (HBR.out.trans (hb8.mono HBR.out.size))
    clear hb8
    go_wp2
    go_ret
    exact ⟨rfl, HB3.out.trans (HB8.out.mono HB3.out.size)⟩

set_option maxRecDepth 100000 in
set_option maxHeartbeats 4000000 in
theorem divides_7 (A : Option Addr) (c : Nat) (ws : List Int) (total : Int) (w : World) (h : IsInts w w.heap.size A ws) (hA : A = none → c = 0) (hl : ws.length ≤ c) (hm : c ≤ maxLen) (he : divE ws total = 7) :
    Calls Try.prog 5 #[.slice A ws.length c, .int .i64 total] w fun e w' => e = .returned (.bool true) ∧ Below w.heap.size w w' := by
  have KA := hid (fun W => awake_any W)
  unfold maxLen at hm
  obtain ⟨hl12, hgood, hwt, hsum⟩ := div_seven he
  have OK := hid (show (∀ x ∈ ws, 0 ≤ x ∧ x ≤ 10000) ∧ ∀ x ∈ ws, withinB x 0 10000 = true from ⟨fun x hx => by simpa [withinB] using hgood x hx, hgood⟩)
  have HWT := hid hwt
  have HSU := hid hsum
  have h15 : decide ((15 : Int) < (ws.length : Int)) = false := by simp; omega
  have h12 : decide ((12 : Int) < (ws.length : Int)) = false := by simp; omega
  have hsb := wsum_bound OK.out.1
  have K1 := hid (list_any A c ws w h hA (by omega))
  have K2 := hid (fun A3 c3 W (h1 : IsInts W W.heap.size A3 ws) (h2 : ws.length ≤ c3) (h3 : c3 ≤ maxLen) => divide_bad A3 c3 ws total W h1 h2 h3 (by rw [he]; decide))
  rw [he] at K2
  have KIN := hid (fun (x lo hi : Int) (W : World) => in_any x lo hi W)
  have HI := hid h
  have HE := hid he
  clear h hA he hgood hwt hsum
  go_enter Try.func5, Try.ntmps5
  go_wp2_with fail
  refine (K1.out).mono ?_
  rintro e w2 ⟨A3, c3, rfl, g1, g2, g3, g4, g5, hb2⟩
  have HB2 := hid hb2
  have hk2 := hid (K2.out A3 c3 w2 g3 g1 g2)
  clear K1 K2 hb2 g1 g2 g3 g4 g5
  go_wp2_with fail
  refine (hk2.out).mono ?_
  rintro e w3 ⟨rfl, hb3⟩
  have HB3 := hid (HB2.out.trans (hb3.mono HB2.out.size))
  clear hk2 hb3
  go_wp2
  go_loopw [7, 8, 9] (fun t l i wr => ∃ k : Nat, k ≤ ws.length ∧ i = .int .i64 k ∧ t = .int .i64 0 ∧ l = .int .i64 ((ws.take k).sum) ∧ Below w3.heap.size w3 wr) (fun _ _ i _ => ws.length - (intOf i).toNat)
  case atStart => exact ⟨0, Nat.zero_le _, rfl, rfl, rfl, Below.refl _ _⟩
  case round =>
    obtain ⟨k, hk, rfl, rfl, rfl, hbr⟩ := hrel
    by_cases hlt : k < ws.length
    · have hkI : (k : Int) < (ws.length : Int) := by omega
      obtain ⟨x, hx⟩ : ∃ x, ws[k]? = some x := ⟨_, List.getElem?_eq_getElem hlt⟩
      have hxb := OK.out.1 x (List.mem_of_getElem? hx)
      have hxg := OK.out.2 x (List.mem_of_getElem? hx)
      obtain ⟨a, rfl, hab, hac⟩ := (HI.out.at_ (HB3.out.trans (hbr.mono HB3.out.size))) k x hx
      have hpl := part_le (fun x hx => (OK.out.1 x hx).1) k
      have HSK := hid (show (ws.take (k + 1)).sum = (ws.take k).sum + x by
        obtain ⟨hk', e⟩ := List.getElem?_eq_some_iff.1 hx
        rw [List.take_succ_eq_append_getElem hk', List.sum_append, e]; simp)
      have KX := hid (fun W => KIN.out x 0 10000 W)
      have hxg' : withinB x 0 10000 = true := hxg
      rw [hxg'] at KX
      have HBR := hid hbr
      clear hx hab hxg hxg' hbr
      go_wp2_with fail
      refine (KX.out _).mono ?_
      rintro e w5 ⟨rfl, rfl⟩
      go_wp2
      go_roundw
      case rel => exact ⟨k + 1, by omega, by go_num, rfl, (by first | rfl | (rw [HSK.out])), HBR.out⟩
      case measure => first | (simp [intOf]; done) | (simp [intOf]; omega)
    · have hkI : decide ((k : Int) < (ws.length : Int)) = false := by simp; omega
      obtain rfl : k = ws.length := by omega
      rw [List.take_length, HSU.out]
      have HBR := hid hbr
      have KX := hid (fun W => KIN.out total 0 100000 W)
      rw [HWT.out] at KX
      clear hbr
      go_wp2_with fail
      refine (KX.out _).mono ?_
      rintro e w5 ⟨rfl, rfl⟩
      go_wp2_with fail
      refine (KA.out _).mono ?_
      rintro e w8 ⟨rfl, hb8⟩
      have HB8 := hid (HBR.out.trans (hb8.mono HBR.out.size))
      clear hb8
      go_wp2
      go_ret
      exact ⟨rfl, HB3.out.trans (HB8.out.mono HB3.out.size)⟩

set_option maxRecDepth 100000 in
set_option maxHeartbeats 4000000 in
theorem divides_2 (A : Option Addr) (c : Nat) (ws : List Int) (total : Int) (w : World) (h : IsInts w w.heap.size A ws) (hA : A = none → c = 0) (hl : ws.length ≤ c) (hm : c ≤ maxLen) (he : divE ws total = 2) :
    Calls Try.prog 5 #[.slice A ws.length c, .int .i64 total] w fun e w' => e = .returned (.bool true) ∧ Below w.heap.size w w' := by
  have KA := hid (fun W => awake_any W)
  unfold maxLen at hm
  obtain ⟨hl12, hbad⟩ := div_two he
  have HBAD := hid hbad
  have h15 : decide ((15 : Int) < (ws.length : Int)) = false := by simp; omega
  have h12 : decide ((12 : Int) < (ws.length : Int)) = false := by simp; omega
  have K1 := hid (list_any A c ws w h hA (by omega))
  have K2 := hid (fun A3 c3 W (h1 : IsInts W W.heap.size A3 ws) (h2 : ws.length ≤ c3) (h3 : c3 ≤ maxLen) => divide_bad A3 c3 ws total W h1 h2 h3 (by rw [he]; decide))
  rw [he] at K2
  have KIN := hid (fun (x lo hi : Int) (W : World) => in_any x lo hi W)
  have HI := hid h
  have HE := hid he
  clear h hA he hbad
  go_enter Try.func5, Try.ntmps5
  go_wp2_with fail
  refine (K1.out).mono ?_
  rintro e w2 ⟨A3, c3, rfl, g1, g2, g3, g4, g5, hb2⟩
  have HB2 := hid hb2
  have hk2 := hid (K2.out A3 c3 w2 g3 g1 g2)
  clear K1 K2 hb2 g1 g2 g3 g4 g5
  go_wp2_with fail
  refine (hk2.out).mono ?_
  rintro e w3 ⟨rfl, hb3⟩
  have HB3 := hid (HB2.out.trans (hb3.mono HB2.out.size))
  clear hk2 hb3
  go_wp2
  go_loopw [7, 8, 9] (fun t l i wr => ∃ k : Nat, k ≤ ws.length ∧ i = .int .i64 k ∧ ((t = .int .i64 0 ∧ l = .int .i64 ((ws.take k).sum) ∧ ∀ (i : Nat) (x : Int), i < k → ws[i]? = some x → withinB x 0 10000 = true) ∨ (t = .int .i64 2 ∧ ∃ s : Int, l = .int .i64 s)) ∧ Below w3.heap.size w3 wr) (fun _ _ i _ => ws.length - (intOf i).toNat)
  case atStart => exact ⟨0, Nat.zero_le _, rfl, .inl ⟨rfl, rfl, fun i x hi => absurd hi (Nat.not_lt_zero _)⟩, Below.refl _ _⟩
  case round =>
    obtain ⟨k, hk, rfl, hst, hbr⟩ := hrel
    have HBR := hid hbr
    rcases hst with ⟨rfl, rfl, hgk⟩ | ⟨rfl, s, rfl⟩
    · have HGK := hid hgk
      have hpl := part_good ws k hl12 hgk
      clear hgk
      by_cases hlt : k < ws.length
      · have hkI : (k : Int) < (ws.length : Int) := by omega
        obtain ⟨x, hx⟩ : ∃ x, ws[k]? = some x := ⟨_, List.getElem?_eq_getElem hlt⟩
        obtain ⟨a, rfl, hab, hac⟩ := (HI.out.at_ (HB3.out.trans (hbr.mono HB3.out.size))) k x hx
        have HX := hid hx
        have KX := hid (fun W => KIN.out x 0 10000 W)
        clear hbr hx hab
        cases hxg : withinB x 0 10000
        · rw [hxg] at KX
          clear hxg
          go_wp2_with fail
          refine (KX.out _).mono ?_
          rintro e w5 ⟨rfl, rfl⟩
          go_wp2
          go_roundw
          case rel => exact ⟨k + 1, by omega, by go_num, .inr ⟨rfl, _, rfl⟩, HBR.out⟩
          case measure => first | (simp [intOf]; done) | (simp [intOf]; omega)
        · have hxb : 0 ≤ x ∧ x ≤ 10000 := by simpa [withinB] using hxg
          have HXG := hid hxg
          rw [hxg] at KX
          have HSK := hid (show (ws.take (k + 1)).sum = (ws.take k).sum + x by
            obtain ⟨hk', e⟩ := List.getElem?_eq_some_iff.1 HX.out
            rw [List.take_succ_eq_append_getElem hk', List.sum_append, e]; simp)
          clear hxg
          go_wp2_with fail
          refine (KX.out _).mono ?_
          rintro e w5 ⟨rfl, rfl⟩
          go_wp2
          go_roundw
          case rel =>
            refine ⟨k + 1, by omega, by go_num, .inl ⟨rfl, (by first | rfl | (rw [HSK.out])), fun i y hi hy => ?_⟩, HBR.out⟩
            by_cases e : i = k
            · subst e
              rw [HX.out] at hy
              injection hy with hy
              subst hy
              exact HXG.out
            · exact HGK.out i y (by omega) hy
          case measure => first | (simp [intOf]; done) | (simp [intOf]; omega)
      · have hkI : decide ((k : Int) < (ws.length : Int)) = false := by simp; omega
        obtain rfl : k = ws.length := by omega
        have KX := hid (fun W => KIN.out total 0 100000 W)
        have hwt : withinB total 0 100000 = false := by
          rcases HBAD.out with ⟨x, hx, hxb⟩ | hx
          · obtain ⟨i, hi⟩ := List.getElem?_of_mem hx
            have := HGK.out i x (List.getElem?_eq_some_iff.1 hi).1 hi
            rw [this] at hxb; cases hxb
          · exact hx
        rw [hwt] at KX
        clear hbr hwt
        go_wp2_with fail
        refine (KX.out _).mono ?_
        rintro e w5 ⟨rfl, rfl⟩
        go_wp2_with fail
        refine (KA.out _).mono ?_
        rintro e w8 ⟨rfl, hb8⟩
        have HB8 := hid (HBR.out.trans (hb8.mono HBR.out.size))
        clear hb8
        go_wp2
        go_ret
        exact ⟨rfl, HB3.out.trans (HB8.out.mono HB3.out.size)⟩
    · clear hbr
      by_cases hlt : k < ws.length
      · have hkI : (k : Int) < (ws.length : Int) := by omega
        go_wp2_with fail
        refine (KA.out _).mono ?_
        rintro e w8 ⟨rfl, hb8⟩
        have HB8 := hid (HBR.out.trans (hb8.mono HBR.out.size))
        clear hb8
        go_wp2
        go_ret
        exact ⟨rfl, HB3.out.trans (HB8.out.mono HB3.out.size)⟩
      · have hkI : decide ((k : Int) < (ws.length : Int)) = false := by simp; omega
        go_wp2_with fail
        refine (KA.out _).mono ?_
        rintro e w8 ⟨rfl, hb8⟩
        have HB8 := hid (HBR.out.trans (hb8.mono HBR.out.size))
        clear hb8
        go_wp2
        go_ret
        exact ⟨rfl, HB3.out.trans (HB8.out.mono HB3.out.size)⟩

set_option maxRecDepth 100000 in
set_option maxHeartbeats 1000000 in
theorem divides_big (A : Option Addr) (c : Nat) (ws : List Int) (total : Int) (w : World) (hl : ws.length ≤ c) (hm : c ≤ maxLen) (h : 15 < ws.length) :
    Calls Try.prog 5 #[.slice A ws.length c, .int .i64 total] w fun e w' => e = .returned (.bool true) ∧ Below w.heap.size w w' := by
  have KA := hid (fun W => awake_any W)
  unfold maxLen at hm
  have h1 : (15 : Int) < (ws.length : Int) := by omega
  clear h
  go_enter Try.func5, Try.ntmps5
  go_wp2_with fail
  refine (KA.out _).mono ?_
  rintro e w4 ⟨rfl, hb4⟩
  have HB := hid hb4
  clear hb4
  go_wp2
  go_ret
  exact ⟨rfl, HB.out⟩

theorem divides_any (A : Option Addr) (c : Nat) (ws : List Int) (total : Int) (w : World) (h : IsInts w w.heap.size A ws) (hA : A = none → c = 0) (hl : ws.length ≤ c) (hm : c ≤ maxLen) :
    Calls Try.prog 5 #[.slice A ws.length c, .int .i64 total] w fun e w' => e = .returned (.bool true) ∧ Below w.heap.size w w' := by
  by_cases h15 : 15 < ws.length
  · exact divides_big A c ws total w hl hm h15
  rcases div_cases ws total with ⟨he, h12⟩ | he | he | he
  · exact divides_3 A c ws total w h hA hl hm he h12 (by omega)
  · exact divides_2 A c ws total w h hA hl hm he
  · exact divides_7 A c ws total w h hA hl hm he
  · exact divides_ok A c ws total w h hA hl hm he

open Go.ChangeShapes Go.WideShapes Go.ChangeAt in
set_option maxRecDepth 100000 in
theorem divides_lifted (os : Os) (started : os.Started) (H : Type) (enc : TypeId × Value → H) :
    ReturnsInHanded {} Try.checked os 5 .any (Rows.roundDividesSpec.pre6 enc Try.prog Try.f5 Rows.roundDividesRow.domain false) (Rows.roundDividesSpec.post enc Try.prog Try.f5 false true false false) := by
  refine returnsInHanded_of_change (C := Try.checked) own started (by kernel_rfl) Try.func5
    (ChangeSpec.witness6 (enc := enc) (C := Try.checked) false ⟨#[], #[.slice none 0 0, .int .i64 0], []⟩ 8 (by kernel_rfl) (by kernel_rfl) (by kernel_rfl) (by kernel_rfl)) ?_
  intro W base args ds gs before hval0 hW hcnd _
  have hval : ∀ (j : Nat) t v, Try.f5.params[j]? = some t → args[j]? = some v → Value.okWide Try.prog W .any base t v := hval0
  have hW' := hW
  obtain ⟨p, q, hA0, hV, rfl, hfz, hnd⟩ := hW
  have hA : DataW.TrodAll enc Try.prog W 0 (fun _ => true) true Try.f5.params.toList args.toList ds p := hA0
  rw [Try.params5] at hA hval
  obtain ⟨v0, vs0, d0, ds0, p0, q0, hargs, rfl, rfl, h0, r0⟩ := trodAll_cons hA
  obtain ⟨v1, vs1, d1, ds1, p1, q1, rfl, rfl, rfl, h1, r1⟩ := trodAll_cons r0
  obtain ⟨rfl, rfl, rfl⟩ := trodAll_nil r1
  obtain rfl : args = #[v0, v1] := by cases args; simp_all
  obtain ⟨rfl, rfl⟩ := trodVars_none hV
  obtain ⟨A, c, us, rfl, u1, u2, u3, u4, u5⟩ := open_nums Try.underlying56 Try.underlying3 (by kernel_rfl) (hval 0 56 v0 rfl rfl) h0
  obtain ⟨a1, rfl, rfl, rfl, w1⟩ := open_int Try.underlying3 (hval 1 3 v1 rfl rfl) h1
  refine (divides_any A c us a1 W u5 u3 u1 u2).mono fun e W' ⟨he, hb⟩ => ⟨_, he, ?_⟩
  exact law_post laid_out rfl rfl (by kernel_rfl) hW' rfl hb

theorem divides_over : Rows.roundDividesRow.holds Try.pinned (OpenSpec.ofChange Rows.roundDividesSpec) :=
  OpenClaim.holds_of_wide 5 Try.f5 rfl rfl rfl rfl rfl rfl rfl ⟨rfl, rfl, rfl, rfl, rfl⟩ rfl rfl rfl rfl rfl (by kernel_rfl) Try.func5 (by kernel_rfl)
    (of_decide_eq_true (by kernel_rfl)) (by unfold Func.isWrapper; first | (rw [if_pos (by decide +kernel)]; kernel_rfl) | (rw [if_neg (by decide +kernel)]; exact ⟨rfl, rfl⟩))
    (fun os started H enc _ => divides_lifted os started H enc)
/-- the statement -/
theorem round_divides : Rows.RoundDividesSaid := divides_over
#print axioms round_divides
end Go.Proofs.Ytgoianldiomdoaa
