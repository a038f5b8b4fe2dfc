/- For every list of weights, total and factor, the parts add up, each is near its share, none overtakes a greater one, and a factor changes nothing: the statement RoundShares. No condition. -/
import Derived.Test.YtgoianldiomdoaaG7
import Derived.Test.YtgoianldiomdoaaG6
namespace Go.Proofs.Ytgoianldiomdoaa
open Go.RowKit Go.Shelf

/-- the slice at A reads as the numbers of 16 bits xs, below block n -/
def IsU16 (w : World) (n : Nat) (A : Option Addr) (xs : List Int) : Prop :=
  ∀ k x, xs[k]? = some x → ∃ a, A = some a ∧ a.block < n ∧ w.cell? (a.add k) = some (.int .u16 x)
theorem IsU16.below {w w' : World} {n : Nat} {A : Option Addr} {xs : List Int} (h : IsU16 w n A xs) (hb : Below n w w') : IsU16 w' n A xs := fun k x hk => by
  obtain ⟨a, e, hl, hc⟩ := h k x hk
  exact ⟨a, e, hl, (hb.cell (by rw [block_of_add]; exact hl)).trans hc⟩
/-- the weights; the weights times a number -/
def wsOf (us : List Int) : List Int := us.map fun u => u % 2001
def tsOf (n : Int) (us : List Int) : List Int := (wsOf us).map fun x => n * x
/-- when k weights are made -/
structure ShI (A : Option Addr) (us : List Int) (n : Int) (w : World) (k : Nat) (vo vr : Value) (W : World) : Prop where
  iw : IsU16 W w.heap.size A us
  o : W.ownsRow w.heap.size 3 1 vo k (((wsOf us).take k).map (Value.int .i64))
  r : W.ownsRow w.heap.size 3 1 vr k (((tsOf n us).take k).map (Value.int .i64))
  ne : vo.ownBlock = none ∨ vo.ownBlock ≠ vr.ownBlock
  below : Below w.heap.size w W

theorem part_sum (us : List Int) (k : Nat) (hl : us.length ≤ 12) : 0 ≤ ((wsOf us).take k).sum ∧ ((wsOf us).take k).sum ≤ 12 * 2000 := by
  have hb : ∀ y ∈ (wsOf us).take k, 0 ≤ y ∧ y ≤ 2000 := fun y hy => by
    obtain ⟨u, _, rfl⟩ := List.mem_map.1 (List.mem_of_mem_take hy)
    omega
  have h1 := sum_nonneg _ fun y hy => (hb y hy).1
  have h2 := take_sum_le 2000 _ fun y hy => (hb y hy).2
  have h3 : ((wsOf us).take k).length ≤ 12 := by simp [wsOf]; omega
  omega

set_option maxRecDepth 100000 in
set_option maxHeartbeats 1000000 in
theorem shares_big (A : Option Addr) (c : Nat) (us : List Int) (whole b : Int) (w : World) (hl : us.length ≤ c) (hm : c ≤ maxLen) (h : 12 < us.length) :
    Calls Try.prog 9 #[.slice A us.length c, .int .u16 whole, .int .u8 b] w fun e w' => e = .returned (.bool true) ∧ Below w.heap.size w w' := by
  have KA := hid (fun W => awake_any W)
  unfold maxLen at hm
  have h1 : (12 : Int) < (us.length : Int) := by omega
  clear h
  go_enter Try.func9, Try.ntmps9
  go_wp2_with fail
  refine (KA.out _).mono ?_
  rintro e w4 ⟨rfl, hb4⟩
  have HB := hid hb4
  clear hb4
  go_wp2
  go_ret
  exact ⟨rfl, HB.out⟩

set_option maxRecDepth 100000 in
set_option maxHeartbeats 4000000 in
theorem shares_any (A : Option Addr) (c : Nat) (us : List Int) (whole b : Int) (w : World) (hus : IsU16 w w.heap.size A us) (hl : us.length ≤ c) (hm : c ≤ maxLen)
    (hu : ∀ u ∈ us, 0 ≤ u ∧ u ≤ 65535) (hw : 0 ≤ whole ∧ whole ≤ 65535) (hb : 0 ≤ b ∧ b ≤ 255) :
    Calls Try.prog 9 #[.slice A us.length c, .int .u16 whole, .int .u8 b] w fun e w' => e = .returned (.bool true) ∧ Below w.heap.size w w' := by
  by_cases hbig : 12 < us.length
  · exact shares_big A c us whole b w hl hm hbig
  have KA := hid (fun W => awake_any W)
  have h1 : decide ((12 : Int) < (us.length : Int)) = false := by simp; omega
  have hl12 : us.length ≤ 12 := by omega
  obtain ⟨n, hn⟩ : ∃ n, n = 1 + b % 5 := ⟨_, rfl⟩
  have hn1 : 1 ≤ n := by omega
  have hn5 : n ≤ 5 := by omega
  obtain ⟨hb1, hb2⟩ := hb
  obtain ⟨hw1, hw2⟩ := hw
  have HU := hid hu
  have HUS := hid hus
  have HI := hid (show ShI A us n w 0 (.slice none 0 0) (.slice none 0 0) w from ⟨hus, World.ownsRow_nil _ _ _ _, World.ownsRow_nil _ _ _ _, .inl rfl, Below.refl _ _⟩)
  unfold maxLen at hm
  clear hbig hu hus
  go_enter Try.func9, Try.ntmps9
  go_wp2
  rw [← hn]
  have HN := hid hn
  clear hn
  go_loopw [9, 10, 8, 11] (fun vo vr l i wr => ∃ k : Nat, k ≤ us.length ∧ i = .int .i64 k ∧ l = .int .i64 (((wsOf us).take k).sum) ∧ ShI A us n w k vo vr wr) (fun _ _ _ i _ => us.length - (intOf i).toNat)
  case atStart => exact ⟨0, Nat.zero_le _, rfl, rfl, HI.out⟩
  case round =>
    obtain ⟨k, hk, rfl, rfl, hi⟩ := hrel
    clear HI
    by_cases hlt : k < us.length
    · have hkI : (k : Int) < (us.length : Int) := by omega
      obtain ⟨u, hu⟩ : ∃ u, us[k]? = some u := ⟨_, List.getElem?_eq_getElem hlt⟩
      obtain ⟨hu1, hu2⟩ := HU.out u (List.mem_of_getElem? hu)
      obtain ⟨a, rfl, hab, hac⟩ := hi.iw k u hu
      have hx1 : 0 ≤ u % 2001 := by omega
      have hx2 : u % 2001 ≤ 2000 := by omega
      have hxk : (wsOf us)[k]? = some (u % 2001) := by simp [wsOf, hu]
      obtain ⟨y, hy⟩ : ∃ y, y = n * (u % 2001) := ⟨_, rfl⟩
      have hyk : (tsOf n us)[k]? = some y := by simp [tsOf, hxk, hy]
      have hyb : 0 ≤ y ∧ y ≤ 5 * 2000 := by rw [hy]; exact mul_bound (by omega) hn5 hx1 hx2
      have hwr : IntKind.i64.wrap (n * (u % 2001)) = y := by rw [IntKind.wrap_i64, ← hy]; omega
      have hsk : ((wsOf us).take (k + 1)).sum = ((wsOf us).take k).sum + u % 2001 := by
        obtain ⟨hk', e⟩ := List.getElem?_eq_some_iff.1 hxk
        rw [List.take_succ_eq_append_getElem hk', List.sum_append, e]; simp
      have hsb : 0 ≤ ((wsOf us).take k).sum ∧ ((wsOf us).take k).sum ≤ 12 * 2000 := part_sum us k hl12
      obtain ⟨i0, hi0, hz0, hz1, hz2⟩ := info_parts int_info
      have HO := hid (hi.o.alloc (.cells #[.int .i64 (u % 2001)] 3))
      have HH := hid hi
      have HK := hid (And.intro hxk (And.intro hyk hsk))
      clear hi hab hxk hyk hsk hu hy
      have hwrs := HH.out.below.size
      go_wp2_with (first | (at_builtin; refine wpList_append_own_at _ rfl (.tmp 41) (.tmp 43) 56 rfl w.heap.size 3 i0 (.int .i64 0) 1 8 Try.underlying56 hi0 hz0 hz1 hz2 rfl (by decide) u9 k _ rfl HO.out ⟨wr.heap.size, 0, none⟩ 1 1 [.int .i64 (u % 2001)] rfl rfl (by intro q u hq; cases q with | zero => simp at hq; subst hq; exact (World.cell?_alloc_new _ _ _ _) | succ q => simp at hq) (by intro u hu; simp at hu; subst hu; rfl) (by simp only [maxLen]; omega) (by omega) (by simp; omega) ?_; intro vo' w5 hown' hgrow _ hfr; have HR5 := hid ((row_kept (HH.out.r.alloc _) hgrow HH.out.ne).alloc (.cells #[.int .i64 y] 3)); have hs5 := hgrow.size; rw [World.size_alloc] at hs5; have HQ5 := hid (And.intro hown' (And.intro hgrow hfr)); clear hown' hgrow hfr) | (at_builtin; refine wpList_append_own_at _ rfl (.tmp 45) (.tmp 49) 56 rfl w.heap.size 3 i0 (.int .i64 0) 1 8 Try.underlying56 hi0 hz0 hz1 hz2 rfl (by decide) u10 k _ rfl HR5.out ⟨w5.heap.size, 0, none⟩ 1 1 [.int .i64 y] rfl rfl (by intro q u hq; cases q with | zero => simp at hq; subst hq; exact (World.cell?_alloc_new _ _ _ _) | succ q => simp at hq) (by intro u hu; simp at hu; subst hu; rfl) (by simp only [maxLen]; omega) (by omega) (by simp; omega) ?_; intro vr' w7 hown2 hgrow2 _ hfr2; have HQ7 := hid (And.intro hown2 (And.intro hgrow2 hfr2)); clear hown2 hgrow2 hfr2))
      obtain ⟨hbk, hyk, hsk⟩ := HK.out
      obtain ⟨ho5, hg5, hf5⟩ := HQ5.out
      obtain ⟨hr7, hg7, hf7⟩ := HQ7.out
      obtain ⟨g, cap, rfl⟩ := Go.ownsRow_succ ho5
      rw [map_take_succ (Value.int .i64) hbk] at ho5
      rw [map_take_succ (Value.int .i64) hyk] at hr7
      have hne5 : u10.ownBlock = none ∨ u10.ownBlock ≠ some g := by
        rcases hf5 with h | h
        · rcases HH.out.ne with h' | h'
          · rw [h'] at h; cases h
          · exact .inr fun e => h' (h.symm.trans e.symm)
        · injection h with h
          simp only [World.size_alloc] at h
          refine .inr fun e => ?_
          have := (HH.out.r.lt _ e).2
          omega
      have ho7 := row_kept (ho5.alloc (.cells #[.int .i64 y] 3)) hg7 hne5
      have hs5g := (ho5.lt g rfl).2
      have hne7 : Value.ownBlock (.slice (some ⟨g, 0, none⟩) (k + 1) cap) ≠ vr'.ownBlock := by
        intro e
        rcases hf7 with h | h
        · rw [h] at e
          rcases hne5 with h' | h'
          · rw [h'] at e; cases e
          · exact h' e.symm
        · rw [h] at e
          injection e with e
          simp only [World.size_alloc] at e
          omega
      have hb5 := below_row' (HH.out.below.alloc HH.out.below.size (.cells #[.int .i64 (u % 2001)] 3)) (HH.out.o.alloc _) (Nat.le_refl _) hg5 (by simp; omega)
      have hb7 := below_row' (hb5.alloc hb5.size (.cells #[.int .i64 y] 3)) (HR5.out) (Nat.le_refl _) hg7 (by simp; have := hb5.size; omega)
      have HNN := hid (show ShI (some a) us n w (k + 1) (.slice (some ⟨g, 0, none⟩) (k + 1) cap) vr' w7 from ⟨HUS.out.below hb7, ho7, hr7, .inr hne7, hb7⟩)
      have HSK := hid hsk
      clear hbk hyk hsk ho5 hg5 hf5 hr7 hg7 hf7 hne5 ho7 hs5g hne7 hb5 hb7 HQ5 HQ7 HR5 HO HH HK hac
      go_simp
      go_wp2
      go_roundw
      case rel => exact ⟨k + 1, by omega, by go_num, (by first | rfl | (rw [HSK.out])), HNN.out⟩
      case measure => first | (simp [intOf]; done) | (simp [intOf]; omega)
    · have hkI : decide ((k : Int) < (us.length : Int)) = false := by simp; omega
      obtain rfl : k = us.length := by omega
      have HH := hid hi
      have htk : (wsOf us).take us.length = wsOf us := List.take_of_length_le (by simp [wsOf])
      have hlk : (tsOf n us).take us.length = tsOf n us := List.take_of_length_le (by simp [tsOf, wsOf])
      have hsb : 0 ≤ (wsOf us).sum ∧ (wsOf us).sum ≤ 12 * 2000 := by have := part_sum us us.length hl12; rwa [htk] at this
      rw [htk]
      have HTK := hid (And.intro htk hlk)
      clear hi htk hlk
      by_cases hz : (wsOf us).sum = 0
      · rw [hz]
        have HB := hid HH.out.below
        clear hz hsb
        go_wp2_with fail
        refine (KA.out _).mono ?_
        rintro e w4 ⟨rfl, hb4⟩
        have HB4 := hid hb4
        clear hb4
        go_wp2
        go_ret
        exact ⟨rfl, HB.out.trans (HB4.out.mono HB.out.size)⟩
      have hzI : ((wsOf us).sum == 0) = false := by simp; exact hz
      have hwl : (wsOf us).length = us.length := by simp [wsOf]
      have htl : (tsOf n us).length = us.length := by simp [tsOf, wsOf]
      have ho := HH.out.o
      have hr := HH.out.r
      rw [HTK.out.1] at ho
      rw [HTK.out.2] at hr
      obtain ⟨A1, c1, rfl, a1, a2, a3, a4, a5⟩ := own_ints (xs := wsOf us) hwl.symm ho
      obtain ⟨A2, c2, rfl, b1, b2, b3, b4, b5⟩ := own_ints (xs := tsOf n us) htl.symm hr
      have he1 : divE (wsOf us) whole = 0 := div_e (m := 2000) (by omega) (by omega) (fun x hx => by obtain ⟨u, _, rfl⟩ := List.mem_map.1 hx; omega) hz (by omega)
      have hts : (tsOf n us).sum = n * (wsOf us).sum := sum_times _ _
      have he2 : divE (tsOf n us) whole = 0 := div_e (m := 10000) (by omega) (by omega) (fun x hx => by
        obtain ⟨z, hz, rfl⟩ := List.mem_map.1 hx
        obtain ⟨u, _, rfl⟩ := List.mem_map.1 hz
        have := mul_bound (show 0 ≤ n by omega) hn5 (show 0 ≤ u % 2001 by omega) (show u % 2001 ≤ 2000 by omega)
        omega) (by rw [hts]; intro h; rcases Int.mul_eq_zero.1 h with h | h <;> omega) (by omega)
      have hdt : divOf (tsOf n us) whole = divOf (wsOf us) whole := div_times hn1 _
      obtain ⟨DOK, hne, _, _⟩ := div_ok he1
      rw [hwl]
      rw [htl]
      obtain ⟨o, hod⟩ : ∃ o, o = divOf (wsOf us) whole := ⟨_, rfl⟩
      have hol : o.length = us.length := by rw [hod, div_len, hwl]
      have HOS := hid (show o.sum = whole by rw [hod]; exact div_sum DOK hne)
      have HNEAR := hid (fun (i : Nat) (x q : Int) (hx : (wsOf us)[i]? = some x) (hq : o[i]? = some q) => div_near DOK hne hx (by rw [← hod]; exact hq))
      have HMONO := hid (fun (i k : Nat) (x y q u : Int) (hx : (wsOf us)[i]? = some x) (hq : o[i]? = some q) (hy : (wsOf us)[k]? = some y) (hu : o[k]? = some u) (h : y < x) => div_mono DOK hne hx (by rw [← hod]; exact hq) hy (by rw [← hod]; exact hu) h)
      have K1 := hid (list_any A1 c1 (wsOf us) wr a3 a5 (by omega))
      have K2 := hid (fun A3 c3 W (h1 : IsInts W W.heap.size A3 (wsOf us)) (h2 : (wsOf us).length ≤ c3) (h3 : c3 ≤ maxLen) => divide_ok A3 c3 (wsOf us) whole W h1 h2 h3 he1)
      have K3 := hid (fun W (hW : Below wr.heap.size wr W) => divide_ok A2 c2 (tsOf n us) whole W (b3.at_ hW) b1 b2 he2)
      rw [hwl] at K1 K2
      rw [htl] at K3
      have IA := hid a3
      have HOD := hid (And.intro hod hdt)
      have HWL := hid (And.intro hwl htl)
      have HB := hid HH.out.below
      have HZ := hid hz
      clear HH ho hr a1 a2 a3 a4 a5 b1 b2 b3 b4 b5 he1 he2 hts hdt DOK hne hwl htl hod hz HTK
      go_wp2_with fail
      refine (K1.out).mono ?_
      rintro e w2 ⟨A3, c3, rfl, g1, g2, g3, g4, g5, hb2⟩
      have HB2 := hid hb2
      have hk2 := hid (K2.out A3 c3 w2 g3 (by have := HWL.out.1; omega) g2)
      rw [HWL.out.1]
      clear K1 K2 hb2 g1 g2 g3 g4 g5
      go_wp2_with fail
      refine (hk2.out).mono ?_
      rintro e w3 ⟨A4, c4, rfl, d1, d2, d3, d4, d5, hb3⟩
      rw [← HOD.out.1] at d1
      rw [HWL.out.1] at d2 ⊢
      have HB3 := hid (HB2.out.trans (hb3.mono HB2.out.size))
      have HD := hid (And.intro d1 (And.intro d2 d3))
      clear hk2 hb3 d1 d2 d3 d4 d5
      go_wp2_with fail
      refine (K3.out _ HB3.out).mono ?_
      rintro e w4 ⟨A5, c5, rfl, d1, d2, d3, d4, d5, hb4⟩
      rw [HOD.out.2, ← HOD.out.1] at d1
      rw [HWL.out.2] at d2 ⊢
      have HB4 := hid (HB3.out.trans (hb4.mono HB3.out.size))
      have KIN := hid (ints_any A4 c4 o A5 c5 o w4 (HD.out.1.at_ hb4) d1 (by have := HD.out.2.1; omega) HD.out.2.2 (by omega) d3)
      rw [hol, show decide (o = o) = true by simp] at KIN
      have IO := hid (HD.out.1.at_ hb4)
      clear K3 hb4 d1 d2 d3 d4 d5
      go_wp2_with fail
      refine (KIN.out).mono ?_
      rintro e w5 ⟨rfl, hb5⟩
      have HB5 := hid (HB4.out.trans (hb5.mono HB4.out.size))
      have HIO5 := hid (IO.out.at_ hb5)
      have HIA5 := hid (IA.out.at_ HB5.out)
      obtain ⟨S, hS⟩ : ∃ S, S = (wsOf us).sum := ⟨_, rfl⟩
      rw [← hS] at hsb hzI HNEAR ⊢
      have hS1 : 1 ≤ S := by have := HZ.out; omega
      have hxb : ∀ x ∈ wsOf us, 0 ≤ x ∧ x ≤ 2000 := fun x hx => by
        obtain ⟨u, _, rfl⟩ := List.mem_map.1 hx
        omega
      have hon : ∀ q ∈ o, 0 ≤ q := fun q hq => by
        obtain ⟨i, hi⟩ := List.getElem?_of_mem hq
        have hil := (List.getElem?_eq_some_iff.1 hi).1
        have hx : (wsOf us)[i]? = some ((wsOf us)[i]'(by have := HWL.out.1; omega)) := List.getElem?_eq_getElem _
        have h1 := HNEAR.out i _ q hx hi
        have h2 := hxb _ (List.mem_of_getElem? hx)
        have h3 := Int.mul_nonneg hw1 h2.1
        by_cases hneg : q ≤ -1
        · have := Int.mul_le_mul_of_nonneg_right hneg (show 0 ≤ S by omega)
          omega
        · omega
      have HOB := hid (show (∀ k, 0 ≤ (o.take k).sum ∧ (o.take k).sum ≤ whole) ∧ ∀ q ∈ o, 0 ≤ q ∧ q ≤ whole from by
        have hs := HOS.out
        refine ⟨fun k => ?_, fun q hq => ⟨hon q hq, by have := sum_ge o hon q hq; omega⟩⟩
        have e : (o.take k).sum + (o.drop k).sum = o.sum := by rw [← List.sum_append, List.take_append_drop]
        have h1 := sum_nonneg (o.take k) fun y hy => hon y (List.mem_of_mem_take hy)
        have h2 := sum_nonneg (o.drop k) fun y hy => hon y (List.mem_of_mem_drop hy)
        omega)
      have HXB := hid hxb
      have HSS := hid hS
      clear hb5 KIN IO hS hxb hon
      go_wp2
      go_loopw [17, 18] (fun al i wr => ∃ k : Nat, k ≤ us.length ∧ i = .int .i64 k ∧ al = .int .i64 ((o.take k).sum) ∧ Below w5.heap.size w5 wr) (fun _ i _ => us.length - (intOf i).toNat)
      case atStart => exact ⟨0, Nat.zero_le _, rfl, rfl, Below.refl _ _⟩
      case round =>
        obtain ⟨k, hk, rfl, rfl, hbr⟩ := hrel
        by_cases hlt : k < us.length
        · have hkI : (k : Int) < (us.length : Int) := by omega
          obtain ⟨q, hq⟩ : ∃ q, o[k]? = some q := ⟨_, List.getElem?_eq_getElem (by omega)⟩
          obtain ⟨x, hx⟩ : ∃ x, (wsOf us)[k]? = some x := ⟨_, List.getElem?_eq_getElem (by have := HWL.out.1; omega)⟩
          obtain ⟨a4, rfl, o1, o2⟩ := (HIO5.out.at_ hbr) k q hq
          obtain ⟨a1, rfl, p1, p2⟩ := (HIA5.out.at_ hbr) k x hx
          have hqb := HOB.out.2 q (List.mem_of_getElem? hq)
          have hxb := HXB.out x (List.mem_of_getElem? hx)
          have htb := HOB.out.1 k
          have hsk : (o.take (k + 1)).sum = (o.take k).sum + q := by
            obtain ⟨hk', e⟩ := List.getElem?_eq_some_iff.1 hq
            rw [List.take_succ_eq_append_getElem hk', List.sum_append, e]; simp
          have hnear := HNEAR.out k x q hx hq
          obtain ⟨R, hR⟩ : ∃ R, R = whole * x := ⟨_, rfl⟩
          obtain ⟨Q, hQ⟩ : ∃ Q, Q = q * S := ⟨_, rfl⟩
          have hRb : 0 ≤ R ∧ R ≤ 65535 * 2000 := by rw [hR]; exact mul_bound hw1 hw2 hxb.1 hxb.2
          rw [← hR, ← hQ] at hnear
          have hwQ : IntKind.i64.wrap (q * S) = Q := by rw [IntKind.wrap_i64, ← hQ]; omega
          have hwR : IntKind.i64.wrap (whole * x) = R := by rw [IntKind.wrap_i64, ← hR]; omega
          have HQX := hid (And.intro hq (And.intro hx hsk))
          have HBR := hid hbr
          have o3 := xt_cell o2
          have p3 := xt_cell p2
          obtain ⟨hn1', hn2'⟩ := hnear
          obtain ⟨hR1, hR2⟩ := hRb
          obtain ⟨ht1, ht2⟩ := htb
          obtain ⟨hq1', hq2'⟩ := hqb
          obtain ⟨hx1', hx2'⟩ := hxb
          have hwa : IntKind.i64.wrap ((o.take k).sum + q) = (o.take k).sum + q := by rw [IntKind.wrap_i64]; omega
          clear hq hx hsk hQ hR hbr o1 p1
          go_wp2
          refine wp_region_quiet_xt (by kernel_rfl) (by kernel_rfl) ?_
          repeat go_big_quiet_step (fail)
          refine wpQuiet_nil ?_
          intro W6 hw6
          have HW6 := hid (HBR.out.trans ((of_xt hw6).mono HBR.out.size))
          clear hw6 o3 p3 o2 p2
          have hd1 : decide (Q - R ≤ -S) = false := by simp; omega
          have hd2 : decide (S ≤ Q - R) = false := by simp; omega
          go_wp2
          clear hd1 hd2 hwa hn1' hn2' hR1 hR2 ht1 ht2 hwQ hwR
          go_loopw [20] (fun j wr => ∃ m : Nat, m ≤ us.length ∧ j = .int .i64 m ∧ Below w5.heap.size w5 wr) (fun j _ => us.length - (intOf j).toNat)
          case atStart => exact ⟨0, Nat.zero_le _, rfl, HW6.out⟩
          case round =>
            obtain ⟨m, hmm, rfl, hbr⟩ := hrel
            by_cases hltm : m < us.length
            · have hmI : (m : Int) < (us.length : Int) := by omega
              obtain ⟨v, hv⟩ : ∃ v, o[m]? = some v := ⟨_, List.getElem?_eq_getElem (by omega)⟩
              obtain ⟨z, hz⟩ : ∃ z, (wsOf us)[m]? = some z := ⟨_, List.getElem?_eq_getElem (by have := HWL.out.1; omega)⟩
              obtain ⟨a5, e5, o1, o2⟩ := (HIO5.out.at_ hbr) m v hv
              injection e5 with e5
              subst e5
              obtain ⟨a6, e6, p1, p2⟩ := (HIA5.out.at_ hbr) m z hz
              injection e6 with e6
              subst e6
              obtain ⟨a7, e7, o3, o4⟩ := (HIO5.out.at_ hbr) k q HQX.out.1
              injection e7 with e7
              subst e7
              obtain ⟨a8, e8, p3, p4⟩ := (HIA5.out.at_ hbr) k x HQX.out.2.1
              injection e8 with e8
              subst e8
              have HBR2 := hid hbr
              have q1 := xt_cell o2
              have q2 := xt_cell p2
              have q3 := xt_cell o4
              have q4 := xt_cell p4
              have hmono := HMONO.out k m x z q v HQX.out.2.1 HQX.out.1 hz hv
              by_cases hzx : z < x
              · have hvq : decide (q < v) = false := by have := hmono hzx; simp; omega
                clear hv hz hmono hbr o1 o2 o3 o4 p1 p2 p3 p4
                go_wp2
                refine wp_region_quiet_xt (by kernel_rfl) (by kernel_rfl) ?_
                repeat go_big_quiet_step (fail)
                refine wpQuiet_nil ?_
                intro W7 hw7
                have HW7 := hid (HBR2.out.trans ((of_xt hw7).mono HBR2.out.size))
                clear hw7 q1 q2 q3 q4
                go_wp2
                go_roundw
                case rel => exact ⟨m + 1, by omega, by go_num, HW7.out⟩
                case measure => first | (simp [intOf]; done) | (simp [intOf]; omega)
              · have hzd : decide (z < x) = false := by simp; omega
                clear hv hz hmono hbr o1 o2 o3 o4 p1 p2 p3 p4 hzx
                go_wp2
                refine wp_region_quiet_xt (by kernel_rfl) (by kernel_rfl) ?_
                repeat go_big_quiet_step (fail)
                refine wpQuiet_nil ?_
                intro W7 hw7
                have HW7 := hid (HBR2.out.trans ((of_xt hw7).mono HBR2.out.size))
                clear hw7 q1 q2 q3 q4
                go_wp2
                go_roundw
                case rel => exact ⟨m + 1, by omega, by go_num, HW7.out⟩
                case measure => first | (simp [intOf]; done) | (simp [intOf]; omega)
            · have hmI : decide ((m : Int) < (us.length : Int)) = false := by simp; omega
              have HBR2 := hid hbr
              clear hbr
              go_wp2
              go_roundw
              case rel => exact ⟨k + 1, by omega, by go_num, (by first | rfl | (rw [HQX.out.2.2])), HBR2.out⟩
              case measure => first | (simp [intOf]; done) | (simp [intOf]; omega)
        · have hkI : decide ((k : Int) < (us.length : Int)) = false := by simp; omega
          obtain rfl : k = us.length := by omega
          have hall : (o.take us.length).sum = whole := by rw [List.take_of_length_le (by omega)]; exact HOS.out
          rw [hall]
          have HBR := hid (HB5.out.trans (hbr.mono HB5.out.size))
          clear hall hbr
          go_wp2_with fail
          refine (KA.out _).mono ?_
          rintro e w7 ⟨rfl, hb7⟩
          have HB7 := hid (HB.out.trans ((HBR.out.trans (hb7.mono HBR.out.size)).mono HB.out.size))
          clear hb7
          go_wp2
          go_ret
          exact ⟨rfl, HB7.out⟩

open Go.ChangeShapes Go.WideShapes Go.ChangeAt in
set_option maxRecDepth 100000 in
theorem shares_lifted (os : Os) (started : os.Started) (H : Type) (enc : TypeId × Value → H) :
    ReturnsInHanded {} Try.checked os 9 .any (Rows.roundSharesSpec.pre6 enc Try.prog Try.f9 Rows.roundSharesRow.domain false) (Rows.roundSharesSpec.post enc Try.prog Try.f9 false true false false) := by
  refine returnsInHanded_of_change (C := Try.checked) own started (by kernel_rfl) Try.func9
    (ChangeSpec.witness6 (enc := enc) (C := Try.checked) false ⟨#[], #[.slice none 0 0, .int .u16 0, .int .u8 0], []⟩ 8 (by kernel_rfl) (by kernel_rfl) (by kernel_rfl) (by kernel_rfl)) ?_
  intro W base args ds gs before hval0 hW hcnd _
  have hval : ∀ (j : Nat) t v, Try.f9.params[j]? = some t → args[j]? = some v → Value.okWide Try.prog W .any base t v := hval0
  have hW' := hW
  obtain ⟨p, q, hA0, hV, rfl, hfz, hnd⟩ := hW
  have hA : DataW.TrodAll enc Try.prog W 0 (fun _ => true) true Try.f9.params.toList args.toList ds p := hA0
  rw [Try.params9] at hA hval
  obtain ⟨v0, vs0, d0, ds0, p0, q0, hargs, rfl, rfl, h0, r0⟩ := trodAll_cons hA
  obtain ⟨v1, vs1, d1, ds1, p1, q1, rfl, rfl, rfl, h1, r1⟩ := trodAll_cons r0
  obtain ⟨v2, vs2, d2, ds2, p2, q2, rfl, rfl, rfl, h2, r2⟩ := trodAll_cons r1
  obtain ⟨rfl, rfl, rfl⟩ := trodAll_nil r2
  obtain rfl : args = #[v0, v1, v2] := by cases args; simp_all
  obtain ⟨rfl, rfl⟩ := trodVars_none hV
  obtain ⟨A, c, us, rfl, u1, u2, u3, u4, u5⟩ := open_nums Try.underlying67 Try.underlying68 (by kernel_rfl) (hval 0 67 v0 rfl rfl) h0
  obtain ⟨a1, rfl, rfl, rfl, w1⟩ := open_int Try.underlying68 (hval 1 68 v1 rfl rfl) h1
  obtain ⟨a2, rfl, rfl, rfl, w2⟩ := open_int Try.underlying5 (hval 2 5 v2 rfl rfl) h2
  have e1 : 0 ≤ a1 ∧ a1 ≤ 65535 := by have := w1; simp only [Lit.wf, Bool.and_eq_true, decide_eq_true_eq] at this; exact this
  have e2 : 0 ≤ a2 ∧ a2 ≤ 255 := by have := w2; simp only [Lit.wf, Bool.and_eq_true, decide_eq_true_eq] at this; exact this
  refine (shares_any A c us a1 a2 W u5 u1 u2 (fun u hu => u4 u hu) e1 e2).mono fun e W' ⟨he, hb⟩ => ⟨_, he, ?_⟩
  exact law_post laid_out rfl rfl (by kernel_rfl) hW' rfl hb

theorem shares_over : Rows.roundSharesRow.holds Try.pinned (OpenSpec.ofChange Rows.roundSharesSpec) :=
  OpenClaim.holds_of_wide 9 Try.f9 rfl rfl rfl rfl rfl rfl rfl ⟨rfl, rfl, rfl, rfl, rfl⟩ rfl rfl rfl rfl rfl (by kernel_rfl) Try.func9 (by kernel_rfl)
    (of_decide_eq_true (by kernel_rfl)) (by unfold Func.isWrapper; first | (rw [if_pos (by decide +kernel)]; kernel_rfl) | (rw [if_neg (by decide +kernel)]; exact ⟨rfl, rfl⟩))
    (fun os started H enc _ => shares_lifted os started H enc)
/-- the statement -/
theorem round_shares : Rows.RoundSharesSaid := shares_over
#print axioms round_shares
end Go.Proofs.Ytgoianldiomdoaa
