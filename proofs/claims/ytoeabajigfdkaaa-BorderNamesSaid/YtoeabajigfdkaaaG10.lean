/- The walks and the plain laws of this part of the program, part 10: what each computes. Conditions stand at each theorem. -/
import Derived.Laws.CopyOwn
import Derived.Deep.Upon
import Derived.Test.YtoeabajigfdkaaaG1
import Derived.Test.YtoeabajigfdkaaaG2
import Derived.Test.YtoeabajigfdkaaaG9
/- Best: the best borders. Conditions stand at each theorem. -/
namespace Go.Proofs.Ytoeabajigfdkaaa
open Go.RowKit Go.Shelf

set_option maxRecDepth 100000 in
set_option maxHeartbeats 2000000 in
theorem bbest_bad (m : MapD) (A : Option Addr) (c : Nat) (A2 : Option Addr) (c2 : Nat) (A3 : Option Addr) (c3 : Nat) (lo hi : Int) (w : World) (h : MIn m A c A2 c2 A3 c3 w) (he : askE m lo hi ≠ 0) :
    Calls Try.prog 29 #[.agg #[.slice A m.old.length c, .int .i64 m.nw, .slice A2 m.ss.length c2, .slice A3 m.js.length c3], .agg #[.int .i64 lo, .int .i64 hi]] w fun e w' => e = .returned (.tuple #[.slice none 0 0, .int .i64 0, .int .i64 (askE m lo hi)]) ∧ Below w.heap.size w w' := by
  have hb0 := (below_box (w := w) #[.slice A m.old.length c, .int .i64 m.nw, .slice A2 m.ss.length c2, .slice A3 m.js.length c3] 34).alloc (below_box (w := w) #[.slice A m.old.length c, .int .i64 m.nw, .slice A2 m.ss.length c2, .slice A3 m.js.length c3] 34).size (.cells #[.int .i64 lo, .int .i64 hi] 49)
  have hT := (Blk.new w 34 #[.slice A m.old.length c, .int .i64 m.nw, .slice A2 m.ss.length c2, .slice A3 m.js.length c3]).alloc (.cells #[.int .i64 lo, .int .i64 hi] 49)
  have hR := Blk.new (w.alloc (.cells #[.slice A m.old.length c, .int .i64 m.nw, .slice A2 m.ss.length c2, .slice A3 m.js.length c3] 34)) 49 #[.int .i64 lo, .int .i64 hi]
  rw [World.size_alloc] at hR
  have KC := hid (asked_bad m A c A2 c2 A3 c3 lo hi _ (h.at_ hb0) he)
  have HS := hid (And.intro hb0 (And.intro hT (And.intro hR (h.at_ hb0))))
  obtain ⟨t0, t1, t2, t3⟩ := hT.c4
  obtain ⟨r0, r1⟩ := hR.c2
  have hne : (askE m lo hi != 0) = true := by simpa using he
  clear hb0 hT hR h he
  generalize askE m lo hi = z at *
  go_enter Try.func29, Try.ntmps29
  go_wp2
  go_step3
  go_wp2_with fail
  refine KC.out.mono ?_
  rintro e w2 ⟨rfl, hb⟩
  have HB2 := hid (HS.out.1.trans ((hb.alloc hb.size (.cells #[.pointer none] 105)).mono HS.out.1.size))
  clear hb KC t0 t1 t2 t3 r0 r1
  go_wp2
  rw [Exit.noGoto_ret]
  exact bodyPost_ret (v := .tuple #[.slice none 0 0, .int .i64 0, .int .i64 z]) (by simp [results, Try.results29, go_sem]) rfl ⟨rfl, HB2.out⟩

/-- what Best hands back of a map and limits without fault -/
def GivesBest (m : MapD) (lo hi : Int) (w : World) (e : Ending) (w' : World) : Prop := Below w.heap.size w w' ∧
  match bestB m lo hi with
  | none => e = .returned (.tuple #[.slice none 0 0, .int .i64 0, .int .i64 7])
  | some (j, l) => ∃ A c, e = .returned (.tuple #[.slice A (lst m l).length c, .int .i64 (j : Int), .int .i64 0]) ∧ (lst m l).length ≤ c ∧ c ≤ maxLen ∧ IsInts w' w'.heap.size A (lst m l)

set_option maxRecDepth 100000 in
set_option maxHeartbeats 2000000 in
theorem bbest_ok (m : MapD) (A : Option Addr) (c : Nat) (A2 : Option Addr) (c2 : Nat) (A3 : Option Addr) (c3 : Nat) (lo hi : Int) (w : World) (h : MIn m A c A2 c2 A3 c3 w) (he : askE m lo hi = 0) :
    Calls Try.prog 29 #[.agg #[.slice A m.old.length c, .int .i64 m.nw, .slice A2 m.ss.length c2, .slice A3 m.js.length c3], .agg #[.int .i64 lo, .int .i64 hi]] w (GivesBest m lo hi w) := by
  have hb0 := (below_box (w := w) #[.slice A m.old.length c, .int .i64 m.nw, .slice A2 m.ss.length c2, .slice A3 m.js.length c3] 34).alloc (below_box (w := w) #[.slice A m.old.length c, .int .i64 m.nw, .slice A2 m.ss.length c2, .slice A3 m.js.length c3] 34).size (.cells #[.int .i64 lo, .int .i64 hi] 49)
  have hT := (Blk.new w 34 #[.slice A m.old.length c, .int .i64 m.nw, .slice A2 m.ss.length c2, .slice A3 m.js.length c3]).alloc (.cells #[.int .i64 lo, .int .i64 hi] 49)
  have hR := Blk.new (w.alloc (.cells #[.slice A m.old.length c, .int .i64 m.nw, .slice A2 m.ss.length c2, .slice A3 m.js.length c3] 34)) 49 #[.int .i64 lo, .int .i64 hi]
  rw [World.size_alloc] at hR
  have KC := hid (asked_ok m A c A2 c2 A3 c3 lo hi _ (h.at_ hb0) he)
  have HS := hid (And.intro hb0 (And.intro hT (And.intro hR (h.at_ hb0))))
  have OK := hid (chk_okm (ask_ok he).1)
  have hs8 := OK.out.s8
  obtain ⟨t0, t1, t2, t3⟩ := hT.c4
  obtain ⟨r0, r1⟩ := hR.c2
  have HH := hid h
  clear hb0 hT hR h he
  go_enter Try.func29, Try.ntmps29
  go_wp2
  go_step3
  go_wp2_with fail
  refine KC.out.mono ?_
  rintro e w2 ⟨g, b, rfl, hg, hgb, hw, hb⟩
  have HB2 := hid (And.intro (HS.out.1.trans (hb.mono HS.out.1.size)) (And.intro (HS.out.2.1.keep hb) (And.intro (HS.out.2.2.1.keep hb) (And.intro (HS.out.2.2.2.at_ hb) hw))))
  have hw2 := HB2.out.1.size
  have HM := hid (show BMem w m A c A2 c2 A3 c3 g b w2.heap.size (w2.heap.size + 1) (w.heap.size + 1) (w2.heap.size + 1 + 1) lo hi ((((w2.alloc (.cells #[.pointer (some ⟨g, 0, none⟩)] 105)).alloc (.cells (liC zeroL) 103)).alloc (.cells #[.func (.func 71) #[] #[.pointer (some ⟨w2.heap.size, 0, none⟩), .pointer (some ⟨w2.heap.size + 1, 0, none⟩), .pointer (some ⟨w.heap.size + 1, 0, none⟩), .pointer (some ⟨w2.heap.size + 1 + 1, 0, none⟩)]] 108))) by
    have hb5 := then_below (then_below (below_box (w := w2) #[.pointer (some ⟨g, 0, none⟩)] 105) (below_box (liC zeroL) 103)) (below_box #[.func (.func 71) #[] #[.pointer (some ⟨w2.heap.size, 0, none⟩), .pointer (some ⟨w2.heap.size + 1, 0, none⟩), .pointer (some ⟨w.heap.size + 1, 0, none⟩), .pointer (some ⟨w2.heap.size + 1 + 1, 0, none⟩)]] 108)
    have k1 := ((Blk.new w2 105 #[.pointer (some ⟨g, 0, none⟩)]).alloc (.cells (liC zeroL) 103)).alloc (.cells #[.func (.func 71) #[] #[.pointer (some ⟨w2.heap.size, 0, none⟩), .pointer (some ⟨w2.heap.size + 1, 0, none⟩), .pointer (some ⟨w.heap.size + 1, 0, none⟩), .pointer (some ⟨w2.heap.size + 1 + 1, 0, none⟩)]] 108)
    have k2 := (Blk.new (w2.alloc (.cells #[.pointer (some ⟨g, 0, none⟩)] 105)) 103 (liC zeroL)).alloc (.cells #[.func (.func 71) #[] #[.pointer (some ⟨w2.heap.size, 0, none⟩), .pointer (some ⟨w2.heap.size + 1, 0, none⟩), .pointer (some ⟨w.heap.size + 1, 0, none⟩), .pointer (some ⟨w2.heap.size + 1 + 1, 0, none⟩)]] 108)
    have k3 := Blk.new ((w2.alloc (.cells #[.pointer (some ⟨g, 0, none⟩)] 105)).alloc (.cells (liC zeroL) 103)) 108 #[.func (.func 71) #[] #[.pointer (some ⟨w2.heap.size, 0, none⟩), .pointer (some ⟨w2.heap.size + 1, 0, none⟩), .pointer (some ⟨w.heap.size + 1, 0, none⟩), .pointer (some ⟨w2.heap.size + 1 + 1, 0, none⟩)]]
    simp only [World.size_alloc] at k2 k3
    exact ⟨HB2.out.1.trans (hb5.mono hw2), by omega, HH.out, HB2.out.2.2.2.2.keep hb5, k1, HB2.out.2.2.1.keep hb5, k3, _, k2⟩)
  have HTM := hid (show Below w2.heap.size w2 ((((w2.alloc (.cells #[.pointer (some ⟨g, 0, none⟩)] 105)).alloc (.cells (liC zeroL) 103)).alloc (.cells #[.func (.func 71) #[] #[.pointer (some ⟨w2.heap.size, 0, none⟩), .pointer (some ⟨w2.heap.size + 1, 0, none⟩), .pointer (some ⟨w.heap.size + 1, 0, none⟩), .pointer (some ⟨w2.heap.size + 1 + 1, 0, none⟩)]] 108))) from
    then_below (then_below (below_box (w := w2) #[.pointer (some ⟨g, 0, none⟩)] 105) (below_box (liC zeroL) 103)) (below_box #[.func (.func 71) #[] #[.pointer (some ⟨w2.heap.size, 0, none⟩), .pointer (some ⟨w2.heap.size + 1, 0, none⟩), .pointer (some ⟨w.heap.size + 1, 0, none⟩), .pointer (some ⟨w2.heap.size + 1 + 1, 0, none⟩)]] 108))
  clear hb KC t0 t1 t2 t3 r0 r1 hg hgb hw HS hw2
  go_upto_region 8 with (fail)
  go_step3
  refine gen (p := Exit.then _ _ _ _) (fun W => BMem w m A c A2 c2 A3 c3 g b w2.heap.size (w2.heap.size + 1) (w.heap.size + 1) (w2.heap.size + 1 + 1) lo hi W ∧ Blk W w.heap.size 34 #[.slice A m.old.length c, .int .i64 m.nw, .slice A2 m.ss.length c2, .slice A3 m.js.length c3]) ⟨HM.out, HB2.out.2.1.keep HTM.out⟩ ?_
  rintro w5 ⟨hm5, ht5⟩
  clear HTM HM HB2
  have HM := hid hm5
  obtain ⟨t0, t1, t2, t3⟩ := ht5.c4
  have HT := hid ht5
  clear hm5 ht5
  have hl2 := HH.out.l2
  have hml2 := HH.out.m2
  unfold maxLen at hml2
  obtain ⟨n, hn⟩ : ∃ n, m.ss.length = n := ⟨_, rfl⟩
  rw [hn] at hs8 hl2 t2
  have HN := hid hn
  have HBT := hid (show bestB m lo hi = bordTo m lo hi (n + 1) by rw [← hn]; rfl)
  clear hn
  go_wp2
  clear t0 t1 t2 t3
  go_loopw [10, 11, 26] (fun _ is i W => ∃ k : Nat, k ≤ n + 1 ∧ i = .int .i64 k ∧ is = .bool false ∧ bordTo m lo hi k = none ∧ BMem w m A c A2 c2 A3 c3 g b w2.heap.size (w2.heap.size + 1) (w.heap.size + 1) (w2.heap.size + 1 + 1) lo hi W) (fun _ _ i _ => n + 1 - (intOf i).toNat)
  case atStart => exact ⟨0, Nat.zero_le _, rfl, rfl, rfl, HM.out⟩
  case round =>
    obtain ⟨k, hk, rfl, rfl, hbt, hm⟩ := hrel
    have HR := hid (And.intro hbt hm)
    clear hbt hm HM
    by_cases hlt : k < n + 1
    · have hkI : (k : Int) < (n : Int) + 1 := by omega
      have kv0 := HR.out.2.kv.c1
      have KM := move_any w m A c A2 c2 A3 c3 g b w2.heap.size (w2.heap.size + 1) (w.heap.size + 1) (w2.heap.size + 1 + 1) lo hi OK.out m.ss.length 0 (by omega) zeroL (k : Int) wr (by omega) (by omega) HR.out.2
      have HNE := hid (fun (h : mv m lo hi m.ss.length zeroL 0 (k : Int) = none) => show bordTo m lo hi (k + 1) = none by unfold bordTo; rw [findSome_succ, h]; have := HR.out.1; unfold bordTo at this; rw [this]; rfl)
      have HSO := hid (fun (l : Nat → Int) (h : mv m lo hi m.ss.length zeroL 0 (k : Int) = some l) => show bestB m lo hi = some (k, l) by
        rw [HBT.out]
        unfold bordTo
        refine findSome_more _ (k := k + 1) (by omega) ?_
        have := HR.out.1
        unfold bordTo at this
        rw [findSome_succ, h, this]; rfl)
      generalize mv m lo hi m.ss.length zeroL 0 (k : Int) = R at *
      cases R with
      | none =>
        have HNX := hid (HNE.out rfl)
        have KM := hid KM
        clear HNE HSO
        go_wp2_with fail
        refine KM.out.mono ?_
        rintro e w6 ⟨rfl, hc6, l6, hl6, _⟩
        have HM6 := hid (HR.out.2.chg hc6 ⟨l6, hl6⟩)
        clear hc6 hl6 KM kv0
        go_wp2
        go_roundw
        case rel => exact ⟨k + 1, by omega, by go_num, rfl, HNX.out, HM6.out⟩
        case measure => first | (simp [intOf]; done) | (simp [intOf]; omega)
      | some x =>
        have HX := hid (HSO.out x rfl)
        have KM := hid KM
        clear HNE HSO
        go_wp2_with fail
        refine KM.out.mono ?_
        rintro e w6 ⟨rfl, hc6, l6, hl6, hx6⟩
        obtain rfl : l6 = x := hx6 x rfl
        have hm6 := HR.out.2.chg hc6 ⟨l6, hl6⟩
        have k0 := hm6.kw.c1
        obtain ⟨d0, d1, d2, d3, d4, d5, d6, d7⟩ := Blk.c8 (show Blk w6 (w2.heap.size + 1) 103 #[_, _, _, _, _, _, _, _] from hl6)
        have KL := hid (blist_any m A c A2 c2 A3 c3 g b l6 w6 hm6.wa (by rw [HN.out]; exact hs8))
        have HB6 := hid hm6.bl
        clear hc6 hl6 KM kv0 hx6 hm6
        go_wp2_with fail
        refine KL.out.mono ?_
        rintro e w7 ⟨A7, c7, rfl, q1, q2, q3, _, _, hb⟩
        have HF := hid (show GivesBest m lo hi w (.returned (.tuple #[.slice A7 (lst m l6).length c7, .int .i64 (k : Int), .int .i64 0])) w7 from ⟨HB6.out.trans (hb.mono HB6.out.size), by rw [HX.out]; exact ⟨A7, c7, rfl, q1, q2, q3⟩⟩)
        clear KL q1 q2 q3 hb k0 d0 d1 d2 d3 d4 d5 d6 d7
        go_wp2
        rw [Exit.noGoto_ret]
        exact bodyPost_ret (v := .tuple #[.slice A7 (lst m l6).length c7, .int .i64 (k : Int), .int .i64 0]) (by simp [results, Try.results29, go_sem]) rfl HF.out
    · have hkI : decide ((k : Int) < (n : Int) + 1) = false := by simp; omega
      obtain rfl : k = n + 1 := by omega
      have hbn : bestB m lo hi = none := by rw [HBT.out]; exact HR.out.1
      have HF := hid (show GivesBest m lo hi w (.returned (.tuple #[.slice none 0 0, .int .i64 0, .int .i64 7])) wr from ⟨HR.out.2.bl, by rw [hbn]⟩)
      clear hbn
      go_wp2
      try rw [Exit.noGoto_ret]
      exact bodyPost_ret (v := .tuple #[.slice none 0 0, .int .i64 0, .int .i64 7]) (by simp [results, Try.results29, go_sem]) rfl HF.out
end Go.Proofs.Ytoeabajigfdkaaa
/- ProveBorders. Conditions stand at each theorem. -/
namespace Go.Proofs.Ytoeabajigfdkaaa
open Go.RowKit Go.Shelf

def fnO (xs : List Int) : Nat → Int := fun i => xs.getD i 0
theorem fnO_get {xs : List Int} {i : Nat} {x : Int} (h : xs[i]? = some x) : fnO xs i = x := by simp [fnO, List.getD, h]
theorem fnO_lst {m : MapD} {l : Nat → Int} {i : Nat} (h : i < m.ss.length) : fnO (lst m l) i = l i := fnO_get (lst_get h)
def areB (m : MapD) (xs : List Int) : Bool := decide (xs.length = m.ss.length) && xs.all fun x => inB x 0 (m.nw - 1)
def pbB (m : MapD) (xs : List Int) (lo hi mv : Int) : Bool := decide (askE m lo hi = 0) && (areB m xs && (decide (movN m (fnO xs) m.ss.length ≤ mv) && rightB m (fnO xs) lo hi))
theorem copied {xs : List Int} (h : xs.length ≤ 8) : (splice (List.replicate 8 (Value.int .i64 0)) 0 (xs.map (Value.int .i64))).toArray = liC (fnO xs) := by
  apply Array.ext_getElem?
  intro i
  have h8 : (liC (fnO xs)).size = 8 := rfl
  rcases Nat.lt_or_ge i 8 with hi | hi
  · rw [liC_get _ hi]
    unfold splice
    simp only [List.take_zero, List.nil_append, Nat.zero_add, List.getElem?_toArray]
    rcases Nat.lt_or_ge i xs.length with hl | hl
    · rw [List.getElem?_append_left (by simpa using hl), List.getElem?_map, List.getElem?_eq_getElem hl]
      simp [fnO, List.getD, List.getElem?_eq_getElem hl]
    · rw [List.getElem?_append_right (by simpa using hl), List.getElem?_drop]
      rw [List.getElem?_replicate, if_pos (by simp; omega)]
      simp [fnO, List.getD, List.getElem?_eq_none hl]
  · rw [Array.getElem?_eq_none (xs := liC (fnO xs)) (by rw [h8]; exact hi), Array.getElem?_eq_none]
    unfold splice
    simp
    omega
set_option maxRecDepth 10000 in
set_option maxHeartbeats 400000 in
theorem district_any (m : MapD) (A : Option Addr) (c : Nat) (A2 : Option Addr) (c2 : Nat) (A3 : Option Addr) (c3 : Nat) (x : Int) (B : Nat) (w : World) (h : Blk w B 34 #[.slice A m.old.length c, .int .i64 m.nw, .slice A2 m.ss.length c2, .slice A3 m.js.length c3]) (h1 : 1 ≤ m.nw) (h4 : m.nw ≤ 4) :
    Calls Try.prog 85 #[.int .i64 x, .pointer (some ⟨B, 0, none⟩)] w fun e w' => e = .returned (.bool (inB x 0 (m.nw - 1))) ∧ Below w.heap.size w w' := by
  obtain ⟨t0, t1, t2, t3⟩ := h.c4
  have KW := hid (bwithin_any x 0 (m.nw - 1) w)
  clear h
  go_enter Try.func85, Try.ntmps85
  go_wp2_with fail
  refine KW.out.mono ?_
  rintro e w2 ⟨rfl, rfl⟩
  go_wp2
  go_ret
  exact ⟨rfl, Below.refl _ _⟩

set_option maxRecDepth 100000 in
set_option maxHeartbeats 2000000 in
theorem pborders_bad (m : MapD) (A : Option Addr) (c : Nat) (A2 : Option Addr) (c2 : Nat) (A3 : Option Addr) (c3 : Nat) (Ax : Option Addr) (cx : Nat) (xs : List Int) (lo hi mv : Int) (w : World) (h : MIn m A c A2 c2 A3 c3 w) (hx : IsInts w w.heap.size Ax xs) (_hxl : xs.length ≤ cx) (_hxm : cx ≤ maxLen) (he : askE m lo hi ≠ 0) :
    Calls Try.prog 37 #[.agg #[.slice A m.old.length c, .int .i64 m.nw, .slice A2 m.ss.length c2, .slice A3 m.js.length c3], .slice Ax xs.length cx, .agg #[.int .i64 lo, .int .i64 hi], .int .i64 mv] w fun e w' => e = .returned (.bool false) ∧ Below w.heap.size w w' := by
  have hb0 := (below_box (w := w) #[.slice A m.old.length c, .int .i64 m.nw, .slice A2 m.ss.length c2, .slice A3 m.js.length c3] 34).alloc (below_box (w := w) #[.slice A m.old.length c, .int .i64 m.nw, .slice A2 m.ss.length c2, .slice A3 m.js.length c3] 34).size (.cells #[.int .i64 lo, .int .i64 hi] 49)
  have hT := (Blk.new w 34 #[.slice A m.old.length c, .int .i64 m.nw, .slice A2 m.ss.length c2, .slice A3 m.js.length c3]).alloc (.cells #[.int .i64 lo, .int .i64 hi] 49)
  have hR := Blk.new (w.alloc (.cells #[.slice A m.old.length c, .int .i64 m.nw, .slice A2 m.ss.length c2, .slice A3 m.js.length c3] 34)) 49 #[.int .i64 lo, .int .i64 hi]
  rw [World.size_alloc] at hR
  have HS := hid (And.intro hb0 (And.intro hT (And.intro hR (And.intro (h.at_ hb0) (hx.at_ hb0)))))
  obtain ⟨t0, t1, t2, t3⟩ := hT.c4
  obtain ⟨r0, r1⟩ := hR.c2
  have KC := hid (asked_bad m A c A2 c2 A3 c3 lo hi _ (h.at_ hb0) he)
  have hne : (askE m lo hi != 0) = true := by simpa using he
  clear hb0 hT hR h he hx
  generalize askE m lo hi = z at *
  go_enter Try.func37, Try.ntmps37
  go_wp2_with fail
  refine KC.out.mono ?_
  rintro e w2 ⟨rfl, hb⟩
  have HB2 := hid (HS.out.1.trans (hb.mono HS.out.1.size))
  clear hb KC t0 t1 t2 t3 r0 r1
  go_wp2
  go_ret
  exact ⟨rfl, HB2.out⟩

theorem min8 {xs : List Int} (h : xs.length ≤ 8) : (xs.map (Value.int .i64)).length = Nat.min xs.length 8 := by
  show _ = min xs.length 8
  rw [List.length_map]; omega
theorem pos_copy {xs : List Int} {Ax : Option Addr} {g n : Nat} {w : World} (h : IsInts w n Ax xs) (h0 : 0 < (xs.map (Value.int .i64)).length) : (some (⟨g, 0, none⟩ : Addr)) = some ⟨g, 0, none⟩ ∧ ∃ ad, Ax = some ad ∧ ∀ (j : Nat) (v : Value), (xs.map (Value.int .i64))[j]? = some v → w.cell? (ad.add j) = some v := by
  refine ⟨rfl, ?_⟩
  have h1 : 0 < xs.length := by simpa using h0
  obtain ⟨ad, e, _, _⟩ := h 0 xs[0] (List.getElem?_eq_getElem h1)
  refine ⟨ad, e, fun j v hv => ?_⟩
  rw [List.getElem?_map, Option.map_eq_some_iff] at hv
  obtain ⟨y, hy, rfl⟩ := hv
  obtain ⟨ad', e', _, hc⟩ := h j y hy
  rw [e] at e'
  cases e'
  exact hc
set_option maxRecDepth 100000 in
set_option maxHeartbeats 4000000 in
theorem pborders_ok (m : MapD) (A : Option Addr) (c : Nat) (A2 : Option Addr) (c2 : Nat) (A3 : Option Addr) (c3 : Nat) (Ax : Option Addr) (cx : Nat) (xs : List Int) (lo hi mv : Int) (w : World) (h : MIn m A c A2 c2 A3 c3 w) (hx : IsInts w w.heap.size Ax xs) (hxl : xs.length ≤ cx) (hxm : cx ≤ maxLen) (he : askE m lo hi = 0) :
    Calls Try.prog 37 #[.agg #[.slice A m.old.length c, .int .i64 m.nw, .slice A2 m.ss.length c2, .slice A3 m.js.length c3], .slice Ax xs.length cx, .agg #[.int .i64 lo, .int .i64 hi], .int .i64 mv] w fun e w' => e = .returned (.bool (areB m xs && (decide (movN m (fnO xs) m.ss.length ≤ mv) && rightB m (fnO xs) lo hi))) ∧ Below w.heap.size w w' := by
  have hb0 := (below_box (w := w) #[.slice A m.old.length c, .int .i64 m.nw, .slice A2 m.ss.length c2, .slice A3 m.js.length c3] 34).alloc (below_box (w := w) #[.slice A m.old.length c, .int .i64 m.nw, .slice A2 m.ss.length c2, .slice A3 m.js.length c3] 34).size (.cells #[.int .i64 lo, .int .i64 hi] 49)
  have hT := (Blk.new w 34 #[.slice A m.old.length c, .int .i64 m.nw, .slice A2 m.ss.length c2, .slice A3 m.js.length c3]).alloc (.cells #[.int .i64 lo, .int .i64 hi] 49)
  have hR := Blk.new (w.alloc (.cells #[.slice A m.old.length c, .int .i64 m.nw, .slice A2 m.ss.length c2, .slice A3 m.js.length c3] 34)) 49 #[.int .i64 lo, .int .i64 hi]
  rw [World.size_alloc] at hR
  have HS := hid (And.intro hb0 (And.intro hT (And.intro hR (And.intro (h.at_ hb0) (hx.at_ hb0)))))
  obtain ⟨t0, t1, t2, t3⟩ := hT.c4
  obtain ⟨r0, r1⟩ := hR.c2
  unfold maxLen at hxm
  have KC := hid (asked_ok m A c A2 c2 A3 c3 lo hi _ (h.at_ hb0) he)
  have OK := hid (chk_okm (ask_ok he).1)
  have hs8 := OK.out.s8
  clear hb0 hT hR h he hx
  by_cases hlen : xs.length = m.ss.length
  · have HLEN := hid hlen
    have hlB : ((xs.length : Int) != (m.ss.length : Int)) = false := by simp [hlen]
    clear hlen
    go_enter Try.func37, Try.ntmps37
    go_wp2_with fail
    refine KC.out.mono ?_
    rintro e w2 ⟨g, b, rfl, _, _, hw, hb⟩
    have HB2 := hid (And.intro hb (And.intro (HS.out.2.1.keep hb) (And.intro (HS.out.2.2.1.keep hb) (And.intro (HS.out.2.2.2.1.at_ hb) (And.intro (HS.out.2.2.2.2.at_ hb) hw)))))
    clear hb KC t0 t1 t2 t3 r0 r1 hw
    obtain ⟨t0, t1, t2, t3⟩ := HB2.out.2.1.c4
    have KA := ball_int (fun x => inB x 0 (m.nw - 1)) Ax cx xs w2 HB2.out.2.2.2.2.1 hxl (by unfold maxLen; exact hxm) 85 #[] #[.pointer (some ⟨w.heap.size, 0, none⟩)] (enters_of Try.func85 (by kernel_rfl) rfl)
      (fun W x hW _ => district_any m A c A2 c2 A3 c3 x w.heap.size W (HB2.out.2.1.keep hW) OK.out.n1 OK.out.n4)
    cases hal : xs.all fun x => inB x 0 (m.nw - 1)
    · rw [hal] at KA
      have KA := hid KA
      have HAR := hid (show areB m xs = false by unfold areB; rw [hal]; simp)
      clear hal
      go_wp2_with fail
      refine KA.out.mono ?_
      rintro e w3 ⟨rfl, hb⟩
      have HB3 := hid (HS.out.1.trans ((HB2.out.1.trans (hb.mono HB2.out.1.size)).mono HS.out.1.size))
      clear hb KA t0 t1 t2 t3
      go_wp2
      go_ret
      exact ⟨by rw [HAR.out]; rfl, HB3.out⟩
    · rw [hal] at KA
      have KA := hid KA
      have HAR := hid (show areB m xs = true by unfold areB; rw [hal, decide_eq_true HLEN.out]; rfl)
      clear hal
      go_wp2_with fail
      refine KA.out.mono ?_
      rintro e w3 ⟨rfl, hb⟩
      have HB3 := hid (And.intro (HB2.out.1.trans (hb.mono HB2.out.1.size)) (And.intro (HB2.out.2.1.keep hb) (And.intro (HB2.out.2.2.1.keep hb) (And.intro (HB2.out.2.2.2.1.at_ hb) (And.intro (HB2.out.2.2.2.2.1.at_ hb) (HB2.out.2.2.2.2.2.keep hb))))))
      clear hb KA t0 t1 t2 t3 HB2
      have hz := below_box (w := w3) (List.replicate 8 (Value.int .i64 0)).toArray 103
      have hzk := Blk.new w3 103 (List.replicate 8 (Value.int .i64 0)).toArray
      have HZ := hid (And.intro hz (And.intro hzk (HB3.out.2.2.2.2.1.at_ hz)))
      have hx8 : xs.length ≤ 8 := by rw [HLEN.out]; exact hs8
      have HX8 := hid hx8
      clear hz hzk
      go_wp2_with (refine wpList_copy_splice (o := ⟨some 41, _, _, _, _, _⟩) rfl (.tmp 39) (.tmp 40) 22 22 rfl 3 Try.underlying22 (by kernel_rfl) (some ⟨w3.heap.size, 0, none⟩) Ax 8 8 xs.length cx rfl rfl w3.heap.size 0 (List.replicate 8 (Value.int .i64 0)) 103 HZ.out.2.1 (xs.map (Value.int .i64)) (min8 HX8.out) (by intro h0; exact pos_copy HZ.out.2.2 h0) (by simp; exact HX8.out) (by intro v hv; obtain ⟨y, _, rfl⟩ := List.mem_map.1 hv; rfl) w3.heap.size w3 HZ.out.1 (Nat.le_refl _) ?_; intro w4 hq hbq; obtain ⟨t0, t1, t2, t3⟩ := (HB3.out.2.1.keep hbq).c4)
      have HQ := hid (show Blk w4 w3.heap.size 103 (liC (fnO xs)) ∧ Below w3.heap.size w3 w4 from ⟨by have := hq.out; rw [copied HX8.out] at this; exact this, hbq⟩)
      clear hq hbq
      have HM4 := hid (And.intro (HS.out.1.trans ((HB3.out.1.trans (HQ.out.2.mono HB3.out.1.size)).mono HS.out.1.size)) (And.intro (HB3.out.2.2.1.keep HQ.out.2) (And.intro (HB3.out.2.2.2.1.at_ HQ.out.2) (HB3.out.2.2.2.2.2.keep HQ.out.2))))
      have HL4 := hid HQ.out.1
      obtain ⟨z, hz⟩ : ∃ z, w3.heap.size = z := ⟨_, rfl⟩
      rw [hz] at HL4 ⊢
      have hlm := HM4.out.2.2.1.m2
      have hll := HM4.out.2.2.1.l2
      unfold maxLen at hlm
      clear HB3 HQ HZ hz
      clear t0 t1 t2 t3
      go_loopw [13, 45] (fun v i W => ∃ k : Nat, k ≤ m.ss.length ∧ i = .int .i64 k ∧ v = .int .i64 (movN m (fnO xs) k) ∧ Below w4.heap.size w4 W) (fun _ i _ => m.ss.length - (intOf i).toNat)
      case atStart => exact ⟨0, Nat.zero_le _, rfl, rfl, Below.refl _ _⟩
      case round =>
        obtain ⟨k, hk, rfl, rfl, hbr⟩ := hrel
        have HBR := hid hbr
        have hlw := HL4.out.keep hbr
        have hmv := movN_bounds m (fnO xs) k
        obtain ⟨mn, hmn⟩ : ∃ mn, movN m (fnO xs) k = mn := ⟨_, rfl⟩
        rw [hmn] at hmv ⊢
        have hmv1 := hmv.1
        have hmv2 := hmv.2
        have HMN := hid hmn
        clear hbr hmv hmn
        by_cases hlt : k < m.ss.length
        · have hkI : (k : Int) < (m.ss.length : Int) := by omega
          have hk8 : k < 8 := by omega
          have hk8I : (k : Int) < 8 := by omega
          obtain ⟨s, hs⟩ : ∃ s, m.ss[k]? = some s := ⟨_, List.getElem?_eq_getElem hlt⟩
          obtain ⟨a, eA, g1, f0, f1, f2, f3, f4⟩ := (HM4.out.2.2.1.at_ HBR.out).is k s hs
          subst eA
          have HSS := hid (MapD.S_eq hs)
          have q1 := hlw.cell k
          rw [liC_get _ hk8] at q1
          have hbx := Blk.new wr 89 #[.int .i64 s.o, .int .i64 s.n, .int .i64 s.wt, .int .i64 s.lo, .int .i64 s.hi]
          have hbb := below_box (w := wr) #[.int .i64 s.o, .int .i64 s.n, .int .i64 s.wt, .int .i64 s.lo, .int .i64 s.hi] 89
          have HBX := hid (And.intro hbx hbb)
          have s1 := xt_cell (w := wr.alloc (.cells #[.int .i64 s.o, .int .i64 s.n, .int .i64 s.wt, .int .i64 s.lo, .int .i64 s.hi] 89)) ((hbb.cell (p := ⟨z, k, none⟩) hlw.lt).trans q1)
          obtain ⟨_, s2, _⟩ := xt_c5 (show Blk (wr.alloc (.cells #[.int .i64 s.o, .int .i64 s.n, .int .i64 s.wt, .int .i64 s.lo, .int .i64 s.hi] 89)) wr.heap.size 89 #[.int .i64 s.o, .int .i64 s.n, .int .i64 s.wt, .int .i64 s.lo, .int .i64 s.hi] from hbx)
          by_cases he : fnO xs k = s.n
          · have hoB : (fnO xs k != s.n) = false := by simp [he]
            have HNX := hid (show movN m (fnO xs) (k + 1) = mn by rw [movN_succ, HMN.out, HSS.out, if_pos he]; simp)
            clear he hs g1 q1 hbx hbb hlw
            go_wp2
            refine wp_region_quiet_xt (by kernel_rfl) (by kernel_rfl) ?_
            repeat (go_big_quiet_step (fail))
            refine wpQuiet_nil ?_
            intro W3 hw3
            replace hw3 := of_xt hw3
            have HW3 := hid (HBR.out.trans ((HBX.out.2.trans (hw3.mono HBX.out.2.size)).mono HBR.out.size))
            clear hw3 s1 s2 f0 f1 f2 f3 f4
            go_wp2
            go_roundw
            case rel => exact ⟨k + 1, by omega, by go_num, by rw [HNX.out], HW3.out⟩
            case measure => first | (simp [intOf]; done) | (simp [intOf]; omega)
          · have hoB : (fnO xs k != s.n) = true := by simp [he]
            have HNX := hid (show movN m (fnO xs) (k + 1) = mn + 1 by rw [movN_succ, HMN.out, HSS.out, if_neg he])
            clear he hs g1 q1 hbx hbb hlw
            go_wp2
            refine wp_region_quiet_xt (by kernel_rfl) (by kernel_rfl) ?_
            repeat (go_big_quiet_step (fail))
            refine wpQuiet_nil ?_
            intro W3 hw3
            replace hw3 := of_xt hw3
            have HW3 := hid (HBR.out.trans ((HBX.out.2.trans (hw3.mono HBX.out.2.size)).mono HBR.out.size))
            clear hw3 s1 s2 f0 f1 f2 f3 f4
            go_wp2
            go_roundw
            case rel => exact ⟨k + 1, by omega, by go_num, by rw [HNX.out], HW3.out⟩
            case measure => first | (simp [intOf]; done) | (simp [intOf]; omega)
        · have hkI : decide ((k : Int) < (m.ss.length : Int)) = false := by simp; omega
          obtain rfl : k = m.ss.length := by omega
          by_cases hle : mn ≤ mv
          · have hleB : decide (mn ≤ mv) = true := by simp [hle]
            have HDB := hid (show decide (movN m (fnO xs) m.ss.length ≤ mv) = true by rw [HMN.out]; exact hleB)
            have HB5 := hid (HM4.out.1.trans (HBR.out.mono HM4.out.1.size))
            obtain ⟨r0, r1⟩ := (HM4.out.2.1.keep HBR.out).c2
            obtain ⟨d0, d1, d2, d3, d4, d5, d6, d7⟩ := Blk.c8 (show Blk wr z 103 #[_, _, _, _, _, _, _, _] from hlw)
            have KR := right_any m A c A2 c2 A3 c3 g b (fnO xs) lo hi wr (HM4.out.2.2.2.keep HBR.out) (HM4.out.2.2.1.at_ HBR.out) OK.out
            clear hle hlw
            cases hrb : rightB m (fnO xs) lo hi
            all_goals
              rw [hrb] at KR
              have KR := hid KR
              have HRB := hid hrb
              clear hrb
              go_wp2_with fail
              refine KR.out.mono ?_
              rintro e w6 ⟨rfl, hb⟩
              have HB6 := hid (HB5.out.trans (hb.mono HB5.out.size))
              clear KR hb r0 r1 d0 d1 d2 d3 d4 d5 d6 d7
              go_wp2
              go_ret
              exact ⟨by rw [HAR.out, HDB.out, HRB.out]; rfl, HB6.out⟩
          · have hleB : decide (mn ≤ mv) = false := by simp; omega
            have HDB := hid (show decide (movN m (fnO xs) m.ss.length ≤ mv) = false by rw [HMN.out]; exact hleB)
            have HB5 := hid (HM4.out.1.trans (HBR.out.mono HM4.out.1.size))
            clear hle hlw
            go_wp2
            go_ret
            exact ⟨by rw [HAR.out, HDB.out]; rfl, HB5.out⟩
  · have hlB : ((xs.length : Int) != (m.ss.length : Int)) = true := by simp; omega
    have HAR := hid (show areB m xs = false by unfold areB; rw [decide_eq_false hlen]; rfl)
    clear hlen
    go_enter Try.func37, Try.ntmps37
    go_wp2_with fail
    refine KC.out.mono ?_
    rintro e w2 ⟨g, b, rfl, _, _, _, hb⟩
    have HB2 := hid (HS.out.1.trans (hb.mono HS.out.1.size))
    obtain ⟨x0, x1, x2, x3⟩ := (HS.out.2.1.keep hb).c4
    clear hb KC t0 t1 t2 t3 r0 r1
    go_wp2
    go_ret
    exact ⟨by rw [HAR.out]; rfl, HB2.out⟩
end Go.Proofs.Ytoeabajigfdkaaa
/- The law's small tests: equal lists, equal ranges, sums. Conditions stand at each theorem. -/
namespace Go.Proofs.Ytoeabajigfdkaaa
open Go.RowKit Go.Shelf

set_option maxRecDepth 10000 in
set_option maxHeartbeats 1000000 in
theorem mints_any (A : Option Addr) (c : Nat) (a : List Int) (B : Option Addr) (c2 : Nat) (b : List Int) (w : World) (ha : IsInts w w.heap.size A a) (hb : IsInts w w.heap.size B b) (hl : a.length ≤ c) (hc : c ≤ maxLen) (_hl2 : b.length ≤ c2) (_hc2 : c2 ≤ maxLen) :
    Calls Try.prog 23 #[.slice A a.length c, .slice B b.length c2] w fun e w' => e = .returned (.bool (decide (a = b))) ∧ Below w.heap.size w w' := by
  unfold maxLen at hc
  have HA := hid (And.intro ha hb)
  clear ha hb
  by_cases hlen : a.length = b.length
  · have hlB : ((a.length : Int) != (b.length : Int)) = false := by simp [hlen]
    have HL := hid hlen
    clear hlen
    go_enter Try.func23, Try.ntmps23
    go_wp2
    go_loopw [5] (fun i W => ∃ k : Nat, k ≤ a.length ∧ i = .int .i64 k ∧ a.take k = b.take k ∧ Below w.heap.size w W) (fun i _ => a.length - (intOf i).toNat)
    case atStart => exact ⟨0, Nat.zero_le _, rfl, rfl, Below.refl _ _⟩
    case round =>
      obtain ⟨k, hk, rfl, htk, hbr⟩ := hrel
      have HR := hid (And.intro htk hbr)
      clear htk hbr
      by_cases hlt : k < a.length
      · have hkI : (k : Int) < (a.length : Int) := by omega
        have hkJ : (k : Int) < (b.length : Int) := by have := HL.out; omega
        have hkN : k < b.length := by have := HL.out; omega
        obtain ⟨x, hx⟩ : ∃ x, a[k]? = some x := ⟨_, List.getElem?_eq_getElem hlt⟩
        obtain ⟨y, hy⟩ : ∃ y, b[k]? = some y := ⟨_, List.getElem?_eq_getElem hkN⟩
        obtain ⟨aa, eA, g1, q1⟩ := (HA.out.1.at_ HR.out.2) k x hx
        obtain ⟨ab, eB, g2, q2⟩ := (HA.out.2.at_ HR.out.2) k y hy
        subst eA eB
        have s1 := xt_cell q1
        have s2 := xt_cell q2
        by_cases he : x = y
        · have HNX := hid (take_step HR.out.1 hx hy he)
          have heB : (x != y) = false := by simp [he]
          clear he hx hy q1 q2 g1 g2
          go_wp2
          refine wp_region_quiet_xt (by kernel_rfl) (by kernel_rfl) ?_
          repeat (go_big_quiet_step (fail))
          refine wpQuiet_nil ?_
          intro W3 hw3
          replace hw3 := of_xt hw3
          have HW3 := hid (HR.out.2.trans (hw3.mono HR.out.2.size))
          clear hw3 s1 s2
          go_wp2
          go_roundw
          case rel => exact ⟨k + 1, by omega, by go_num, HNX.out, HW3.out⟩
          case measure => first | (simp [intOf]; done) | (simp [intOf]; omega)
        · have HNX := hid (show decide (a = b) = false from decide_eq_false (ne_of_at hx hy he))
          have heB : (x != y) = true := by simp [he]
          clear he hx hy q1 q2 g1 g2
          go_wp2
          refine wp_region_quiet_xt (by kernel_rfl) (by kernel_rfl) ?_
          repeat (go_big_quiet_step (fail))
          refine wpQuiet_nil ?_
          intro W3 hw3
          replace hw3 := of_xt hw3
          have HW3 := hid (HR.out.2.trans (hw3.mono HR.out.2.size))
          clear hw3 s1 s2
          go_wp2
          go_ret
          exact ⟨by rw [HNX.out]; rfl, HW3.out⟩
      · have hkI : decide ((k : Int) < (a.length : Int)) = false := by simp; omega
        obtain rfl : k = a.length := by omega
        have HE := hid (show decide (a = b) = true from decide_eq_true (eq_of_take HR.out.1 HL.out))
        go_wp2
        go_ret
        exact ⟨by rw [HE.out]; rfl, HR.out.2⟩
  · have hlB : ((a.length : Int) != (b.length : Int)) = true := by simp; omega
    have HE := hid (show decide (a = b) = false from decide_eq_false (fun e => hlen (by rw [e])))
    clear hlen
    go_enter Try.func23, Try.ntmps23
    go_wp2
    go_ret
    exact ⟨by rw [HE.out]; rfl, Below.refl _ _⟩

set_option maxRecDepth 10000 in
set_option maxHeartbeats 400000 in
theorem to_any (x y : Int) (w : World) : Calls Try.prog 36 #[.agg #[.int .i64 x, .int .i64 y]] w fun e w' => e = .returned (.agg #[.int .i64 x, .int .i64 y]) ∧ Below w.heap.size w w' := by
  go_enter Try.func36, Try.ntmps36
  go_wp2
  have b1 := ((Below.refl w.heap.size w).alloc (Nat.le_refl _) (.cells #[.int .i64 x, .int .i64 y] 43)).alloc (by simp) (.cells #[.int .i64 x, .int .i64 y] 49)
  have k1 := Blk.new (w.alloc (.cells #[.int .i64 x, .int .i64 y] 43)) 49 #[.int .i64 x, .int .i64 y]
  rw [World.size_alloc] at k1
  generalize ((w.alloc (.cells #[.int .i64 x, .int .i64 y] 43)).alloc (.cells #[.int .i64 x, .int .i64 y] 49)) = W at *
  obtain ⟨e0, e1⟩ := k1.c2
  exact bodyPost_ret (v := .agg #[.int .i64 x, .int .i64 y]) (by simp [results, Try.results36, go_sem, e0, e1]) rfl ⟨rfl, b1⟩
theorem IsRngs.below {w w' : World} {n : Nat} {A : Option Addr} {rs : List (Int × Int)} (h : IsRngs w n A rs) (hb : Below n w w') : IsRngs w' n A rs := fun k s hk => by
  obtain ⟨a, e, hl, h0, h1⟩ := h k s hk
  exact ⟨a, e, hl, (hb.cell (by rw [block_of_add]; exact hl)).trans h0, (hb.cell (by show (a.add _).block < _; rw [block_of_add]; exact hl)).trans h1⟩
set_option maxRecDepth 10000 in
set_option maxHeartbeats 1000000 in
theorem mranges_any (A : Option Addr) (c : Nat) (a : List (Int × Int)) (B : Option Addr) (c2 : Nat) (b : List (Int × Int)) (w : World) (ha : IsRngs w w.heap.size A a) (hb : IsRngs w w.heap.size B b) (hl : a.length ≤ c) (hc : c ≤ maxLen) (_hl2 : b.length ≤ c2) (_hc2 : c2 ≤ maxLen) :
    Calls Try.prog 50 #[.slice A a.length c, .slice B b.length c2] w fun e w' => e = .returned (.bool (decide (a = b))) ∧ Below w.heap.size w w' := by
  unfold maxLen at hc
  have HA := hid (And.intro ha hb)
  clear ha hb
  by_cases hlen : a.length = b.length
  · have hlB : ((a.length : Int) != (b.length : Int)) = false := by simp [hlen]
    have HL := hid hlen
    clear hlen
    go_enter Try.func50, Try.ntmps50
    go_wp2
    go_loopw [5] (fun i W => ∃ k : Nat, k ≤ a.length ∧ i = .int .i64 k ∧ a.take k = b.take k ∧ Below w.heap.size w W) (fun i _ => a.length - (intOf i).toNat)
    case atStart => exact ⟨0, Nat.zero_le _, rfl, rfl, Below.refl _ _⟩
    case round =>
      obtain ⟨k, hk, rfl, htk, hbr⟩ := hrel
      have HR := hid (And.intro htk hbr)
      clear htk hbr
      by_cases hlt : k < a.length
      · have hkI : (k : Int) < (a.length : Int) := by omega
        have hkJ : (k : Int) < (b.length : Int) := by have := HL.out; omega
        have hkN : k < b.length := by have := HL.out; omega
        obtain ⟨⟨x, x'⟩, hx⟩ : ∃ x, a[k]? = some x := ⟨_, List.getElem?_eq_getElem hlt⟩
        obtain ⟨⟨y, y'⟩, hy⟩ : ∃ y, b[k]? = some y := ⟨_, List.getElem?_eq_getElem hkN⟩
        obtain ⟨aa, eA, g1, q1, p1⟩ := (HA.out.1.at_ HR.out.2) k (x, x') hx
        obtain ⟨ab, eB, g2, q2, p2⟩ := (HA.out.2.at_ HR.out.2) k (y, y') hy
        subst eA eB
        have s1 := xt_cell q1
        have s2 := xt_cell q2
        have s3 := xt_cell p1
        have s4 := xt_cell p2
        have HTO := hid (fun q => to_any y y' (xt wr q))
        by_cases he : (x, x') = (y, y')
        · have HNX := hid (take_step HR.out.1 hx hy he)
          have he1 : x = y ∧ x' = y' := by simpa using he
          obtain ⟨rfl, rfl⟩ := he1
          clear he hx hy q1 q2 g1 g2 p1 p2
          go_wp2
          refine wp_region_quiet_xt (by kernel_rfl) (by kernel_rfl) ?_
          repeat (go_big_quiet_step ((go_at_call 36; with_reducible exact Calls.xt (HTO.out _))))
          refine wpQuiet_nil ?_
          intro W3 hw3
          replace hw3 := of_xt hw3
          have HW3 := hid (HR.out.2.trans (hw3.mono HR.out.2.size))
          clear hw3 s1 s2 s3 s4
          go_wp2
          go_roundw
          case rel => exact ⟨k + 1, by omega, by go_num, HNX.out, HW3.out⟩
          case measure => first | (simp [intOf]; done) | (simp [intOf]; omega)
        · have HNX := hid (show decide (a = b) = false from decide_eq_false (ne_of_at hx hy he))
          have he1 : x = y → ¬ x' = y' := fun e1 e2 => he (by rw [e1, e2])
          by_cases h1 : x = y
          · subst h1
            have h2 := he1 rfl
            have b2 : (x' == y') = false := by simp [h2]
            clear he he1 h2
            clear hx hy q1 q2 g1 g2 p1 p2
            go_wp2
            refine wp_region_quiet_xt (by kernel_rfl) (by kernel_rfl) ?_
            repeat (go_big_quiet_step ((go_at_call 36; with_reducible exact Calls.xt (HTO.out _))))
            refine wpQuiet_nil ?_
            intro W3 hw3
            replace hw3 := of_xt hw3
            have HW3 := hid (HR.out.2.trans (hw3.mono HR.out.2.size))
            clear hw3 s1 s2 s3 s4
            go_wp2
            go_ret
            exact ⟨by rw [HNX.out]; rfl, HW3.out⟩
          · have b1 : (x == y) = false := by simp [h1]
            clear he he1 h1
            clear hx hy q1 q2 g1 g2 p1 p2
            go_wp2
            refine wp_region_quiet_xt (by kernel_rfl) (by kernel_rfl) ?_
            repeat (go_big_quiet_step ((go_at_call 36; with_reducible exact Calls.xt (HTO.out _))))
            refine wpQuiet_nil ?_
            intro W3 hw3
            replace hw3 := of_xt hw3
            have HW3 := hid (HR.out.2.trans (hw3.mono HR.out.2.size))
            clear hw3 s1 s2 s3 s4
            go_wp2
            go_ret
            exact ⟨by rw [HNX.out]; rfl, HW3.out⟩
      · have hkI : decide ((k : Int) < (a.length : Int)) = false := by simp; omega
        obtain rfl : k = a.length := by omega
        have HE := hid (show decide (a = b) = true from decide_eq_true (eq_of_take HR.out.1 HL.out))
        go_wp2
        go_ret
        exact ⟨by rw [HE.out]; rfl, HR.out.2⟩
  · have hlB : ((a.length : Int) != (b.length : Int)) = true := by simp; omega
    have HE := hid (show decide (a = b) = false from decide_eq_false (fun e => hlen (by rw [e])))
    clear hlen
    go_enter Try.func50, Try.ntmps50
    go_wp2
    go_ret
    exact ⟨by rw [HE.out]; rfl, Below.refl _ _⟩
set_option maxRecDepth 10000 in
set_option maxHeartbeats 1000000 in
theorem mtotal_any (A : Option Addr) (c : Nat) (xs : List Int) (w : World) (h : IsInts w w.heap.size A xs) (hl : xs.length ≤ 1000) (hx : ∀ x ∈ xs, 0 ≤ x ∧ x ≤ 100000) :
    Calls Try.prog 52 #[.slice A xs.length c] w fun e w' => e = .returned (.int .i64 xs.sum) ∧ Below w.heap.size w w' := by
  have HA := hid h
  have HX := hid (show ∀ k, k ≤ xs.length → 0 ≤ (xs.take k).sum ∧ (xs.take k).sum ≤ 100000 * k from fun k hk => by
    induction k with
    | zero => simp
    | succ k ih =>
      have := hx xs[k] (List.getElem_mem (by omega))
      have := ih (by omega)
      rw [List.take_succ_eq_append_getElem (by omega), List.sum_append]
      simp only [List.sum_cons, List.sum_nil]
      omega)
  have HXX := hid hx
  clear h hx
  go_enter Try.func52, Try.ntmps52
  go_wp2
  go_loop [3, 4] (fun v i => ∃ k : Nat, k ≤ xs.length ∧ i = .int .i64 k ∧ v = .int .i64 (xs.take k).sum) (fun _ i => xs.length - (intOf i).toNat)
  case atStart => exact ⟨0, Nat.zero_le _, rfl, rfl⟩
  case round =>
    obtain ⟨k, hk, rfl, rfl⟩ := hrel
    by_cases hlt : k < xs.length
    · have hkI : (k : Int) < (xs.length : Int) := by omega
      obtain ⟨x, hx⟩ : ∃ x, xs[k]? = some x := ⟨_, List.getElem?_eq_getElem hlt⟩
      obtain ⟨aa, eA, g1, q1⟩ := HA.out k x hx
      subst eA
      have hb := HX.out k hk
      have hxb := HXX.out x (List.mem_of_getElem? hx)
      have HNX := hid (show (xs.take (k + 1)).sum = (xs.take k).sum + x by
        obtain ⟨hk', e⟩ := List.getElem?_eq_some_iff.1 hx
        rw [List.take_succ_eq_append_getElem hk', List.sum_append, e]; simp)
      obtain ⟨S, hS⟩ : ∃ S, (xs.take k).sum = S := ⟨_, rfl⟩
      rw [hS] at hb HNX ⊢
      obtain ⟨hb1, hb2⟩ := hb
      obtain ⟨hx1, hx2⟩ := hxb
      clear hx g1 hS
      go_wp2
      go_round
      case rel => exact ⟨k + 1, by omega, by go_num, by rw [HNX.out]⟩
      case measure => first | (simp [intOf]; done) | (simp [intOf]; omega)
    · have hkI : decide ((k : Int) < (xs.length : Int)) = false := by simp; omega
      obtain rfl : k = xs.length := by omega
      rw [List.take_length]
      go_wp2
      go_ret
      exact ⟨rfl, Below.refl _ _⟩
end Go.Proofs.Ytoeabajigfdkaaa
/- The law's own copy of a list. -/
namespace Go.Proofs.Ytoeabajigfdkaaa
open Go.RowKit Go.Shelf

set_option maxRecDepth 10000 in
set_option maxHeartbeats 400000 in
theorem list_any (A : Option Addr) (c : Nat) (xs : List Int) (w : World) (h : IsInts w w.heap.size A xs) (hA : A = none → c = 0) (hl : xs.length ≤ 1000000) :
    Calls Try.prog 38 #[.slice A xs.length c] w (GivesInts xs w) := by
  obtain ⟨i0, hi0, hz0, hz1, hz2⟩ := info_parts int_info
  cases A with
  | none =>
    have hx : xs = [] := by
      cases xs with
      | nil => rfl
      | cons x l => obtain ⟨a, e, _⟩ := h 0 x rfl; cases e
    subst hx
    obtain rfl := hA rfl
    have hr : (Builtin.append_ #[22, 22] 22 #[.slice none 0 0, .slice none 0 0]).run Try.prog w = .ok (.slice none 0 0) w := by
      exact run_append_nothing (P := Try.prog) w 22 22 22 3 i0 Try.underlying22 hi0 none 0 0 (Nat.le_refl _) (.slice none 0 0) (Src.ofNil w Try.underlying22 0)
    go_enter Try.func38, Try.ntmps38
    go_wp2
    go_ret
    exact ⟨none, 0, rfl, Nat.le_refl _, Nat.zero_le _, (fun k x hk => by simp at hk), (fun a e => by cases e), fun _ => rfl, Below.refl _ _⟩
  | some a =>
    have hnews := hid (ints_news h)
    have HO := hid (World.ownsRow_nil w w.heap.size 3 1)
    clear hA h
    go_enter Try.func38, Try.ntmps38
    go_wp2_with (at_builtin; refine wpList_append_own_at _ rfl _ _ 22 rfl w.heap.size 3 i0 (.int .i64 0) 1 8 Try.underlying22 hi0 hz0 hz1 hz2 rfl (by decide) _ 0 [] rfl HO.out a xs.length c (xs.map (Value.int .i64)) rfl (by simp) hnews.out (ints_one xs) (by simp only [maxLen]; omega) (by omega) (by simp) ?_; intro v' w1 hown' hgrow _ _)
    go_ret
    obtain ⟨A1, c1, rfl, h1, h2, h3, h4, h5⟩ := own_ints (xs := xs) (n := 0 + xs.length) (by omega) (by simpa using hown')
    exact ⟨A1, c1, rfl, h1, h2, h3, h4, h5, (Below.refl _ _).grown hgrow (Nat.le_refl _) (fun k hk => by cases hk)⟩
end Go.Proofs.Ytoeabajigfdkaaa
/- Map: the reference's map, as the program's. Conditions stand at each theorem. -/
namespace Go.Proofs.Ytoeabajigfdkaaa
open Go.RowKit Go.Shelf

def set4 (W : World) (g : Nat) (u0 u1 u2 u3 : Value) : World := (((W.setCell ⟨g, 0, none⟩ u0).setCell ⟨g, 1, none⟩ u1).setCell ⟨g, 2, none⟩ u2).setCell ⟨g, 3, none⟩ u3
theorem grown_set (W : World) (p : Addr) (u : Value) : W.grownBy (W.setCell p u) (some p.block) := ⟨rfl, rfl, rfl, by simp [World.setCell], fun k _ hn => Below.heap_setCell W p u k (fun e => hn (by rw [e]))⟩
theorem grown_both {A B D : World} {g : Nat} (h : A.grownBy B (some g)) (k : B.grownBy D (some g)) : A.grownBy D (some g) :=
  ⟨k.os.trans h.os, k.tape.trans h.tape, k.output.trans h.output, Nat.le_trans h.size k.size, fun i hi hn => (k.block i (Nat.lt_of_lt_of_le hi h.size) hn).trans (h.block i hi hn)⟩
theorem grown4 (W : World) (g : Nat) (u0 u1 u2 u3 : Value) : W.grownBy (set4 W g u0 u1 u2 u3) (some g) :=
  grown_both (grown_both (grown_both (grown_set W ⟨g, 0, none⟩ u0) (grown_set _ ⟨g, 1, none⟩ u1)) (grown_set _ ⟨g, 2, none⟩ u2)) (grown_set _ ⟨g, 3, none⟩ u3)
theorem set4_blk {W : World} {g t : Nat} {v0 v1 v2 v3 : Value} (h : Blk W g t #[v0, v1, v2, v3]) (u0 u1 u2 u3 : Value) : Blk (set4 W g u0 u1 u2 u3) g t #[u0, u1, u2, u3] := (((h.set_ 0 u0).set_ 1 u1).set_ 2 u2).set_ 3 u3
/-- a map that a call has made -/
def GivesMap (m : MapD) (w : World) (e : Ending) (w' : World) : Prop :=
  ∃ P Q R : Option Addr × Nat, e = .returned (.agg #[.slice P.1 m.old.length P.2, .int .i64 m.nw, .slice Q.1 m.ss.length Q.2, .slice R.1 m.js.length R.2]) ∧ MIn m P.1 P.2 Q.1 Q.2 R.1 R.2 w' ∧ Below w.heap.size w w'

set_option maxRecDepth 100000 in
set_option maxHeartbeats 4000000 in
theorem map_any (m : MapD) (A : Option Addr) (c : Nat) (A2 : Option Addr) (c2 : Nat) (A3 : Option Addr) (c3 : Nat) (w : World) (h : MArg m A c A2 c2 A3 c3 w) (h7 : m.old.length ≤ 1000) (h11 : m.ss.length ≤ 1000) (h24 : m.js.length ≤ 1000) :
    Calls Try.prog 19 #[.agg #[.slice A m.old.length c, .int .i64 m.nw, .slice A2 m.ss.length c2, .slice A3 m.js.length c3]] w (GivesMap m w) := by
  have hm2 := h.m2
  have hl2 := h.l2
  have hm3 := h.m3
  have hl3 := h.l3
  unfold maxLen at hm2 hm3
  have hB := below_box (w := w) #[.slice A m.old.length c, .int .i64 m.nw, .slice A2 m.ss.length c2, .slice A3 m.js.length c3] 26
  have hB2 := hB.alloc hB.size (.cells #[.slice none 0 0, .int .i64 0, .slice none 0 0, .slice none 0 0] 34)
  have hT := (Blk.new w 26 #[.slice A m.old.length c, .int .i64 m.nw, .slice A2 m.ss.length c2, .slice A3 m.js.length c3]).alloc (.cells #[.slice none 0 0, .int .i64 0, .slice none 0 0, .slice none 0 0] 34)
  have hU := Blk.new (w.alloc (.cells #[.slice A m.old.length c, .int .i64 m.nw, .slice A2 m.ss.length c2, .slice A3 m.js.length c3] 26)) 34 #[.slice none 0 0, .int .i64 0, .slice none 0 0, .slice none 0 0]
  rw [World.size_alloc] at hU
  have HS := hid (And.intro hB2 (And.intro hT (And.intro hU (h.at_ hB2))))
  have HA := hid h
  clear hB hB2 hT hU h
  go_enter Try.func19, Try.ntmps19
  go_wp2
  generalize hW1 : ((w.alloc (.cells #[.slice A m.old.length c, .int .i64 m.nw, .slice A2 m.ss.length c2, .slice A3 m.js.length c3] 26)).alloc (.cells #[.slice none 0 0, .int .i64 0, .slice none 0 0, .slice none 0 0] 34)) = w1 at *
  clear hW1
  have KL := hid (fun (W : World) (hW : Below w1.heap.size w1 W) => list_any A c m.old W (HS.out.2.2.2.io.at_ hW) HS.out.2.2.2.z1 (by omega))
  refine (wpIn_wide (n := 0)).1 ?_
  refine wpIn_region_each 7 (fun i v W' => match i with | 0 => v = .pointer (some ⟨w.heap.size, 0, none⟩) | 1 => v = .slice A m.old.length c | 2 => ∃ y : Option Addr × Nat, v = .slice y.1 m.old.length y.2 ∧ m.old.length ≤ y.2 ∧ y.2 ≤ maxLen ∧ IntsB y.1 m.old W' | 3 => v = .pointer (some ⟨w.heap.size, 1, none⟩) | 4 => v = .int .i64 m.nw | 5 => ∃ y : Option Addr × Nat, v = .agg #[.slice y.1 m.old.length y.2, .int .i64 m.nw, .slice none 0 0, .slice none 0 0] ∧ m.old.length ≤ y.2 ∧ y.2 ≤ maxLen ∧ IntsB y.1 m.old W' | 6 => ∃ gl, v = .pointer (some ⟨gl, 0, none⟩) ∧ w1.heap.size ≤ gl ∧ Blk W' gl 34 #[.slice none 0 0, .int .i64 0, .slice none 0 0, .slice none 0 0] | _ => True) (fun A B => Below A.heap.size A B) (fun _ _ => True) (by kernel_rfl) (by kernel_rfl) ?_ (fun h k => h.trans (k.mono h.size)) ⟨rfl, rfl, rfl, Nat.le_refl _, fun _ _ => rfl⟩ trivial (by kernel_rfl) ?_ ?_
  · intro i v W1 W2 hb h
    match i, h with
    | 0, h => exact h
    | 1, h => exact h
    | 2, h =>
      obtain ⟨y, rfl, h1⟩ := h
      exact ⟨_, rfl, h1.1, h1.2.1, h1.2.2.to hb.size (fun _ _ q => q.keep hb)⟩
    | 3, h => exact h
    | 4, h => exact h
    | 5, h =>
      obtain ⟨y, rfl, h1⟩ := h
      exact ⟨_, rfl, h1.1, h1.2.1, h1.2.2.to hb.size (fun _ _ q => q.keep hb)⟩
    | 6, h =>
      obtain ⟨gl, rfl, h1⟩ := h
      exact ⟨_, rfl, h1.1, h1.2.keep hb⟩
    | i + 7, h => trivial
  · refine ⟨?_, ?_, ?_, ?_, ?_, ?_, ?_, trivial⟩
    · -- 0
      intro li a1 W2 hA K hK
      have e1 := hA.par 1 (by kernel_rfl)
      refine opStep none 0 rfl rfl (fun c hc => by cases hc) ?_
      go_simp
      exact hK _ _ rfl (Below.refl _ _) trivial
    · -- 1
      intro li a1 W2 hA K hK
      have e7 : a1.tmps.getD 7 undef = .pointer (some ⟨w.heap.size, 0, none⟩) := hA.val 0 7 (by kernel_rfl) (by kernel_rfl)
      obtain ⟨q1, q2, q3, q4⟩ := (HS.out.2.1.keep hA.st).c4
      refine opStep none 0 rfl rfl (fun c hc => by cases hc) ?_
      go_simp
      exact hK _ _ rfl (Below.refl _ _) trivial
    · -- 2
      intro li a1 W2 hA K hK
      have e8 : a1.tmps.getD 8 undef = .slice A m.old.length c := hA.val 1 8 (by kernel_rfl) (by kernel_rfl)
      refine opStep none 0 rfl rfl (fun c hc => by cases hc) ?_
      go_simp
      refine (KL.out W2 hA.st).mono ?_
      rintro e W3 ⟨P, p, rfl, z1, z2, z3, z4, z5, hb3⟩
      exact hK _ _ ⟨(P, p), rfl, z1, z2, z3, fun a e => (z4 a e).2⟩ hb3 trivial
    · -- 3
      intro li a1 W2 hA K hK
      have e1 := hA.par 1 (by kernel_rfl)
      refine opStep none 0 rfl rfl (fun c hc => by cases hc) ?_
      go_simp
      exact hK _ _ rfl (Below.refl _ _) trivial
    · -- 4
      intro li a1 W2 hA K hK
      have e10 : a1.tmps.getD 10 undef = .pointer (some ⟨w.heap.size, 1, none⟩) := hA.val 3 10 (by kernel_rfl) (by kernel_rfl)
      obtain ⟨q1, q2, q3, q4⟩ := (HS.out.2.1.keep hA.st).c4
      refine opStep none 0 rfl rfl (fun c hc => by cases hc) ?_
      go_simp
      exact hK _ _ rfl (Below.refl _ _) trivial
    · -- 5
      intro li a1 W2 hA K hK
      obtain ⟨y, e9, h9⟩ := hA.val 2 9 (by kernel_rfl) (by kernel_rfl)
      have e11 : a1.tmps.getD 11 undef = .int .i64 m.nw := hA.val 4 11 (by kernel_rfl) (by kernel_rfl)
      have e9' := e9
      have e11' := e11
      rw [Array.getD_eq_getD_getElem?] at e9' e11'
      refine opStep none 0 rfl rfl (fun c hc => by cases hc) ?_
      go_simp
      exact hK _ _ ⟨y, rfl, h9⟩ (Below.refl _ _) trivial
    · -- 6
      intro li a1 W2 hA K hK
      refine opStep none 0 rfl rfl (fun c hc => by cases hc) ?_
      go_simp
      exact hK _ _ ⟨_, rfl, hA.st.size, Blk.new _ _ _⟩ ((Below.refl _ _).alloc (Nat.le_refl _) _) trivial
  · intro li a1 W2 hD
    obtain ⟨⟨P, p⟩, e12, hp1, hp2, hio⟩ := hD.val 5 12 (by kernel_rfl) (by kernel_rfl)
    obtain ⟨Bo, e3, hgl, hbl⟩ := hD.val 6 3 (by kernel_rfl) (by kernel_rfl)
    simp only at e12 hp1 hp2 hio
    have hst := hD.st
    have hs1 := HS.out.2.2.1.lt
    have f0 := hbl.frozen 0
    have f1 := hbl.frozen 1
    have f2 := hbl.frozen 2
    have f3 := hbl.frozen 3
    have fl := hbl.lt
    obtain ⟨d0, d1, d2, d3⟩ := hbl.c4
    have hkp2 := hD.keeps (ds := [7, 8, 9, 10, 11, 12, 3]) (by kernel_rfl)
    have hds := hD.size
    have hdd := hD.defers
    have hsz5 : ((((W2.setCell ⟨Bo, 0, none⟩ (.slice P m.old.length p)).setCell ⟨Bo, 1, none⟩ (.int .i64 m.nw)).setCell ⟨Bo, 2, none⟩ (.slice none 0 0)).setCell ⟨Bo, 3, none⟩ (.slice none 0 0)).heap.size = W2.heap.size := by simp [World.setCell]
    have H5 := hid (show MapI m A c A2 c2 A3 c3 P p Bo (.slice none 0 0) (.slice none 0 0) 0 0 w ((((W2.setCell ⟨Bo, 0, none⟩ (.slice P m.old.length p)).setCell ⟨Bo, 1, none⟩ (.int .i64 m.nw)).setCell ⟨Bo, 2, none⟩ (.slice none 0 0)).setCell ⟨Bo, 3, none⟩ (.slice none 0 0)) from by
      refine ⟨(((((HS.out.2.1.keep hst).far (p := ⟨Bo, 0, none⟩) (show w.heap.size ≠ Bo by omega) (.slice P m.old.length p)).far (p := ⟨Bo, 1, none⟩) (show w.heap.size ≠ Bo by omega) (.int .i64 m.nw)).far (p := ⟨Bo, 2, none⟩) (show w.heap.size ≠ Bo by omega) (.slice none 0 0)).far (p := ⟨Bo, 3, none⟩) (show w.heap.size ≠ Bo by omega) (.slice none 0 0)), (((((HS.out.2.2.1.keep hst).far (p := ⟨Bo, 0, none⟩) (show w.heap.size + 1 ≠ Bo by omega) (.slice P m.old.length p)).far (p := ⟨Bo, 1, none⟩) (show w.heap.size + 1 ≠ Bo by omega) (.int .i64 m.nw)).far (p := ⟨Bo, 2, none⟩) (show w.heap.size + 1 ≠ Bo by omega) (.slice none 0 0)).far (p := ⟨Bo, 3, none⟩) (show w.heap.size + 1 ≠ Bo by omega) (.slice none 0 0)), ((((hbl.set_ 0 (.slice P m.old.length p)).set_ 1 (.int .i64 m.nw)).set_ 2 (.slice none 0 0)).set_ 3 (.slice none 0 0)), ?_, ⟨rfl, .inl ⟨rfl, rfl⟩⟩, ⟨rfl, .inl ⟨rfl, rfl⟩⟩, (((((HS.out.1.trans (hst.mono HS.out.1.size)).setCell (p := ⟨Bo, 0, none⟩) (show w.heap.size ≤ Bo by omega) (.slice P m.old.length p)).setCell (p := ⟨Bo, 1, none⟩) (show w.heap.size ≤ Bo by omega) (.int .i64 m.nw)).setCell (p := ⟨Bo, 2, none⟩) (show w.heap.size ≤ Bo by omega) (.slice none 0 0)).setCell (p := ⟨Bo, 3, none⟩) (show w.heap.size ≤ Bo by omega) (.slice none 0 0)), by omega⟩
      refine hio.to (by rw [hsz5]; exact Nat.le_refl _) fun g cs q => ?_
      have hne := Blk.ne_ q hbl (by decide)
      exact ((((q.far (p := ⟨Bo, 0, none⟩) hne (.slice P m.old.length p)).far (p := ⟨Bo, 1, none⟩) hne (.int .i64 m.nw)).far (p := ⟨Bo, 2, none⟩) hne (.slice none 0 0)).far (p := ⟨Bo, 3, none⟩) hne (.slice none 0 0)))
    clear hsz5 hs1
    refine tail_store (i := 7) (W' := ((((W2.setCell ⟨Bo, 0, none⟩ (.slice P m.old.length p)).setCell ⟨Bo, 1, none⟩ (.int .i64 m.nw)).setCell ⟨Bo, 2, none⟩ (.slice none 0 0)).setCell ⟨Bo, 3, none⟩ (.slice none 0 0))) none 0 rfl rfl rfl (fun c hc => by cases hc) (by clear H5 hst hbl hio hgl; go_simp) ?_
    revert H5
    generalize ((((W2.setCell ⟨Bo, 0, none⟩ (.slice P m.old.length p)).setCell ⟨Bo, 1, none⟩ (.int .i64 m.nw)).setCell ⟨Bo, 2, none⟩ (.slice none 0 0)).setCell ⟨Bo, 3, none⟩ (.slice none 0 0)) = w5
    intro H5
    have e := act_mix [7, 8, 9, 10, 11, 12, 3] hds hdd (fun i _ hc => hkp2 i hc)
    have hg3 : (fun i => a1.tmps.getD i undef) 3 = .pointer (some ⟨Bo, 0, none⟩) := e3
    generalize (fun i => a1.tmps.getD i undef) = g' at e hg3
    have HP := hid (And.intro hp1 hp2)
    refine wpListIn_nil ?_
    rw [e]
    clear e hD hkp2 e12 e3 hds hdd f0 f1 f2 f3 fl d0 d1 d2 d3 hbl hst hgl hio hp1 hp2 HS KL
    simp only [mix, List.contains_cons, List.contains_nil, Nat.reduceAdd, Nat.reduceBEq, Bool.or_false, Bool.or_true, cond_true, cond_false, hg3]
    clear hg3
    go_wp2
    go_loopw [4] (fun i W => ∃ (k : Nat) (v2 : Value), i = .int .i64 k ∧ k ≤ m.ss.length ∧ MapI m A c A2 c2 A3 c3 P p Bo v2 (.slice none 0 0) k 0 w W) (fun i _ => m.ss.length - (intOf i).toNat)
    case atStart => exact ⟨0, _, rfl, Nat.zero_le _, H5.out⟩
    case round =>
      clear H5
      obtain ⟨k, v2, rfl, hk, hi⟩ := hrel
      have HI := hid hi
      obtain ⟨t0, t1, t2, t3⟩ := hi.bt.c4
      have hsz := hi.bl.size
      clear hi
      by_cases hlt : k < m.ss.length
      · have hkI : (k : Int) < (m.ss.length : Int) := by omega
        obtain ⟨s, hs⟩ : ∃ s, m.ss[k]? = some s := ⟨_, List.getElem?_eq_getElem hlt⟩
        obtain ⟨aa, eA, g1, f0, f1, f2, f3, f4⟩ := (HA.out.at_ HI.out.bl).is k s hs
        subst eA
        have HSS := hid hs
        have hbx := below_box (w := wr) #[.int .i64 s.o, .int .i64 s.n, .int .i64 s.wt, .int .i64 s.lo, .int .i64 s.hi] 45
        have HX := hid (And.intro (HI.out.at_ hbx) (Blk.new wr 45 #[.int .i64 s.o, .int .i64 s.n, .int .i64 s.wt, .int .i64 s.lo, .int .i64 s.hi]))
        clear hs g1 hbx
        go_wp2
        clear f0 f1 f2 f3 f4 t0 t1 t2 t3 HI
        generalize wr.alloc (.cells #[.int .i64 s.o, .int .i64 s.n, .int .i64 s.wt, .int .i64 s.lo, .int .i64 s.hi] 45) = w2 at *
        generalize wr.heap.size = z at *
        refine (wpIn_wide (n := 0)).1 ?_
        refine wpIn_region_each 13 (fun i v W' => match i with | 0 => v = .pointer (some ⟨Bo, 2, none⟩) | 1 => v = v2 | 2 => v = .pointer (some ⟨z, 0, none⟩) | 3 => v = .int .i64 s.o | 4 => v = .pointer (some ⟨z, 1, none⟩) | 5 => v = .int .i64 s.n | 6 => v = .pointer (some ⟨z, 2, none⟩) | 7 => v = .int .i64 s.wt | 8 => v = .pointer (some ⟨z, 3, none⟩) | 9 => v = .agg #[.int .i64 s.lo, .int .i64 s.hi] | 10 => v = .agg #[.int .i64 s.lo, .int .i64 s.hi] | 11 => v = .agg #[.int .i64 s.o, .int .i64 s.n, .int .i64 s.wt, .int .i64 s.lo, .int .i64 s.hi] | 12 => ∃ gl, v = .slice (some ⟨gl, 0, none⟩) 1 1 ∧ Blk W' gl 89 (sttL s).toArray | _ => True) (fun A B => Below A.heap.size A B) (fun _ _ => True) (by kernel_rfl) (by kernel_rfl) ?_ (fun h k => h.trans (k.mono h.size)) ⟨rfl, rfl, rfl, Nat.le_refl _, fun _ _ => rfl⟩ trivial (by kernel_rfl) ?_ ?_
        · intro i v W1 W2 hb h
          match i, h with
          | 0, h => exact h
          | 1, h => exact h
          | 2, h => exact h
          | 3, h => exact h
          | 4, h => exact h
          | 5, h => exact h
          | 6, h => exact h
          | 7, h => exact h
          | 8, h => exact h
          | 9, h => exact h
          | 10, h => exact h
          | 11, h => exact h
          | 12, h =>
            obtain ⟨gl, rfl, h1⟩ := h
            exact ⟨_, rfl, h1.keep hb⟩
          | i + 13, h => trivial
        · refine ⟨?_, ?_, ?_, ?_, ?_, ?_, ?_, ?_, ?_, ?_, ?_, ?_, ?_, trivial⟩
          · -- 0
            intro li a1 W2 hA K hK
            have e3 := hA.par 3 (by kernel_rfl)
            refine opStep none 0 rfl rfl (fun c hc => by cases hc) ?_
            go_simp
            exact hK _ _ rfl (Below.refl _ _) trivial
          · -- 1
            intro li a1 W2 hA K hK
            have e25 : a1.tmps.getD 25 undef = .pointer (some ⟨Bo, 2, none⟩) := hA.val 0 25 (by kernel_rfl) (by kernel_rfl)
            obtain ⟨_, _, q1, _⟩ := (HX.out.1.bo.keep hA.st).c4
            refine opStep none 0 rfl rfl (fun c hc => by cases hc) ?_
            go_simp
            exact hK _ _ rfl (Below.refl _ _) trivial
          · -- 2
            intro li a1 W2 hA K hK
            have e5 := hA.par 5 (by kernel_rfl)
            refine opStep none 0 rfl rfl (fun c hc => by cases hc) ?_
            go_simp
            exact hK _ _ rfl (Below.refl _ _) trivial
          · -- 3
            intro li a1 W2 hA K hK
            have e27 : a1.tmps.getD 27 undef = .pointer (some ⟨z, 0, none⟩) := hA.val 2 27 (by kernel_rfl) (by kernel_rfl)
            obtain ⟨q1, q2, q3, q4, q5⟩ := (HX.out.2.keep hA.st).c5
            refine opStep none 0 rfl rfl (fun c hc => by cases hc) ?_
            go_simp
            exact hK _ _ rfl (Below.refl _ _) trivial
          · -- 4
            intro li a1 W2 hA K hK
            have e5 := hA.par 5 (by kernel_rfl)
            refine opStep none 0 rfl rfl (fun c hc => by cases hc) ?_
            go_simp
            exact hK _ _ rfl (Below.refl _ _) trivial
          · -- 5
            intro li a1 W2 hA K hK
            have e29 : a1.tmps.getD 29 undef = .pointer (some ⟨z, 1, none⟩) := hA.val 4 29 (by kernel_rfl) (by kernel_rfl)
            obtain ⟨q1, q2, q3, q4, q5⟩ := (HX.out.2.keep hA.st).c5
            refine opStep none 0 rfl rfl (fun c hc => by cases hc) ?_
            go_simp
            exact hK _ _ rfl (Below.refl _ _) trivial
          · -- 6
            intro li a1 W2 hA K hK
            have e5 := hA.par 5 (by kernel_rfl)
            refine opStep none 0 rfl rfl (fun c hc => by cases hc) ?_
            go_simp
            exact hK _ _ rfl (Below.refl _ _) trivial
          · -- 7
            intro li a1 W2 hA K hK
            have e31 : a1.tmps.getD 31 undef = .pointer (some ⟨z, 2, none⟩) := hA.val 6 31 (by kernel_rfl) (by kernel_rfl)
            obtain ⟨q1, q2, q3, q4, q5⟩ := (HX.out.2.keep hA.st).c5
            refine opStep none 0 rfl rfl (fun c hc => by cases hc) ?_
            go_simp
            exact hK _ _ rfl (Below.refl _ _) trivial
          · -- 8
            intro li a1 W2 hA K hK
            have e5 := hA.par 5 (by kernel_rfl)
            refine opStep none 0 rfl rfl (fun c hc => by cases hc) ?_
            go_simp
            exact hK _ _ rfl (Below.refl _ _) trivial
          · -- 9
            intro li a1 W2 hA K hK
            have e33 : a1.tmps.getD 33 undef = .pointer (some ⟨z, 3, none⟩) := hA.val 8 33 (by kernel_rfl) (by kernel_rfl)
            obtain ⟨q1, q2, q3, q4, q5⟩ := (HX.out.2.keep hA.st).c5
            refine opStep none 0 rfl rfl (fun c hc => by cases hc) ?_
            go_simp
            exact hK _ _ rfl (Below.refl _ _) trivial
          · -- 10
            intro li a1 W2 hA K hK
            have e34 : a1.tmps.getD 34 undef = .agg #[.int .i64 s.lo, .int .i64 s.hi] := hA.val 9 34 (by kernel_rfl) (by kernel_rfl)
            refine opStep none 0 rfl rfl (fun c hc => by cases hc) ?_
            go_simp
            refine (to_any s.lo s.hi W2).mono ?_
            rintro e W3 ⟨rfl, hb3⟩
            exact hK _ _ rfl hb3 trivial
          · -- 11
            intro li a1 W2 hA K hK
            have e28 : a1.tmps.getD 28 undef = .int .i64 s.o := hA.val 3 28 (by kernel_rfl) (by kernel_rfl)
            have e30 : a1.tmps.getD 30 undef = .int .i64 s.n := hA.val 5 30 (by kernel_rfl) (by kernel_rfl)
            have e32 : a1.tmps.getD 32 undef = .int .i64 s.wt := hA.val 7 32 (by kernel_rfl) (by kernel_rfl)
            have e35 : a1.tmps.getD 35 undef = .agg #[.int .i64 s.lo, .int .i64 s.hi] := hA.val 10 35 (by kernel_rfl) (by kernel_rfl)
            have e28' := e28
            have e30' := e30
            have e32' := e32
            have e35' := e35
            rw [Array.getD_eq_getD_getElem?] at e28' e30' e32' e35'
            refine opStep none 0 rfl rfl (fun c hc => by cases hc) ?_
            go_simp
            exact hK _ _ rfl (Below.refl _ _) trivial
          · -- 12
            intro li a1 W2 hA K hK
            have e36 : a1.tmps.getD 36 undef = .agg #[.int .i64 s.o, .int .i64 s.n, .int .i64 s.wt, .int .i64 s.lo, .int .i64 s.hi] := hA.val 11 36 (by kernel_rfl) (by kernel_rfl)
            have e36' := e36
            rw [Array.getD_eq_getD_getElem?] at e36'
            refine opStep none 0 rfl rfl (fun c hc => by cases hc) ?_
            go_simp
            exact hK _ _ ⟨_, rfl, Blk.new _ _ _⟩ ((Below.refl _ _).alloc (Nat.le_refl _) _) trivial
        · intro li a1 W2 hD
          obtain ⟨gl, e37, hgl⟩ := hD.val 12 37 (by kernel_rfl) (by kernel_rfl)
          have e26 : a1.tmps.getD 26 undef = v2 := hD.val 1 26 (by kernel_rfl) (by kernel_rfl)
          have hst := hD.st
          have hI2 := HX.out.1.at_ hst
          have hsz2 := hI2.bl.size
          obtain ⟨i0, hi0, hz0, hz1, hz2⟩ := info_parts bstt_info
          obtain ⟨v', w7, hrun, hr7, hg7, _, _⟩ := run_append_own_at (P := Try.prog) W2 w.heap.size 31 31 89 i0 (.agg #[.int .i64 0, .int .i64 0, .int .i64 0, .int .i64 0, .int .i64 0]) 5 40 Try.underlying31 hi0 hz0 hz1 hz2 rfl (by decide) v2 k _ hI2.s2 ⟨gl, 0, none⟩ 1 1 (sttL s) rfl (stt_blk hgl) (sttL_one _) (by simp only [maxLen]; omega) (by omega) (by omega)
          obtain ⟨g6, cap6, rfl⟩ := Go.ownsRow_succ hr7
          have HNX := hid (hI2.add2 HSS.out hg7 hr7)
          have hbo7 := blk_grown hI2.s2 hg7 hI2.bo (by decide)
          obtain ⟨u0, u1, u2, u3⟩ := hbo7.c4
          have uf := hbo7.frozen 2
          have ul := hbo7.lt
          have e3 := hD.par 3 (by kernel_rfl)
          have hkp2 := hD.keeps (ds := [25, 26, 27, 28, 29, 30, 31, 32, 33, 34, 35, 36, 37, 38, 39]) (by kernel_rfl)
          have hds := hD.size
          have hsz3 : a1.tmps.size = 66 := hD.size
          have hdd := hD.defers
          clear hst hr7 hg7 hgl hI2 hsz2 hbo7
          refine tail_val (i := 13) (v := .slice (some ⟨g6, 0, none⟩) (k + 1) cap6) (W' := w7) none 0 rfl rfl rfl (fun c hc => by cases hc) (by simp [execOp, resolve, invoke, builtin, Act.eval, e26, e37, hrun, Result.andThen]) (by rw [hsz3]; decide) ?_
          intro a3 s3 d3 f3 o3
          have hkp3 := keeps_then hkp2 o3 (by decide)
          have e3' := (o3 3 (by decide)).trans e3
          refine tail_val (i := 14) (v := .pointer (some ⟨Bo, 2, none⟩)) (W' := w7) none 0 rfl rfl rfl (fun c hc => by cases hc) (by go_simp) (by rw [s3, hsz3]; decide) ?_
          intro a4 s4 d4 f4 o4
          have hkp4 := keeps_then hkp3 o4 (by decide)
          have f3' := (o4 38 (by decide)).trans f3
          refine tail_store (i := 15) (W' := w7.setCell ⟨Bo, 2, none⟩ (.slice (some ⟨g6, 0, none⟩) (k + 1) cap6)) none 0 rfl rfl rfl (fun c hc => by cases hc) (by go_simp) ?_
          have e := act_mix [25, 26, 27, 28, 29, 30, 31, 32, 33, 34, 35, 36, 37, 38, 39] (s4.trans (s3.trans hds)) (d4.trans (d3.trans hdd)) (fun i _ hc => hkp4 i hc)
          generalize (fun i => a4.tmps.getD i undef) = g' at e
          refine wpListIn_nil ?_
          rw [e]
          clear e hD hkp2 hkp3 hkp4 s3 s4 d3 d4 f3 f4 o3 o4 e26 e37 e3 e3' f3' hds hdd hsz3 hi0 hz0 hz1 hz2 hrun u0 u1 u2 u3 uf ul HX
          simp only [mix, List.contains_cons, List.contains_nil, Nat.reduceAdd, Nat.reduceBEq, Bool.or_false, Bool.or_true, cond_true, cond_false]
          go_wp2
          go_roundw
          case rel => exact ⟨k + 1, _, by go_num, by omega, HNX.out⟩
          case measure => first | (simp [intOf]; done) | (simp [intOf]; omega)
      · have hkI : decide ((k : Int) < (m.ss.length : Int)) = false := by simp; omega
        obtain rfl : k = m.ss.length := by omega
        have H5 := HI
        clear HI
        go_wp2
        clear t0 t1 t2 t3 hsz
        generalize wr = w6 at *
        go_loopw [6] (fun i W => ∃ (k : Nat) (v3 : Value), i = .int .i64 k ∧ k ≤ m.js.length ∧ MapI m A c A2 c2 A3 c3 P p Bo v2 v3 m.ss.length k w W) (fun i _ => m.js.length - (intOf i).toNat)
        case atStart => exact ⟨0, _, rfl, Nat.zero_le _, H5.out⟩
        case round =>
          clear H5
          obtain ⟨k, v3, rfl, hk, hi⟩ := hrel
          have HI := hid hi
          obtain ⟨t0, t1, t2, t3⟩ := hi.bt.c4
          have hsz := hi.bl.size
          clear hi
          by_cases hlt : k < m.js.length
          · have hkI : (k : Int) < (m.js.length : Int) := by omega
            obtain ⟨j, hj⟩ : ∃ j, m.js[k]? = some j := ⟨_, List.getElem?_eq_getElem hlt⟩
            obtain ⟨aa, eA, g1, f0, f1⟩ := (HA.out.at_ HI.out.bl).ij k j hj
            subst eA
            have HSS := hid hj
            have HX := hid (And.intro HI.out (And.intro f0 f1))
            clear hj g1 f0 f1 HI
            go_wp2
            refine (wpIn_wide (n := 0)).1 ?_
            refine wpIn_region_each 16 (fun i v W' => match i with | 0 => v = .pointer (some ⟨Bo, 3, none⟩) | 1 => v = v3 | 2 => v = .pointer (some ⟨w.heap.size, 3, none⟩) | 3 => v = .slice (some aa) m.js.length c3 | 4 => v = .int .i64 (k : Int) | 5 => v = .pointer (some (aa.add (k * 2))) | 6 => v = .pointer (some (aa.add (k * 2))) | 7 => v = .int .i64 j.a | 8 => v = .pointer (some ⟨w.heap.size, 3, none⟩) | 9 => v = .slice (some aa) m.js.length c3 | 10 => v = .int .i64 (k : Int) | 11 => v = .pointer (some (aa.add (k * 2))) | 12 => v = .pointer (some ⟨(aa.add (k * 2)).block, (aa.add (k * 2)).off + 1, none⟩) | 13 => v = .int .i64 j.b | 14 => v = .agg #[.int .i64 j.a, .int .i64 j.b] | 15 => ∃ gl, v = .slice (some ⟨gl, 0, none⟩) 1 1 ∧ Blk W' gl 90 (jnL j).toArray | _ => True) (fun A B => Below A.heap.size A B) (fun _ _ => True) (by kernel_rfl) (by kernel_rfl) ?_ (fun h k => h.trans (k.mono h.size)) ⟨rfl, rfl, rfl, Nat.le_refl _, fun _ _ => rfl⟩ trivial (by kernel_rfl) ?_ ?_
            · intro i v W1 W2 hb h
              match i, h with
              | 0, h => exact h
              | 1, h => exact h
              | 2, h => exact h
              | 3, h => exact h
              | 4, h => exact h
              | 5, h => exact h
              | 6, h => exact h
              | 7, h => exact h
              | 8, h => exact h
              | 9, h => exact h
              | 10, h => exact h
              | 11, h => exact h
              | 12, h => exact h
              | 13, h => exact h
              | 14, h => exact h
              | 15, h =>
                obtain ⟨gl, rfl, h1⟩ := h
                exact ⟨_, rfl, h1.keep hb⟩
              | i + 16, h => trivial
            · refine ⟨?_, ?_, ?_, ?_, ?_, ?_, ?_, ?_, ?_, ?_, ?_, ?_, ?_, ?_, ?_, ?_, trivial⟩
              · -- 0
                intro li a1 W2 hA K hK
                have e3 := hA.par 3 (by kernel_rfl)
                refine opStep none 0 rfl rfl (fun c hc => by cases hc) ?_
                go_simp
                exact hK _ _ rfl (Below.refl _ _) trivial
              · -- 1
                intro li a1 W2 hA K hK
                have e47 : a1.tmps.getD 47 undef = .pointer (some ⟨Bo, 3, none⟩) := hA.val 0 47 (by kernel_rfl) (by kernel_rfl)
                obtain ⟨_, _, _, q1⟩ := (HX.out.1.bo.keep hA.st).c4
                refine opStep none 0 rfl rfl (fun c hc => by cases hc) ?_
                go_simp
                exact hK _ _ rfl (Below.refl _ _) trivial
              · -- 2
                intro li a1 W2 hA K hK
                have e1 := hA.par 1 (by kernel_rfl)
                refine opStep none 0 rfl rfl (fun c hc => by cases hc) ?_
                go_simp
                exact hK _ _ rfl (Below.refl _ _) trivial
              · -- 3
                intro li a1 W2 hA K hK
                have e49 : a1.tmps.getD 49 undef = .pointer (some ⟨w.heap.size, 3, none⟩) := hA.val 2 49 (by kernel_rfl) (by kernel_rfl)
                obtain ⟨_, _, _, q1⟩ := (HX.out.1.bt.keep hA.st).c4
                refine opStep none 0 rfl rfl (fun c hc => by cases hc) ?_
                go_simp
                exact hK _ _ rfl (Below.refl _ _) trivial
              · -- 4
                intro li a1 W2 hA K hK
                have e6 := hA.par 6 (by kernel_rfl)
                refine opStep none 0 rfl rfl (fun c hc => by cases hc) ?_
                go_simp
                exact hK _ _ rfl (Below.refl _ _) trivial
              · -- 5
                intro li a1 W2 hA K hK
                have e50 : a1.tmps.getD 50 undef = .slice (some aa) m.js.length c3 := hA.val 3 50 (by kernel_rfl) (by kernel_rfl)
                have e51 : a1.tmps.getD 51 undef = .int .i64 (k : Int) := hA.val 4 51 (by kernel_rfl) (by kernel_rfl)
                refine opStep none 0 rfl rfl (fun c hc => by cases hc) ?_
                go_simp
                exact hK _ _ (by first | rfl | exact congrArg (fun q => Value.pointer (some q)) (add_blk _ _)) (Below.refl _ _) trivial
              · -- 6
                intro li a1 W2 hA K hK
                have e52 : a1.tmps.getD 52 undef = .pointer (some (aa.add (k * 2))) := hA.val 5 52 (by kernel_rfl) (by kernel_rfl)
                refine opStep none 0 rfl rfl (fun c hc => by cases hc) ?_
                go_simp
                exact hK _ _ rfl (Below.refl _ _) trivial
              · -- 7
                intro li a1 W2 hA K hK
                have e53 : a1.tmps.getD 53 undef = .pointer (some (aa.add (k * 2))) := hA.val 6 53 (by kernel_rfl) (by kernel_rfl)
                have q1 := (hA.st.cell (World.block_lt_of_cell? _ _ HX.out.2.1)).trans HX.out.2.1
                refine opStep none 0 rfl rfl (fun c hc => by cases hc) ?_
                go_simp
                exact hK _ _ rfl (Below.refl _ _) trivial
              · -- 8
                intro li a1 W2 hA K hK
                have e1 := hA.par 1 (by kernel_rfl)
                refine opStep none 0 rfl rfl (fun c hc => by cases hc) ?_
                go_simp
                exact hK _ _ rfl (Below.refl _ _) trivial
              · -- 9
                intro li a1 W2 hA K hK
                have e55 : a1.tmps.getD 55 undef = .pointer (some ⟨w.heap.size, 3, none⟩) := hA.val 8 55 (by kernel_rfl) (by kernel_rfl)
                obtain ⟨_, _, _, q1⟩ := (HX.out.1.bt.keep hA.st).c4
                refine opStep none 0 rfl rfl (fun c hc => by cases hc) ?_
                go_simp
                exact hK _ _ rfl (Below.refl _ _) trivial
              · -- 10
                intro li a1 W2 hA K hK
                have e6 := hA.par 6 (by kernel_rfl)
                refine opStep none 0 rfl rfl (fun c hc => by cases hc) ?_
                go_simp
                exact hK _ _ rfl (Below.refl _ _) trivial
              · -- 11
                intro li a1 W2 hA K hK
                have e56 : a1.tmps.getD 56 undef = .slice (some aa) m.js.length c3 := hA.val 9 56 (by kernel_rfl) (by kernel_rfl)
                have e57 : a1.tmps.getD 57 undef = .int .i64 (k : Int) := hA.val 10 57 (by kernel_rfl) (by kernel_rfl)
                refine opStep none 0 rfl rfl (fun c hc => by cases hc) ?_
                go_simp
                exact hK _ _ (by first | rfl | exact congrArg (fun q => Value.pointer (some q)) (add_blk _ _)) (Below.refl _ _) trivial
              · -- 12
                intro li a1 W2 hA K hK
                have e58 : a1.tmps.getD 58 undef = .pointer (some (aa.add (k * 2))) := hA.val 11 58 (by kernel_rfl) (by kernel_rfl)
                refine opStep none 0 rfl rfl (fun c hc => by cases hc) ?_
                go_simp
                exact hK _ _ rfl (Below.refl _ _) trivial
              · -- 13
                intro li a1 W2 hA K hK
                have e59 : a1.tmps.getD 59 undef = .pointer (some ⟨(aa.add (k * 2)).block, (aa.add (k * 2)).off + 1, none⟩) := hA.val 12 59 (by kernel_rfl) (by kernel_rfl)
                have q1 := (hA.st.cell (World.block_lt_of_cell? _ _ HX.out.2.2)).trans HX.out.2.2
                refine opStep none 0 rfl rfl (fun c hc => by cases hc) ?_
                go_simp
                exact hK _ _ rfl (Below.refl _ _) trivial
              · -- 14
                intro li a1 W2 hA K hK
                have e54 : a1.tmps.getD 54 undef = .int .i64 j.a := hA.val 7 54 (by kernel_rfl) (by kernel_rfl)
                have e60 : a1.tmps.getD 60 undef = .int .i64 j.b := hA.val 13 60 (by kernel_rfl) (by kernel_rfl)
                have e54' := e54
                have e60' := e60
                rw [Array.getD_eq_getD_getElem?] at e54' e60'
                refine opStep none 0 rfl rfl (fun c hc => by cases hc) ?_
                go_simp
                exact hK _ _ rfl (Below.refl _ _) trivial
              · -- 15
                intro li a1 W2 hA K hK
                have e61 : a1.tmps.getD 61 undef = .agg #[.int .i64 j.a, .int .i64 j.b] := hA.val 14 61 (by kernel_rfl) (by kernel_rfl)
                have e61' := e61
                rw [Array.getD_eq_getD_getElem?] at e61'
                refine opStep none 0 rfl rfl (fun c hc => by cases hc) ?_
                go_simp
                exact hK _ _ ⟨_, rfl, Blk.new _ _ _⟩ ((Below.refl _ _).alloc (Nat.le_refl _) _) trivial
            · intro li a1 W2 hD
              obtain ⟨gl, e62, hgl⟩ := hD.val 15 62 (by kernel_rfl) (by kernel_rfl)
              have e48 : a1.tmps.getD 48 undef = v3 := hD.val 1 48 (by kernel_rfl) (by kernel_rfl)
              have hst := hD.st
              have hI2 := HX.out.1.at_ hst
              have hsz2 := hI2.bl.size
              obtain ⟨i0, hi0, hz0, hz1, hz2⟩ := info_parts bjn_info
              obtain ⟨v', w7, hrun, hr7, hg7, _, _⟩ := run_append_own_at (P := Try.prog) W2 w.heap.size 32 32 90 i0 (.agg #[.int .i64 0, .int .i64 0]) 2 16 Try.underlying32 hi0 hz0 hz1 hz2 rfl (by decide) v3 k _ hI2.s3 ⟨gl, 0, none⟩ 1 1 (jnL j) rfl (jn_blk hgl) (jnL_one _) (by simp only [maxLen]; omega) (by omega) (by omega)
              obtain ⟨g6, cap6, rfl⟩ := Go.ownsRow_succ hr7
              have HNX := hid (hI2.add3 HSS.out hg7 hr7)
              have hbo7 := blk_grown hI2.s3 hg7 hI2.bo (by decide)
              obtain ⟨u0, u1, u2, u3⟩ := hbo7.c4
              have uf := hbo7.frozen 3
              have ul := hbo7.lt
              have e3 := hD.par 3 (by kernel_rfl)
              have hkp2 := hD.keeps (ds := [47, 48, 49, 50, 51, 52, 53, 54, 55, 56, 57, 58, 59, 60, 61, 62, 63, 64]) (by kernel_rfl)
              have hds := hD.size
              have hsz3 : a1.tmps.size = 66 := hD.size
              have hdd := hD.defers
              clear hst hr7 hg7 hgl hI2 hsz2 hbo7
              refine tail_val (i := 16) (v := .slice (some ⟨g6, 0, none⟩) (k + 1) cap6) (W' := w7) none 0 rfl rfl rfl (fun c hc => by cases hc) (by simp [execOp, resolve, invoke, builtin, Act.eval, e48, e62, hrun, Result.andThen]) (by rw [hsz3]; decide) ?_
              intro a3 s3 d3 f3 o3
              have hkp3 := keeps_then hkp2 o3 (by decide)
              have e3' := (o3 3 (by decide)).trans e3
              refine tail_val (i := 17) (v := .pointer (some ⟨Bo, 3, none⟩)) (W' := w7) none 0 rfl rfl rfl (fun c hc => by cases hc) (by go_simp) (by rw [s3, hsz3]; decide) ?_
              intro a4 s4 d4 f4 o4
              have hkp4 := keeps_then hkp3 o4 (by decide)
              have f3' := (o4 63 (by decide)).trans f3
              refine tail_store (i := 18) (W' := w7.setCell ⟨Bo, 3, none⟩ (.slice (some ⟨g6, 0, none⟩) (k + 1) cap6)) none 0 rfl rfl rfl (fun c hc => by cases hc) (by go_simp) ?_
              have e := act_mix [47, 48, 49, 50, 51, 52, 53, 54, 55, 56, 57, 58, 59, 60, 61, 62, 63, 64] (s4.trans (s3.trans hds)) (d4.trans (d3.trans hdd)) (fun i _ hc => hkp4 i hc)
              generalize (fun i => a4.tmps.getD i undef) = g' at e
              refine wpListIn_nil ?_
              rw [e]
              clear e hD hkp2 hkp3 hkp4 s3 s4 d3 d4 f3 f4 o3 o4 e48 e62 e3 e3' f3' hds hdd hsz3 hi0 hz0 hz1 hz2 hrun u0 u1 u2 u3 uf ul HX
              simp only [mix, List.contains_cons, List.contains_nil, Nat.reduceAdd, Nat.reduceBEq, Bool.or_false, Bool.or_true, cond_true, cond_false]
              go_wp2
              go_roundw
              case rel => exact ⟨k + 1, _, by go_num, by omega, HNX.out⟩
              case measure => first | (simp [intOf]; done) | (simp [intOf]; omega)
          · have hkI : decide ((k : Int) < (m.js.length : Int)) = false := by simp; omega
            obtain rfl : k = m.js.length := by omega
            obtain ⟨c0, c1, c2', c3'⟩ := HI.out.bo.c4
            obtain ⟨d0, d1, d2, d3⟩ := HI.out.b2.c4
            have df0 := HI.out.b2.frozen 0
            have df1 := HI.out.b2.frozen 1
            have df2 := HI.out.b2.frozen 2
            have df3 := HI.out.b2.frozen 3
            have dl := HI.out.b2.lt
            have hgs := grown4 wr (w.heap.size + 1) (.slice P m.old.length p) (.int .i64 m.nw) v2 v3
            have hs2 := HI.out.s2
            have hs3 := HI.out.s3
            rw [List.take_length] at hs2 hs3
            have hs2' := hs2.kept hgs (own_ne hs2 (blk_not HI.out.b2 (by decide)))
            have hs3' := hs3.kept hgs (own_ne hs3 (blk_not HI.out.b2 (by decide)))
            obtain ⟨A7, c7, e7, r1, r2, r3, _, _⟩ := own_stts hs2' rfl
            obtain ⟨A8, c8, e8, r4, r5, r6, _, _⟩ := own_jns hs3' rfl
            have hio := HI.out.io.to (hgs.size) (fun g cs q => (hgs.block g q.lt (fun e => by cases e; exact Blk.ne_ q HI.out.b2 (by decide) rfl)).trans q)
            have hbl := set4_blk HI.out.b2 (.slice P m.old.length p) (.int .i64 m.nw) v2 v3
            have HF := hid (show MIn m P p A7 c7 A8 c8 (set4 wr (w.heap.size + 1) (.slice P m.old.length p) (.int .i64 m.nw) v2 v3) ∧ Below w.heap.size w (set4 wr (w.heap.size + 1) (.slice P m.old.length p) (.int .i64 m.nw) v2 v3) ∧ Blk (set4 wr (w.heap.size + 1) (.slice P m.old.length p) (.int .i64 m.nw) v2 v3) (w.heap.size + 1) 34 #[.slice P m.old.length p, .int .i64 m.nw, v2, v3] from
              ⟨⟨hio.1, r1, r4, HP.out.1, HP.out.2, r2, r3, r5, r6⟩, HI.out.bl.grown hgs HI.out.bl.size (fun q hq => by cases hq; omega), hbl⟩)
            subst e7 e8
            clear hgs hs2 hs3 hs2' hs3' r1 r2 r3 r4 r5 r6 hio hbl HI
            go_wp2
            refine gen (p := bodyPost _ _ _ _ _) (fun W => MIn m P p A7 c7 A8 c8 W ∧ Below w.heap.size w W ∧ Blk W (w.heap.size + 1) 34 #[.slice P m.old.length p, .int .i64 m.nw, .slice A7 m.ss.length c7, .slice A8 m.js.length c8]) HF.out ?_
            rintro W ⟨hm, hb, hk⟩
            obtain ⟨e0, e1, e2, e3⟩ := hk.c4
            exact bodyPost_ret (v := .agg #[.slice P m.old.length p, .int .i64 m.nw, .slice A7 m.ss.length c7, .slice A8 m.js.length c8]) (by simp [results, Try.results19, go_sem, e0, e1, e2, e3]) rfl ⟨(P, p), (A7, c7), (A8, c8), rfl, hm, hb⟩
end Go.Proofs.Ytoeabajigfdkaaa
