/- The walks and the plain laws of this part of the program, part 14: what each computes. Conditions stand at each theorem. -/
import Derived.Test.YtoeabajigfdkaaaG11
import Derived.Test.YtoeabajigfdkaaaG12
/- Whether numbers are a truth of a map. No condition. -/
namespace Go.Proofs.Ytoeabajigfdkaaa
open Go.RowKit Go.Shelf

attribute [local go_sem] Oper.semAt_some

/-- the sum of the first k numbers that lie in old district d -/
def sumX (m : MapD) (d : Nat) (xs : List Int) (k : Nat) : Int := sumN (fun i => if (m.S i).o = (d : Int) then xs.getD i 0 else 0) k
def inX (m : MapD) (xs : List Int) (i : Nat) : Prop := (m.S i).lo ≤ xs.getD i 0 ∧ xs.getD i 0 ≤ (m.S i).hi
structure IsTr (m : MapD) (xs : List Int) : Prop where
  len : xs.length = m.ss.length
  rng : ∀ i, i < m.ss.length → inX m xs i
  sum : ∀ d, d < m.old.length → sumX m d xs m.ss.length = m.at_ d
theorem sumX_skip {m : MapD} {d : Nat} {xs : List Int} {k : Nat} {s : Stt} (h : m.ss[k]? = some s) (hd : s.o ≠ (d : Int)) : sumX m d xs (k + 1) = sumX m d xs k := by
  unfold sumX
  rw [sumN_succ, MapD.S_eq h, if_neg hd]; simp
theorem sumX_take {m : MapD} {d : Nat} {xs : List Int} {k : Nat} {s : Stt} (h : m.ss[k]? = some s) (hd : s.o = (d : Int)) : sumX m d xs (k + 1) = sumX m d xs k + xs.getD k 0 := by
  unfold sumX
  rw [sumN_succ, MapD.S_eq h, if_pos hd]
theorem sumX_bounds {m : MapD} (ok : OkM m) {d : Nat} {xs : List Int} : ∀ {k : Nat}, k ≤ m.ss.length → (∀ i, i < k → (m.S i).o = (d : Int) → inX m xs i) → 0 ≤ sumX m d xs k ∧ sumX m d xs k ≤ k * 10000
  | 0, _, _ => by simp [sumX, sumN]
  | k + 1, hk, h => by
    have ih := sumX_bounds ok (k := k) (by omega) fun i hi ho => h i (by omega) ho
    have hs := ok.sAt (i := k) (by omega)
    unfold sumX at *
    rw [sumN_succ]
    by_cases e : (m.S k).o = (d : Int)
    · have hi := h k (by omega) e
      unfold inX at hi
      rw [if_pos e]
      omega
    · rw [if_neg e]
      omega
def inXB (m : MapD) (xs : List Int) (i : Nat) : Bool := inB (xs.getD i 0) (m.S i).lo (m.S i).hi
def trB (m : MapD) (xs : List Int) : Bool := (xs.length == m.ss.length) && ((List.range m.ss.length).all (inXB m xs) && (List.range m.old.length).all fun d => sumX m d xs m.ss.length == m.at_ d)
theorem trB_iff {m : MapD} {xs : List Int} : trB m xs = true ↔ IsTr m xs := by
  unfold trB inXB
  simp only [Bool.and_eq_true, beq_iff_eq, List.all_eq_true, List.mem_range, inB_iff]
  exact ⟨fun ⟨a, b, c⟩ => ⟨a, b, c⟩, fun ⟨a, b, c⟩ => ⟨a, b, c⟩⟩
/-- are these numbers a truth of a valid map? -/
def truB (m : MapD) (xs : List Int) : Bool := (chkM m == 0) && trB m xs
theorem truB_true {m : MapD} {xs : List Int} (h : chkM m = 0) (ht : IsTr m xs) : truB m xs = true := by
  unfold truB
  rw [h, trB_iff.2 ht]; rfl
theorem truB_false {m : MapD} {xs : List Int} (h : ¬ (chkM m = 0 ∧ IsTr m xs)) : truB m xs = false := by
  unfold truB
  rw [Bool.eq_false_iff]
  intro e
  simp only [Bool.and_eq_true, beq_iff_eq] at e
  exact h ⟨e.1, trB_iff.1 e.2⟩

set_option maxRecDepth 100000 in
set_option maxHeartbeats 4000000 in
theorem prove_truth_any (m : MapD) (A : Option Addr) (c : Nat) (A2 : Option Addr) (c2 : Nat) (A3 : Option Addr) (c3 : Nat) (Ax : Option Addr) (cx : Nat) (xs : List Int) (w : World) (h : MIn m A c A2 c2 A3 c3 w) (hx : IsInts w w.heap.size Ax xs) (hxl : xs.length ≤ cx) (_hxm : cx ≤ maxLen) :
    Calls Try.prog 46 #[.agg #[.slice A m.old.length c, .int .i64 m.nw, .slice A2 m.ss.length c2, .slice A3 m.js.length c3], .slice Ax xs.length cx] w fun e w' => e = .returned (.bool (truB m xs)) ∧ Below w.heap.size w w' := by
  have hm1 := h.m1
  have hl1 := h.l1
  unfold maxLen at hm1
  have hb : Below w.heap.size w (((w.alloc (.cells #[.slice A m.old.length c, .int .i64 m.nw, .slice A2 m.ss.length c2, .slice A3 m.js.length c3] 34)).alloc (.cells #[.slice Ax xs.length cx] 22)).alloc (.cells #[.bool false] 4)) := ((((Below.refl w.heap.size w).alloc (Nat.le_refl _) (.cells #[.slice A m.old.length c, .int .i64 m.nw, .slice A2 m.ss.length c2, .slice A3 m.js.length c3] 34)).alloc (by simp) (.cells #[.slice Ax xs.length cx] 22)).alloc (by simp; omega) (.cells #[.bool false] 4))
  have k1 := (((Blk.new w 34 #[.slice A m.old.length c, .int .i64 m.nw, .slice A2 m.ss.length c2, .slice A3 m.js.length c3]).alloc (.cells #[.slice Ax xs.length cx] 22)).alloc (.cells #[.bool false] 4))
  have k2 := ((Blk.new (w.alloc (.cells #[.slice A m.old.length c, .int .i64 m.nw, .slice A2 m.ss.length c2, .slice A3 m.js.length c3] 34)) 22 #[.slice Ax xs.length cx]).alloc (.cells #[.bool false] 4))
  have k3 := (Blk.new ((w.alloc (.cells #[.slice A m.old.length c, .int .i64 m.nw, .slice A2 m.ss.length c2, .slice A3 m.js.length c3] 34)).alloc (.cells #[.slice Ax xs.length cx] 22)) 4 #[.bool false])
  simp only [World.size_alloc] at k2 k3
  have HS := hid (show Below w.heap.size w (((w.alloc (.cells #[.slice A m.old.length c, .int .i64 m.nw, .slice A2 m.ss.length c2, .slice A3 m.js.length c3] 34)).alloc (.cells #[.slice Ax xs.length cx] 22)).alloc (.cells #[.bool false] 4)) ∧ Blk (((w.alloc (.cells #[.slice A m.old.length c, .int .i64 m.nw, .slice A2 m.ss.length c2, .slice A3 m.js.length c3] 34)).alloc (.cells #[.slice Ax xs.length cx] 22)).alloc (.cells #[.bool false] 4)) w.heap.size 34 #[.slice A m.old.length c, .int .i64 m.nw, .slice A2 m.ss.length c2, .slice A3 m.js.length c3] ∧ Blk (((w.alloc (.cells #[.slice A m.old.length c, .int .i64 m.nw, .slice A2 m.ss.length c2, .slice A3 m.js.length c3] 34)).alloc (.cells #[.slice Ax xs.length cx] 22)).alloc (.cells #[.bool false] 4)) (w.heap.size + 1) 22 #[.slice Ax xs.length cx] ∧ Blk (((w.alloc (.cells #[.slice A m.old.length c, .int .i64 m.nw, .slice A2 m.ss.length c2, .slice A3 m.js.length c3] 34)).alloc (.cells #[.slice Ax xs.length cx] 22)).alloc (.cells #[.bool false] 4)) (w.heap.size + 1 + 1) 4 #[.bool false] from ⟨hb, k1, k2, k3⟩)
  have HH := hid h
  have HX := hid hx
  have KC := hid (checkm_any m A c A2 c2 A3 c3 _ (h.at_ hb))
  obtain ⟨t0, t1, t2, t3⟩ := k1.c4
  clear h hx hb k1 k2 k3
  by_cases hc : chkM m = 0
  · rw [hc] at KC
    have OK := hid (chk_okm hc)
    have HC := hid hc
    clear hc
    by_cases hlen : xs.length = m.ss.length
    · have hle : ((xs.length : Int) != (m.ss.length : Int)) = false := by rw [hlen]; simp
      have HLE := hid hlen
      have hxl8 : xs.length ≤ 8 := by have := OK.out.s8; omega
      clear hlen
      refine callsOf (ro := none) (n := 0) ?_
      refine callsIn_of_wp_marks Try.func46 rfl trivial ?_ rfl
      refine wpIn_wide.2 ?_
      simp only [Try.ntmps46, List.size_toArray, List.length_cons, List.length_nil, Nat.reduceAdd, Nat.reduceSub, Array.replicate_succ, Array.replicate_zero, List.push_toArray, List.append_toArray, List.nil_append, List.cons_append]
      go_wp2_with fail
      refine KC.out.mono ?_
      rintro e wc ⟨rfl, hb⟩
      have H1 := hid (show Below w.heap.size w wc ∧ Blk wc w.heap.size 34 #[.slice A m.old.length c, .int .i64 m.nw, .slice A2 m.ss.length c2, .slice A3 m.js.length c3] ∧ Blk wc (w.heap.size + 1) 22 #[.slice Ax xs.length cx] ∧ Blk wc (w.heap.size + 1 + 1) 4 #[.bool false] from ⟨HS.out.1.trans (hb.mono HS.out.1.size), HS.out.2.1.keep hb, HS.out.2.2.1.keep hb, HS.out.2.2.2.keep hb⟩)
      clear hb KC t0 t1 t2 t3 HS
      obtain ⟨t0, t1, t2, t3⟩ := H1.out.2.1.c4
      have y3 := H1.out.2.2.1.c1
      go_wp2
      clear t0 t1 t2 t3 y3
      refine wp_loop (fun a W => ∃ (k : Nat) (Ds : List Nat) (u5 u6 u7 u8 u24 u25 u26 u27 u28 u29 u30 u33 u34 u35 u36 u37 u38 u39 u40 u41 u42 u43 u44 u45 u46 u47 u48 u49 u50 u51 u52 u53 : Value), (k ≤ m.old.length ∧ (∀ d, d < k → (∀ i, i < m.ss.length → (m.S i).o = (d : Int) → inX m xs i) ∧ sumX m d xs m.ss.length = m.at_ d) ∧ Below w.heap.size w W ∧ Blk W w.heap.size 34 #[.slice A m.old.length c, .int .i64 m.nw, .slice A2 m.ss.length c2, .slice A3 m.js.length c3] ∧ Blk W (w.heap.size + 1) 22 #[.slice Ax xs.length cx] ∧ Blk W (w.heap.size + 1 + 1) 4 #[.bool false] ∧ Marks w.heap.size Ds W) ∧ a = { tmps := #[.agg #[.slice A m.old.length c, .int .i64 m.nw, .slice A2 m.ss.length c2, .slice A3 m.js.length c3], .slice Ax xs.length cx, .pointer (some ⟨w.heap.size, 0, none⟩), .pointer (some ⟨w.heap.size + 1, 0, none⟩), .pointer (some ⟨w.heap.size + 1 + 1, 0, none⟩), u5, u6, u7, u8, .agg #[.slice A m.old.length c, .int .i64 m.nw, .slice A2 m.ss.length c2, .slice A3 m.js.length c3], .int .i64 0, .bool false, .bool false, .slice Ax xs.length cx, .int .i64 (xs.length : Int), .pointer (some ⟨w.heap.size, 2, none⟩), .slice A2 m.ss.length c2, .int .i64 (m.ss.length : Int), .bool false, .bool false, .pointer (some ⟨w.heap.size, 0, none⟩), .slice A m.old.length c, .int .i64 (m.old.length : Int), .int .i64 (k : Int), u24, u25, u26, u27, u28, u29, u30, undef, undef, u33, u34, u35, u36, u37, u38, u39, u40, u41, u42, u43, u44, u45, u46, u47, u48, u49, u50, u51, u52, u53], defers := Ds.map mkD }) (fun a _ => m.old.length - (intOf (a.tmps.getD 23 undef)).toNat) ?_ ?_
      · refine ⟨0, [], ?_⟩
        (repeat apply Exists.intro)
        exact ⟨⟨Nat.zero_le _, fun d hd => by omega, H1.out.1, H1.out.2.1, H1.out.2.2.1, H1.out.2.2.2, Marks.nil _ _⟩, rfl⟩
      rintro _ wr ⟨k, Ds, u5, u6, u7, u8, u24, u25, u26, u27, u28, u29, u30, u33, u34, u35, u36, u37, u38, u39, u40, u41, u42, u43, u44, u45, u46, u47, u48, u49, u50, u51, u52, u53, ⟨hk, hok, hbr, hbm, hb3, hb4, hmk⟩, rfl⟩
      have HR := hid (And.intro hok (And.intro hbr (And.intro hbm (And.intro hb3 (And.intro hb4 hmk)))))
      obtain ⟨t0, t1, t2, t3⟩ := hbm.c4
      have bl := hbm.lt
      by_cases hlt : k < m.old.length
      · have hkI : (k : Int) < (m.old.length : Int) := by omega
        obtain ⟨x, hx⟩ : ∃ x, m.old[k]? = some x := ⟨_, List.getElem?_eq_getElem hlt⟩
        obtain ⟨aa, hA, g1, g2⟩ := (HH.out.at_ hbr).io k x hx
        subst hA
        have HXV := hid (MapD.at_eq hx)
        have hxb := OK.out.cnt x (List.mem_of_getElem? hx)
        clear hok hbr hbm hb3 hb4 hmk hx
        go_wp2_with fail
        refine (of_any _ _ _ _ _ _).mono ?_
        rintro e w2 ⟨rfl, h1, h2, h3⟩
        have hB6 := Blk.new wr 3 #[.int .i64 x]
        have hbw : Below wr.heap.size wr w2 := then_below (below_box _ _) h1
        have H2 := hid (And.intro h2 (And.intro h3 (And.intro (hB6.keep h1) hbw)))
        have hss : (wr.alloc (.cells #[.int .i64 x] 3)).heap.size = wr.heap.size + 1 := World.size_alloc ..
        rw [hss] at H2
        clear h1 h2 h3 hB6 hbw t0 t1 t2 t3 hss g1 g2
        go_wp2
        have HE := hid (show w.heap.size + 1 + 1 < wr.heap.size ∧ wr.heap.size + 1 + 1 < w2.heap.size from ⟨HR.out.2.2.2.2.1.lt, H2.out.2.1.lt⟩)
        have HBW := hid (HR.out.2.1.trans (H2.out.2.2.2.mono HR.out.2.1.size))
        have HB3 := hid (HR.out.2.2.2.1.keep H2.out.2.2.2)
        have HB4 := hid (HR.out.2.2.2.2.1.keep H2.out.2.2.2)
        have HMK := hid (HR.out.2.2.2.2.2.below H2.out.2.2.2)
        refine (wpIn_wide (n := 0)).1 ?_
        refine wpIn_rangeFunc_of (m := m) (d := (k : Int)) (X := fun q => q = wr.heap.size) rfl (enters_of Try.func104 (by kernel_rfl) rfl)
          (of1_any H2.out.1 H2.out.2.1 (n := w.heap.size) HBW.out.size (HH.out.is.below HBW.out) HH.out.l2 HH.out.m2 (fun q e => ⟨by rw [e]; exact HR.out.2.1.size, by omega⟩)) (Below.refl _ _)
          (fun j W => (∀ i, i < j → (m.S i).o = (k : Int) → inX m xs i) ∧ Blk W wr.heap.size 3 #[.int .i64 (x - sumX m k xs j)] ∧ Chg (fun q => q = wr.heap.size) w2 W)
          (fun cd W => cd = .ret ∧ (∃ i, i < m.ss.length ∧ ¬ inX m xs i) ∧ Blk W (w.heap.size + 1 + 1) 4 #[.bool false] ∧ Chg (fun q => q = wr.heap.size ∨ q = (w.heap.size + 1 + 1)) w2 W)
          (OwnFrom.and (ownFrom_pure _ _) (OwnFrom.and (blk_own _ _ _ _) (chg_own (Nat.le_refl _))))
          (fun cd => OwnFrom.and (ownFrom_pure _ _) (OwnFrom.and (ownFrom_pure _ _) (OwnFrom.and (blk_own _ _ _ (fun _ => #[.bool false])) (chg_own (Nat.le_refl _)))))
          ⟨fun i hi => by omega, by simpa [sumX, sumN] using H2.out.2.2.1, Chg.refl⟩
          (fun j s W hs hne hi => ⟨fun i hi' ho => by
            by_cases e : i = j
            · subst e; rw [MapD.S_eq hs] at ho; exact absurd ho hne
            · exact hi.1 i (by omega) ho, by rw [sumX_skip hs hne]; exact hi.2.1, hi.2.2⟩)
          (fun j s z => { tmps := #[.agg #[.slice (some aa) m.old.length c, .int .i64 m.nw, .slice A2 m.ss.length c2, .slice A3 m.js.length c3], .slice Ax xs.length cx, .pointer (some ⟨w.heap.size, 0, none⟩), .pointer (some ⟨w.heap.size + 1, 0, none⟩), .pointer (some ⟨w.heap.size + 1 + 1, 0, none⟩), .int .i64 (k : Int), .pointer (some ⟨wr.heap.size, 0, none⟩), .int .i64 (j : Int), .pointer (some ⟨z, 0, none⟩), .agg #[.slice (some aa) m.old.length c, .int .i64 m.nw, .slice A2 m.ss.length c2, .slice A3 m.js.length c3], .int .i64 0, .bool false, .bool false, .slice Ax xs.length cx, .int .i64 (xs.length : Int), .pointer (some ⟨w.heap.size, 2, none⟩), .slice A2 m.ss.length c2, .int .i64 (m.ss.length : Int), .bool false, .bool false, .pointer (some ⟨w.heap.size, 0, none⟩), .slice (some aa) m.old.length c, .int .i64 (m.old.length : Int), .int .i64 (k : Int), .bool true, .int .i64 (k : Int), .pointer (some (aa.add k)), .int .i64 x, .agg #[.slice (some aa) m.old.length c, .int .i64 m.nw, .slice A2 m.ss.length c2, .slice A3 m.js.length c3], .int .i64 (k : Int), .func (.func 104) #[] #[.pointer (some ⟨wr.heap.size + 1, 0, none⟩), .pointer (some ⟨wr.heap.size + 1 + 1, 0, none⟩)], .int .i64 (j : Int), .agg #[.int .i64 s.o, .int .i64 s.n, .int .i64 s.wt, .int .i64 s.lo, .int .i64 s.hi], u33, u34, u35, u36, u37, u38, u39, u40, u41, u42, u43, u44, u45, u46, u47, u48, u49, u50, u51, u52, u53], defers := [] }) ?assign ?body ?done ?stop
        case assign =>
          intro l j s W K hK
          gi_wp2
          exact hK
        case body =>
          rintro l j s z W hl hz hlp hs hod ⟨hal, hb6, hch⟩ hbz
          have hjl := (List.getElem?_eq_some_iff.1 hs).1
          obtain ⟨xv, hv⟩ : ∃ xv, xs[j]? = some xv := ⟨_, List.getElem?_eq_getElem (by have := HLE.out; omega)⟩
          have hbw : Below w.heap.size w W := HBW.out.trans (hch.below (fun q e => by rw [e]; exact HR.out.2.1.size) HBW.out.size)
          obtain ⟨ax, hA, g1, g2⟩ := (HX.out.at_ hbw) j xv hv
          have hjx : (j : Int) < (xs.length : Int) := by have := HLE.out; omega
          obtain ⟨b1, b2⟩ := sumX_bounds OK.out (d := k) (xs := xs) (k := j) (by omega) hal
          have hsw := OK.out.sAt hjl
          rw [MapD.S_eq hs] at hsw
          have HIX := hid (show inX m xs j ↔ s.lo ≤ xv ∧ xv ≤ s.hi by unfold inX; rw [MapD.S_eq hs, List.getD, hv]; exact Iff.rfl)
          have HST1 := hid (show sumX m k xs (j + 1) = sumX m k xs j + xv by rw [sumX_take hs hod, List.getD, hv]; rfl)
          obtain ⟨bb, hbb⟩ : ∃ bb, inB xv s.lo s.hi = bb := ⟨_, rfl⟩
          have HBB := hid hbb
          have s1 := hsw.2.2.2.2.2.2.1
          have s2 := hsw.2.2.2.2.2.2.2.2
          have b3 : sumX m k xs j ≤ 80000 := by have := OK.out.s8; omega
          have HB3' := hid (hch.blk HB3.out (fun e => by have := HE.out; omega))
          have HB4' := hid (hch.blk HB4.out (fun e => by have := HE.out; omega))
          have HI := hid (And.intro hal (And.intro hb6 hch))
          have HBZ := hid hbz
          have HG2 := hid g2
          have HJL := hid hjl
          have HZL := hid hz
          subst hA
          generalize sumX m k xs j = S at *
          clear hlp hs hod hal hb6 hch hbz hv hbw hsw hbb g1 g2 hl hz hjl
          gi_wp2
          refine wpIn_region_each 11 (fun i v W' => match i with | 0 => v = .slice (some ax) xs.length cx | 1 => v = .int .i64 (j : Int) | 2 => v = .pointer (some (ax.add j)) | 3 => v = .int .i64 xv | 4 => v = .pointer (some ⟨z, 3, none⟩) | 5 => v = .pointer (some ⟨z, 3, none⟩) | 6 => v = .int .i64 s.lo | 7 => v = .pointer (some ⟨z, 3, none⟩) | 8 => v = .pointer (some ⟨z, 4, none⟩) | 9 => v = .int .i64 s.hi | 10 => v = .bool bb | _ => True) (fun A B => Below A.heap.size A B) (fun _ _ => True) (by kernel_rfl) (by kernel_rfl) ?_ (fun h k => h.trans (k.mono h.size)) ⟨rfl, rfl, rfl, Nat.le_refl _, fun _ _ => rfl⟩ trivial (by kernel_rfl) ?_ ?_
          · intro i v W1 W2 hb h
            match i, h with
            | 0, h => exact h
            | 1, h => exact h
            | 2, h => exact h
            | 3, h => exact h
            | 4, h => exact h
            | 5, h => exact h
            | 6, h => exact h
            | 7, h => exact h
            | 8, h => exact h
            | 9, h => exact h
            | 10, h => exact h
            | i + 11, h => trivial
          · refine ⟨?_, ?_, ?_, ?_, ?_, ?_, ?_, ?_, ?_, ?_, ?_, trivial⟩
            · -- 0
              intro li a1 W2 hA K hK
              have e3 := hA.par 3 (by kernel_rfl)
              have q1 := (HB3'.out.keep hA.st).c1
              refine opStep (some l) 0 rfl rfl (fun c hc => by cases hc) ?_
              go_simp
              exact hK _ _ rfl (Below.refl _ _) trivial
            · -- 1
              intro li a1 W2 hA K hK
              have e7 := hA.par 7 (by kernel_rfl)
              refine opStep (some l) 0 rfl rfl (fun c hc => by cases hc) ?_
              go_simp
              exact hK _ _ rfl (Below.refl _ _) trivial
            · -- 2
              intro li a1 W2 hA K hK
              have e33 : a1.tmps.getD 33 undef = .slice (some ax) xs.length cx := hA.val 0 33 (by kernel_rfl) (by kernel_rfl)
              have e34 : a1.tmps.getD 34 undef = .int .i64 (j : Int) := hA.val 1 34 (by kernel_rfl) (by kernel_rfl)
              refine opStep (some l) 0 rfl rfl (fun c hc => by cases hc) ?_
              go_simp
              exact hK _ _ (by first | rfl | exact congrArg (fun q => Value.pointer (some q)) (add_blk _ _)) (Below.refl _ _) trivial
            · -- 3
              intro li a1 W2 hA K hK
              have e35 : a1.tmps.getD 35 undef = .pointer (some (ax.add j)) := hA.val 2 35 (by kernel_rfl) (by kernel_rfl)
              have q1 := (hA.st.cell (World.block_lt_of_cell? _ _ HG2.out)).trans HG2.out
              refine opStep (some l) 0 rfl rfl (fun c hc => by cases hc) ?_
              go_simp
              exact hK _ _ rfl (Below.refl _ _) trivial
            · -- 4
              intro li a1 W2 hA K hK
              have e8 := hA.par 8 (by kernel_rfl)
              refine opStep (some l) 0 rfl rfl (fun c hc => by cases hc) ?_
              go_simp
              exact hK _ _ rfl (Below.refl _ _) trivial
            · -- 5
              intro li a1 W2 hA K hK
              have e37 : a1.tmps.getD 37 undef = .pointer (some ⟨z, 3, none⟩) := hA.val 4 37 (by kernel_rfl) (by kernel_rfl)
              refine opStep (some l) 0 rfl rfl (fun c hc => by cases hc) ?_
              go_simp
              exact hK _ _ rfl (Below.refl _ _) trivial
            · -- 6
              intro li a1 W2 hA K hK
              have e38 : a1.tmps.getD 38 undef = .pointer (some ⟨z, 3, none⟩) := hA.val 5 38 (by kernel_rfl) (by kernel_rfl)
              have hz5 := HBZ.out.keep hA.st
              unfold stC at hz5
              obtain ⟨_, _, _, q1, q2⟩ := hz5.c5
              refine opStep (some l) 0 rfl rfl (fun c hc => by cases hc) ?_
              go_simp
              exact hK _ _ rfl (Below.refl _ _) trivial
            · -- 7
              intro li a1 W2 hA K hK
              have e8 := hA.par 8 (by kernel_rfl)
              refine opStep (some l) 0 rfl rfl (fun c hc => by cases hc) ?_
              go_simp
              exact hK _ _ rfl (Below.refl _ _) trivial
            · -- 8
              intro li a1 W2 hA K hK
              have e40 : a1.tmps.getD 40 undef = .pointer (some ⟨z, 3, none⟩) := hA.val 7 40 (by kernel_rfl) (by kernel_rfl)
              refine opStep (some l) 0 rfl rfl (fun c hc => by cases hc) ?_
              go_simp
              exact hK _ _ rfl (Below.refl _ _) trivial
            · -- 9
              intro li a1 W2 hA K hK
              have e41 : a1.tmps.getD 41 undef = .pointer (some ⟨z, 4, none⟩) := hA.val 8 41 (by kernel_rfl) (by kernel_rfl)
              have hz5 := HBZ.out.keep hA.st
              unfold stC at hz5
              obtain ⟨_, _, _, q1, q2⟩ := hz5.c5
              refine opStep (some l) 0 rfl rfl (fun c hc => by cases hc) ?_
              go_simp
              exact hK _ _ rfl (Below.refl _ _) trivial
            · -- 10
              intro li a1 W2 hA K hK
              have e36 : a1.tmps.getD 36 undef = .int .i64 xv := hA.val 3 36 (by kernel_rfl) (by kernel_rfl)
              have e39 : a1.tmps.getD 39 undef = .int .i64 s.lo := hA.val 6 39 (by kernel_rfl) (by kernel_rfl)
              have e42 : a1.tmps.getD 42 undef = .int .i64 s.hi := hA.val 9 42 (by kernel_rfl) (by kernel_rfl)
              refine opStep (some l) 0 rfl rfl (fun c hc => by cases hc) ?_
              go_simp
              refine (bwithin_any _ _ _ _).mono ?_
              rintro e W4 ⟨rfl, rfl⟩
              exact hK _ _ (congrArg Value.bool HBB.out) (Below.refl _ _) trivial
          · intro li a1 W2 hD
            have e43 : a1.tmps.getD 43 undef = .bool bb := hD.val 10 43 (by kernel_rfl) (by kernel_rfl)
            have hst := hD.st
            have hkp := hD.keeps (ds := [33, 34, 35, 36, 37, 38, 39, 40, 41, 42, 43, 44]) (by kernel_rfl)
            have hds := hD.size
            have hsz : a1.tmps.size = 54 := hD.size
            have hdd := hD.defers
            have HST9 := hid hst
            clear hst
            refine tail_val (i := 11) (v := .bool (!bb)) (W' := W2) (some l) 0 rfl rfl rfl (fun c hc => by cases hc) (by go_simp) (by rw [hsz]; decide) ?_
            intro a3 s3 d3 f3 o3
            have hkp3 := keeps_then hkp o3 (by decide)
            have e := act_mix [33, 34, 35, 36, 37, 38, 39, 40, 41, 42, 43, 44] (s3.trans hds) (d3.trans hdd) (fun i _ hc => hkp3 i hc)
            have hg5 : (fun i => a3.tmps.getD i undef) 44 = .bool (!bb) := f3
            generalize (fun i => a3.tmps.getD i undef) = g' at e hg5
            refine wpListIn_nil ?_
            rw [e]
            clear e hD hkp hkp3 s3 d3 f3 o3 e43 hds hdd hsz
            simp only [mix, List.contains_cons, List.contains_nil, Nat.reduceAdd, Nat.reduceBEq, Bool.or_false, Bool.or_true, cond_true, cond_false, hg5]
            clear hg5
            have J4 := hid (HB4'.out.keep HST9.out)
            have J3 := hid (HB3'.out.keep HST9.out)
            have J6 := hid (HI.out.2.1.keep HST9.out)
            cases bb
            · have y4 := J4.out.c1
              have f4 := J4.out.frozen 0
              have l4 := J4.out.lt
              gi_wp2
              refine ⟨(keepsFrom_of_keep HST9.out).trans (KeepsFrom.of_set _ _), rfl, ⟨j, HJL.out, fun h => ?_⟩, J4.out.set_ 0 _, ((HI.out.2.2.sub (fun q e => .inl e)).trans (Chg.of_below HST9.out)).set (.inr rfl) _⟩
              have h2 := HBB.out
              rw [Bool.eq_false_iff] at h2
              exact h2 (inB_iff.2 (HIX.out.1 h))
            · have hvb := inB_iff.1 HBB.out
              have hw1 : IntKind.i64.wrap (x - S - xv) = x - S - xv := IntWalk.i64_in _ (by omega)
              have HG3 := hid ((HST9.out.cell (World.block_lt_of_cell? _ _ HG2.out)).trans HG2.out)
              have HW9 := hid (show Chg (fun q => q = wr.heap.size) w2 W2 ∧ KeepsFrom w2.heap.size W W2 ∧ Keep (fun q => q = wr.heap.size) W W2 from ⟨HI.out.2.2.trans (Chg.of_below HST9.out), keepsFrom_of_keep HST9.out, (Chg.of_below HST9.out).keep⟩)
              gi_wp2
              refine wpIn_region_each 6 (fun i v W' => match i with | 0 => v = .int .i64 (x - S) | 1 => v = .slice (some ax) xs.length cx | 2 => v = .int .i64 (j : Int) | 3 => v = .pointer (some (ax.add j)) | 4 => v = .int .i64 xv | 5 => v = .int .i64 (x - S - xv) | _ => True) (fun A B => Below A.heap.size A B) (fun _ _ => True) (by kernel_rfl) (by kernel_rfl) ?_ (fun h k => h.trans (k.mono h.size)) ⟨rfl, rfl, rfl, Nat.le_refl _, fun _ _ => rfl⟩ trivial (by kernel_rfl) ?_ ?_
              · intro i v W1 W2 hb h
                match i, h with
                | 0, h => exact h
                | 1, h => exact h
                | 2, h => exact h
                | 3, h => exact h
                | 4, h => exact h
                | 5, h => exact h
                | i + 6, h => trivial
              · refine ⟨?_, ?_, ?_, ?_, ?_, ?_, trivial⟩
                · -- 0
                  intro li a1 W2 hA K hK
                  have e6 := hA.par 6 (by kernel_rfl)
                  have q1 := (J6.out.keep hA.st).c1
                  refine opStep (some l) 0 rfl rfl (fun c hc => by cases hc) ?_
                  go_simp
                  exact hK _ _ rfl (Below.refl _ _) trivial
                · -- 1
                  intro li a1 W2 hA K hK
                  have e3 := hA.par 3 (by kernel_rfl)
                  have q1 := (J3.out.keep hA.st).c1
                  refine opStep (some l) 0 rfl rfl (fun c hc => by cases hc) ?_
                  go_simp
                  exact hK _ _ rfl (Below.refl _ _) trivial
                · -- 2
                  intro li a1 W2 hA K hK
                  have e7 := hA.par 7 (by kernel_rfl)
                  refine opStep (some l) 0 rfl rfl (fun c hc => by cases hc) ?_
                  go_simp
                  exact hK _ _ rfl (Below.refl _ _) trivial
                · -- 3
                  intro li a1 W2 hA K hK
                  have e46 : a1.tmps.getD 46 undef = .slice (some ax) xs.length cx := hA.val 1 46 (by kernel_rfl) (by kernel_rfl)
                  have e47 : a1.tmps.getD 47 undef = .int .i64 (j : Int) := hA.val 2 47 (by kernel_rfl) (by kernel_rfl)
                  refine opStep (some l) 0 rfl rfl (fun c hc => by cases hc) ?_
                  go_simp
                  exact hK _ _ (by first | rfl | exact congrArg (fun q => Value.pointer (some q)) (add_blk _ _)) (Below.refl _ _) trivial
                · -- 4
                  intro li a1 W2 hA K hK
                  have e48 : a1.tmps.getD 48 undef = .pointer (some (ax.add j)) := hA.val 3 48 (by kernel_rfl) (by kernel_rfl)
                  have q1 := (hA.st.cell (World.block_lt_of_cell? _ _ HG3.out)).trans HG3.out
                  refine opStep (some l) 0 rfl rfl (fun c hc => by cases hc) ?_
                  go_simp
                  exact hK _ _ rfl (Below.refl _ _) trivial
                · -- 5
                  intro li a1 W2 hA K hK
                  have e45 : a1.tmps.getD 45 undef = .int .i64 (x - S) := hA.val 0 45 (by kernel_rfl) (by kernel_rfl)
                  have e49 : a1.tmps.getD 49 undef = .int .i64 xv := hA.val 4 49 (by kernel_rfl) (by kernel_rfl)
                  refine opStep (some l) 0 rfl rfl (fun c hc => by cases hc) ?_
                  go_simp
                  exact hK _ _ (by first | rfl | exact congrArg (Value.int .i64) hw1 | (simp [hw1])) (Below.refl _ _) trivial
              · intro li a1 W2 hD
                have e50 : a1.tmps.getD 50 undef = .int .i64 (x - S - xv) := hD.val 5 50 (by kernel_rfl) (by kernel_rfl)
                have e6 := hD.par 6 (by kernel_rfl)
                have hst := hD.st
                have h6 := J6.out.keep hst
                have c6 := h6.c1
                have f6 := h6.frozen 0
                have l6 := h6.lt
                have hkp := hD.keeps (ds := [45, 46, 47, 48, 49, 50]) (by kernel_rfl)
                have hds := hD.size
                have hdd := hD.defers
                have HST := hid (And.intro hst h6)
                clear hst h6
                refine tail_store (i := 6) (W' := W2.setCell ⟨wr.heap.size, 0, none⟩ (.int .i64 (x - S - xv))) (some l) 0 rfl rfl rfl (fun c hc => by cases hc) (by go_simp) ?_
                have e := act_mix [45, 46, 47, 48, 49, 50] hds hdd (fun i _ hc => hkp i hc)
                generalize (fun i => a1.tmps.getD i undef) = g2 at e
                refine wpListIn_nil ?_
                rw [e]
                clear e hD hkp e50 e6 hds hdd c6 f6 l6
                simp only [mix, List.contains_cons, List.contains_nil, Nat.reduceAdd, Nat.reduceBEq, Bool.or_false, Bool.or_true, cond_true, cond_false]
                gi_wp2
                refine ⟨HW9.out.2.1.trans ((keepsFrom_of_keep HST.out.1).trans (KeepsFrom.of_set _ _)), HW9.out.2.2.trans ((Chg.of_below HST.out.1).set (Z := fun q => q = wr.heap.size) rfl _).keep, ?_, ?_, HW9.out.1.trans ((Chg.of_below HST.out.1).set (Z := fun q => q = wr.heap.size) rfl _)⟩
                · intro i hi ho
                  by_cases e : i = j
                  · subst e; exact HIX.out.2 hvb
                  · exact HI.out.1 i (by omega) ho
                · rw [show x - sumX m k xs (j + 1) = x - S - xv by have := HST1.out; omega]
                  exact HST.out.2.set_ 0 _
        case done =>
          rintro D W hDl ⟨hal, hb6, hch⟩ hdf
          have hbw : Below w.heap.size w W := HBW.out.trans (hch.below (fun q e => by rw [e]; exact HR.out.2.1.size) HBW.out.size)
          have hm3 := HMK.out.chg hch (fun D' hD' => HMK.out.ne H2.out.2.2.1 D' hD')
          have HM := hid (Marks.cons HMK.out hm3 (by have := HBW.out.size; omega) hDl hdf)
          have HBM := hid (hch.blk (HR.out.2.2.1.keep H2.out.2.2.2) (fun e => by have := HE.out; omega))
          have J3 := hid (hch.blk HB3.out (fun e => by have := HE.out; omega))
          have J4 := hid (hch.blk HB4.out (fun e => by have := HE.out; omega))
          have HAL := hid (And.intro hal hbw)
          obtain ⟨b1, b2⟩ := sumX_bounds OK.out (d := k) (xs := xs) (Nat.le_refl _) hal
          obtain ⟨S, hS⟩ : ∃ S, sumX m k xs m.ss.length = S := ⟨_, rfl⟩
          rw [hS] at hb6 b1 b2
          have HSV := hid hS
          have y6 := hb6.c1
          have y4 := J4.out.c1
          have f4 := J4.out.frozen 0
          have l4 := J4.out.lt
          clear hal hb6 hch hdf hbw hm3 hS
          by_cases hz : x - S = 0
          · have hzB : ((x - S) != 0) = false := by simp [hz]
            have HZ := hid hz
            clear hz
            go_wp2
            refine ⟨⟨k + 1, D :: Ds, ?_⟩, ?measure⟩
            · (repeat apply Exists.intro)
              exact ⟨⟨by omega, fun d hd => by
                by_cases e : d = k
                · subst e
                  exact ⟨fun i hi ho => HAL.out.1 i hi ho, by rw [HSV.out, HXV.out]; have := HZ.out; omega⟩
                · exact HR.out.1 d (by omega), HAL.out.2, HBM.out, J3.out, J4.out, HM.out⟩, by go_num⟩
            case measure => first | (simp [intOf]; done) | (simp [intOf]; omega)
          · have hzB : ((x - S) != 0) = true := by simp [hz]
            have HRES := hid (show truB m xs = false from truB_false fun ht => hz (by
              have h1 := ht.2.sum k hlt
              rw [HSV.out, HXV.out] at h1
              omega))
            clear hz
            go_wp2
            refine leaves_marks (B := w.heap.size) (D :: Ds) _ (HM.out.keep (KeepsFrom.of_set _ _)) (fun W' hk hb => ?_)
            have c4 := (hk.blk (J4.out.set_ 0 (.bool false)) id).c1
            exact ⟨.bool false, by simp [results, Try.results46, go_sem, c4], by rw [HRES.out], (HAL.out.2.setCell (p := ⟨w.heap.size + 1 + 1, 0, none⟩) (by show w.heap.size ≤ w.heap.size + 1 + 1; omega) _).trans hb⟩
        case stop =>
          rintro D cd W hDl ⟨rfl, ⟨i, hi, hni⟩, hb4, hch⟩ hdf
          have hbw : Below w.heap.size w W := HBW.out.trans (hch.below (fun q e => by have := HE.out; rcases e with e | e <;> omega) HBW.out.size)
          have hm3 := HMK.out.chg hch (fun D' hD' e => by
            rcases e with e | e
            · exact HMK.out.ne H2.out.2.2.1 D' hD' e
            · exact HMK.out.ne HB4.out D' hD' e)
          have HM := hid (Marks.cons HMK.out hm3 (by have := HBW.out.size; omega) hDl hdf)
          have HRES := hid (show truB m xs = false from truB_false fun ht => hni (ht.2.rng i hi))
          have J4 := hid hb4
          have HBE := hid hbw
          clear hni hb4 hch hdf hbw hm3
          gi_wp2
          refine leaves_marks (B := w.heap.size) (D :: Ds) _ HM.out (fun W' hk hb => ?_)
          have c4 := (hk.blk J4.out id).c1
          exact ⟨.bool false, by simp [results, Try.results46, go_sem, c4], by rw [HRES.out], HBE.out.trans hb⟩
      · have hkI : decide ((k : Int) < (m.old.length : Int)) = false := by simp; omega
        obtain rfl : k = m.old.length := by omega
        have HRES := hid (show truB m xs = true from truB_true HC.out ⟨HLE.out, fun i hi => by
          have hs := OK.out.sAt hi
          exact (hok (m.S i).o.toNat (by omega)).1 i hi (by omega), fun d hd => (hok d hd).2⟩)
        have y4 := hb4.c1
        have f4 := hb4.frozen 0
        have l4 := hb4.lt
        clear hok hbr hbm hb3 hb4 hmk
        go_wp2
        refine leaves_marks (B := w.heap.size) Ds _ (HR.out.2.2.2.2.2.keep (KeepsFrom.of_set _ _)) (fun W' hk hb => ?_)
        have c4 := (hk.blk (HR.out.2.2.2.2.1.set_ 0 (.bool true)) id).c1
        exact ⟨.bool true, by simp [results, Try.results46, go_sem, c4], by rw [HRES.out], (HR.out.2.1.setCell (p := ⟨w.heap.size + 1 + 1, 0, none⟩) (by show w.heap.size ≤ w.heap.size + 1 + 1; omega) _).trans hb⟩
    · have hle : ((xs.length : Int) != (m.ss.length : Int)) = true := by simp; omega
      have HRES := hid (show truB m xs = false from truB_false fun ht => hlen ht.2.len)
      have hxl8 := hxl
      clear hlen
      refine callsOf (ro := none) (n := 0) ?_
      refine callsIn_of_wp_marks Try.func46 rfl trivial ?_ rfl
      refine wpIn_wide.2 ?_
      simp only [Try.ntmps46, List.size_toArray, List.length_cons, List.length_nil, Nat.reduceAdd, Nat.reduceSub, Array.replicate_succ, Array.replicate_zero, List.push_toArray, List.append_toArray, List.nil_append, List.cons_append]
      go_wp2_with fail
      refine KC.out.mono ?_
      rintro e wc ⟨rfl, hb⟩
      have H1 := hid (show Below w.heap.size w wc ∧ Blk wc w.heap.size 34 #[.slice A m.old.length c, .int .i64 m.nw, .slice A2 m.ss.length c2, .slice A3 m.js.length c3] ∧ Blk wc (w.heap.size + 1) 22 #[.slice Ax xs.length cx] ∧ Blk wc (w.heap.size + 1 + 1) 4 #[.bool false] from ⟨HS.out.1.trans (hb.mono HS.out.1.size), HS.out.2.1.keep hb, HS.out.2.2.1.keep hb, HS.out.2.2.2.keep hb⟩)
      clear hb KC t0 t1 t2 t3 HS
      obtain ⟨t0, t1, t2, t3⟩ := H1.out.2.1.c4
      have y3 := H1.out.2.2.1.c1
      have y4 := H1.out.2.2.2.c1
      have f4 := H1.out.2.2.2.frozen 0
      have l4 := H1.out.2.2.2.lt
      go_wp2
      have c4 := (H1.out.2.2.2.set_ 0 (.bool false)).c1
      exact ⟨.bool false, by simp [results, Try.results46, go_sem, c4], by rw [HRES.out], H1.out.1.setCell (p := ⟨w.heap.size + 1 + 1, 0, none⟩) (by show w.heap.size ≤ w.heap.size + 1 + 1; omega) _⟩
  · have hne : (chkM m != 0) = true := by simp [hc]
    have HRES := hid (show truB m xs = false from truB_false fun ht => hc ht.1)
    obtain ⟨z, hz⟩ : ∃ z, chkM m = z := ⟨_, rfl⟩
    rw [hz] at KC hne
    clear hc hz
    refine callsOf (ro := none) (n := 0) ?_
    refine callsIn_of_wp_marks Try.func46 rfl trivial ?_ rfl
    refine wpIn_wide.2 ?_
    simp only [Try.ntmps46, List.size_toArray, List.length_cons, List.length_nil, Nat.reduceAdd, Nat.reduceSub, Array.replicate_succ, Array.replicate_zero, List.push_toArray, List.append_toArray, List.nil_append, List.cons_append]
    go_wp2_with fail
    refine KC.out.mono ?_
    rintro e wc ⟨rfl, hb⟩
    have H1 := hid (And.intro (HS.out.1.trans (hb.mono HS.out.1.size)) (HS.out.2.2.2.keep hb))
    clear hb KC t0 t1 t2 t3 HS
    have y4 := H1.out.2.c1
    have f4 := H1.out.2.frozen 0
    have l4 := H1.out.2.lt
    go_wp2
    exact ⟨.bool false, by simp [results, Try.results46, go_sem, y4], by rw [HRES.out], H1.out.1.setCell (p := ⟨w.heap.size + 1 + 1, 0, none⟩) (by show w.heap.size ≤ w.heap.size + 1 + 1; omega) _⟩
end Go.Proofs.Ytoeabajigfdkaaa
/- The reference of layer 11: whether numbers are a truth of a map. Conditions stand at the theorem. -/
namespace Go.Proofs.Ytoeabajigfdkaaa
open Go.RowKit Go.Shelf

def tsm (m : MapD) (xs : List Int) (k : Nat) : List Int := (List.range m.old.length).map fun d => sumX m d xs k
theorem tsm_len (m : MapD) (xs : List Int) (k : Nat) : (tsm m xs k).length = m.old.length := by simp [tsm]
theorem tsm_get {m : MapD} {xs : List Int} {k d : Nat} (h : d < m.old.length) : (tsm m xs k)[d]? = some (sumX m d xs k) := by simp [tsm, h]
theorem tsm_zero (m : MapD) (xs : List Int) : tsm m xs 0 = List.replicate m.old.length 0 := by
  refine List.ext_getElem? fun i => ?_
  by_cases h : i < m.old.length
  · rw [tsm_get h, List.getElem?_replicate, if_pos h]; rfl
  · rw [List.getElem?_eq_none (by rw [tsm_len]; omega), List.getElem?_eq_none (by simp; omega)]
theorem tsm_step {m : MapD} {xs : List Int} {k q : Nat} {s : Stt} (h : m.ss[k]? = some s) (hq : s.o = (q : Int)) : (tsm m xs k).set q (sumX m q xs k + xs.getD k 0) = tsm m xs (k + 1) := by
  refine List.ext_getElem? fun i => ?_
  rw [List.getElem?_set]
  by_cases hi : i < m.old.length
  · rw [tsm_get hi, tsm_get hi, tsm_len]
    by_cases e : q = i
    · subst e
      rw [if_pos rfl, if_pos hi, sumX_take h hq]
    · rw [if_neg e, sumX_skip h (by rw [hq]; omega)]
  · rw [List.getElem?_eq_none (by rw [tsm_len]; omega : (tsm m xs (k + 1)).length ≤ i), tsm_len]
    split
    · rw [if_neg (by omega)]
    · exact List.getElem?_eq_none (by rw [tsm_len]; omega)
theorem blk_off {W : World} {g g' t i : Nat} {cs : Array Value} {v : Value} (h : Blk W g t cs) (hne : g ≠ g') : Blk (W.setCell ⟨g', i, none⟩ v) g t cs :=
  (show Keep (fun q => q = g') W (W.setCell ⟨g', i, none⟩ v) from Keep.of_grown (⟨rfl, rfl, rfl, by simp, fun k _ hn => Below.heap_setCell W ⟨g', i, none⟩ v k (fun e => hn (by rw [e]))⟩ : W.grownBy (W.setCell ⟨g', i, none⟩ v) (some g')) rfl).blk h hne
theorem trB_false {m : MapD} {xs : List Int} (h : ¬ IsTr m xs) : trB m xs = false := by
  rw [Bool.eq_false_iff]
  exact fun e => h (trB_iff.1 e)

set_option maxRecDepth 100000 in
set_option maxHeartbeats 4000000 in
theorem qistruth_any (m : MapD) (A : Option Addr) (c : Nat) (A2 : Option Addr) (c2 : Nat) (A3 : Option Addr) (c3 : Nat) (Ax : Option Addr) (cx : Nat) (xs : List Int) (w : World)
    (h : MIn m A c A2 c2 A3 c3 w) (hx : IsInts w w.heap.size Ax xs) (hxl : xs.length ≤ 1000) (ok : OkM m) :
    Calls Try.prog 47 #[.agg #[.slice A m.old.length c, .int .i64 m.nw, .slice A2 m.ss.length c2, .slice A3 m.js.length c3], .slice Ax xs.length cx] w fun e w' => e = .returned (.bool (trB m xs)) ∧ Below w.heap.size w w' := by
  have hn4 := ok.d4
  have hs8 := ok.s8
  have hB := below_box (w := w) #[.slice A m.old.length c, .int .i64 m.nw, .slice A2 m.ss.length c2, .slice A3 m.js.length c3] 26
  have hT := Blk.new w 26 #[.slice A m.old.length c, .int .i64 m.nw, .slice A2 m.ss.length c2, .slice A3 m.js.length c3]
  have HB0 := hid hB
  have HT0 := hid hT
  have HA := hid h
  have HX := hid hx
  have OK := hid ok
  obtain ⟨t0, t1, t2, t3⟩ := hT.c4
  clear hB hT h hx ok
  by_cases hlen : xs.length = m.ss.length
  case neg =>
    have HRES := hid (show trB m xs = false from trB_false fun ht => hlen ht.len)
    have hne : ((xs.length : Int) != (m.ss.length : Int)) = true := by simp; omega
    clear hlen
    go_enter Try.func47, Try.ntmps47
    go_wp2
    go_ret
    exact ⟨by rw [HRES.out]; rfl, HB0.out⟩
  have HLE := hid hlen
  have hne : ((xs.length : Int) != (m.ss.length : Int)) = false := by simp; omega
  obtain ⟨D, hD⟩ : ∃ D, m.old.length = D := ⟨_, rfl⟩
  have HD := hid hD
  have hmk := run_make_row' (P := Try.prog) 22 3 (.int .i64 0) 8 Try.underlying22 int_info rfl .i64 .i64 m.old.length (by omega) (by omega)
  rw [intC_zero] at hmk
  have hZ := Blk.new (w.alloc (.cells #[.slice A m.old.length c, .int .i64 m.nw, .slice A2 m.ss.length c2, .slice A3 m.js.length c3] 26)) 3 (intC (List.replicate m.old.length 0))
  rw [World.size_alloc] at hZ
  have hB2 := HB0.out.alloc HB0.out.size (.cells (intC (List.replicate m.old.length 0)) 3)
  have hT2 := HT0.out.alloc (.cells (intC (List.replicate m.old.length 0)) 3)
  have HS := hid (And.intro (show Blk _ (w.heap.size + 1) 3 (intC (tsm m xs 0)) by rw [tsm_zero]; exact hZ) (And.intro hT2 hB2))
  clear hlen hZ hB2 hT2 HB0 HT0 hD
  go_enter Try.func47, Try.ntmps47
  go_wp2
  clear t0 t1 t2 t3 hmk hne
  go_loopw [6] (fun i W => ∃ k : Nat, k ≤ xs.length ∧ i = .int .i64 k ∧ (∀ i, i < k → inX m xs i) ∧ Blk W (w.heap.size + 1) 3 (intC (tsm m xs k)) ∧ Blk W w.heap.size 26 #[.slice A m.old.length c, .int .i64 m.nw, .slice A2 m.ss.length c2, .slice A3 m.js.length c3] ∧ Below w.heap.size w W) (fun i _ => xs.length - (intOf i).toNat)
  case atStart => exact ⟨0, Nat.zero_le _, rfl, fun i hi => by omega, HS.out⟩
  case round =>
    clear HS
    obtain ⟨k, hk, rfl, hin, hbo, hbt, hbr⟩ := hrel
    obtain ⟨t0, t1, t2, t3⟩ := hbt.c4
    have HR := hid (And.intro hin (And.intro hbo (And.intro hbt hbr)))
    clear hin hbo hbt hbr
    by_cases hlt : k < xs.length
    · have hkI : (k : Int) < (xs.length : Int) := by omega
      have hkS : (k : Int) < (m.ss.length : Int) := by have := HLE.out; omega
      obtain ⟨x, hx⟩ : ∃ x, xs[k]? = some x := ⟨_, List.getElem?_eq_getElem hlt⟩
      obtain ⟨s, hs⟩ : ∃ s, m.ss[k]? = some s := ⟨_, List.getElem?_eq_getElem (by omega)⟩
      obtain ⟨ax, ex, g3, g4⟩ := (HX.out.at_ HR.out.2.2.2) k x hx
      obtain ⟨aa, eA, g1, f0, f1, f2, f3, f4⟩ := (HA.out.at_ HR.out.2.2.2).is k s hs
      have HXD := hid (show xs.getD k 0 = x by rw [List.getD, hx]; rfl)
      have HS1 := hid (And.intro hs (MapD.S_eq hs))
      subst ex eA
      have HF := hid (And.intro g4 (And.intro f0 (And.intro f3 f4)))
      clear hx hs g1 g3 g4 f0 f1 f2 f3 f4
      by_cases hq : inB x s.lo s.hi = true
      · go_wp2
        clear t0 t1 t2 t3
        refine (wpIn_wide (n := 0)).1 ?_
        refine wpIn_region_each 19 (fun i v W' => match i with | 0 => v = .slice (some ax) xs.length cx | 1 => v = .int .i64 (k : Int) | 2 => v = .pointer (some (ax.add k)) | 3 => v = .int .i64 x | 4 => v = .pointer (some ⟨w.heap.size, 2, none⟩) | 5 => v = .slice (some aa) m.ss.length c2 | 6 => v = .int .i64 (k : Int) | 7 => v = .pointer (some (aa.add (k * 5))) | 8 => v = .pointer (some ⟨(aa.add (k * 5)).block, (aa.add (k * 5)).off + 3, none⟩) | 9 => v = .pointer (some ⟨(aa.add (k * 5)).block, (aa.add (k * 5)).off + 3, none⟩) | 10 => v = .int .i64 s.lo | 11 => v = .pointer (some ⟨w.heap.size, 2, none⟩) | 12 => v = .slice (some aa) m.ss.length c2 | 13 => v = .int .i64 (k : Int) | 14 => v = .pointer (some (aa.add (k * 5))) | 15 => v = .pointer (some ⟨(aa.add (k * 5)).block, (aa.add (k * 5)).off + 3, none⟩) | 16 => v = .pointer (some ⟨(aa.add (k * 5)).block, (aa.add (k * 5)).off + 4, none⟩) | 17 => v = .int .i64 s.hi | 18 => v = .bool true | _ => True) (fun A B => Below A.heap.size A B) (fun _ _ => True) (by kernel_rfl) (by kernel_rfl) ?_ (fun h k => h.trans (k.mono h.size)) ⟨rfl, rfl, rfl, Nat.le_refl _, fun _ _ => rfl⟩ trivial (by kernel_rfl) ?_ ?_
        · intro i v W1 W2 hb h
          match i, h with
          | 0, h => exact h
          | 1, h => exact h
          | 2, h => exact h
          | 3, h => exact h
          | 4, h => exact h
          | 5, h => exact h
          | 6, h => exact h
          | 7, h => exact h
          | 8, h => exact h
          | 9, h => exact h
          | 10, h => exact h
          | 11, h => exact h
          | 12, h => exact h
          | 13, h => exact h
          | 14, h => exact h
          | 15, h => exact h
          | 16, h => exact h
          | 17, h => exact h
          | 18, h => exact h
          | i + 19, h => trivial
        · refine ⟨?_, ?_, ?_, ?_, ?_, ?_, ?_, ?_, ?_, ?_, ?_, ?_, ?_, ?_, ?_, ?_, ?_, ?_, ?_, trivial⟩
          · -- 0
            intro li a1 W2 hA K hK
            have e1 := hA.par 1 (by kernel_rfl)
            refine opStep none 0 rfl rfl (fun c hc => by cases hc) ?_
            go_simp
            exact hK _ _ rfl (Below.refl _ _) trivial
          · -- 1
            intro li a1 W2 hA K hK
            have e6 := hA.par 6 (by kernel_rfl)
            refine opStep none 0 rfl rfl (fun c hc => by cases hc) ?_
            go_simp
            exact hK _ _ rfl (Below.refl _ _) trivial
          · -- 2
            intro li a1 W2 hA K hK
            have e24 : a1.tmps.getD 24 undef = .slice (some ax) xs.length cx := hA.val 0 24 (by kernel_rfl) (by kernel_rfl)
            have e25 : a1.tmps.getD 25 undef = .int .i64 (k : Int) := hA.val 1 25 (by kernel_rfl) (by kernel_rfl)
            refine opStep none 0 rfl rfl (fun c hc => by cases hc) ?_
            go_simp
            exact hK _ _ (by first | rfl | exact congrArg (fun q => Value.pointer (some q)) (add_blk _ _)) (Below.refl _ _) trivial
          · -- 3
            intro li a1 W2 hA K hK
            have e26 : a1.tmps.getD 26 undef = .pointer (some (ax.add k)) := hA.val 2 26 (by kernel_rfl) (by kernel_rfl)
            have q1 := (hA.st.cell (World.block_lt_of_cell? _ _ HF.out.1)).trans HF.out.1
            refine opStep none 0 rfl rfl (fun c hc => by cases hc) ?_
            go_simp
            exact hK _ _ rfl (Below.refl _ _) trivial
          · -- 4
            intro li a1 W2 hA K hK
            have e2 := hA.par 2 (by kernel_rfl)
            refine opStep none 0 rfl rfl (fun c hc => by cases hc) ?_
            go_simp
            exact hK _ _ rfl (Below.refl _ _) trivial
          · -- 5
            intro li a1 W2 hA K hK
            have e28 : a1.tmps.getD 28 undef = .pointer (some ⟨w.heap.size, 2, none⟩) := hA.val 4 28 (by kernel_rfl) (by kernel_rfl)
            obtain ⟨q1, q2, q3, q4⟩ := (HR.out.2.2.1.keep hA.st).c4
            refine opStep none 0 rfl rfl (fun c hc => by cases hc) ?_
            go_simp
            exact hK _ _ rfl (Below.refl _ _) trivial
          · -- 6
            intro li a1 W2 hA K hK
            have e6 := hA.par 6 (by kernel_rfl)
            refine opStep none 0 rfl rfl (fun c hc => by cases hc) ?_
            go_simp
            exact hK _ _ rfl (Below.refl _ _) trivial
          · -- 7
            intro li a1 W2 hA K hK
            have e29 : a1.tmps.getD 29 undef = .slice (some aa) m.ss.length c2 := hA.val 5 29 (by kernel_rfl) (by kernel_rfl)
            have e30 : a1.tmps.getD 30 undef = .int .i64 (k : Int) := hA.val 6 30 (by kernel_rfl) (by kernel_rfl)
            refine opStep none 0 rfl rfl (fun c hc => by cases hc) ?_
            go_simp
            exact hK _ _ (by first | rfl | exact congrArg (fun q => Value.pointer (some q)) (add_blk _ _)) (Below.refl _ _) trivial
          · -- 8
            intro li a1 W2 hA K hK
            have e31 : a1.tmps.getD 31 undef = .pointer (some (aa.add (k * 5))) := hA.val 7 31 (by kernel_rfl) (by kernel_rfl)
            refine opStep none 0 rfl rfl (fun c hc => by cases hc) ?_
            go_simp
            exact hK _ _ rfl (Below.refl _ _) trivial
          · -- 9
            intro li a1 W2 hA K hK
            have e32 : a1.tmps.getD 32 undef = .pointer (some ⟨(aa.add (k * 5)).block, (aa.add (k * 5)).off + 3, none⟩) := hA.val 8 32 (by kernel_rfl) (by kernel_rfl)
            refine opStep none 0 rfl rfl (fun c hc => by cases hc) ?_
            go_simp
            exact hK _ _ rfl (Below.refl _ _) trivial
          · -- 10
            intro li a1 W2 hA K hK
            have e33 : a1.tmps.getD 33 undef = .pointer (some ⟨(aa.add (k * 5)).block, (aa.add (k * 5)).off + 3, none⟩) := hA.val 9 33 (by kernel_rfl) (by kernel_rfl)
            have q1 := (hA.st.cell (World.block_lt_of_cell? _ _ HF.out.2.2.1)).trans HF.out.2.2.1
            refine opStep none 0 rfl rfl (fun c hc => by cases hc) ?_
            go_simp
            exact hK _ _ rfl (Below.refl _ _) trivial
          · -- 11
            intro li a1 W2 hA K hK
            have e2 := hA.par 2 (by kernel_rfl)
            refine opStep none 0 rfl rfl (fun c hc => by cases hc) ?_
            go_simp
            exact hK _ _ rfl (Below.refl _ _) trivial
          · -- 12
            intro li a1 W2 hA K hK
            have e35 : a1.tmps.getD 35 undef = .pointer (some ⟨w.heap.size, 2, none⟩) := hA.val 11 35 (by kernel_rfl) (by kernel_rfl)
            obtain ⟨q1, q2, q3, q4⟩ := (HR.out.2.2.1.keep hA.st).c4
            refine opStep none 0 rfl rfl (fun c hc => by cases hc) ?_
            go_simp
            exact hK _ _ rfl (Below.refl _ _) trivial
          · -- 13
            intro li a1 W2 hA K hK
            have e6 := hA.par 6 (by kernel_rfl)
            refine opStep none 0 rfl rfl (fun c hc => by cases hc) ?_
            go_simp
            exact hK _ _ rfl (Below.refl _ _) trivial
          · -- 14
            intro li a1 W2 hA K hK
            have e36 : a1.tmps.getD 36 undef = .slice (some aa) m.ss.length c2 := hA.val 12 36 (by kernel_rfl) (by kernel_rfl)
            have e37 : a1.tmps.getD 37 undef = .int .i64 (k : Int) := hA.val 13 37 (by kernel_rfl) (by kernel_rfl)
            refine opStep none 0 rfl rfl (fun c hc => by cases hc) ?_
            go_simp
            exact hK _ _ (by first | rfl | exact congrArg (fun q => Value.pointer (some q)) (add_blk _ _)) (Below.refl _ _) trivial
          · -- 15
            intro li a1 W2 hA K hK
            have e38 : a1.tmps.getD 38 undef = .pointer (some (aa.add (k * 5))) := hA.val 14 38 (by kernel_rfl) (by kernel_rfl)
            refine opStep none 0 rfl rfl (fun c hc => by cases hc) ?_
            go_simp
            exact hK _ _ rfl (Below.refl _ _) trivial
          · -- 16
            intro li a1 W2 hA K hK
            have e39 : a1.tmps.getD 39 undef = .pointer (some ⟨(aa.add (k * 5)).block, (aa.add (k * 5)).off + 3, none⟩) := hA.val 15 39 (by kernel_rfl) (by kernel_rfl)
            refine opStep none 0 rfl rfl (fun c hc => by cases hc) ?_
            go_simp
            exact hK _ _ rfl (Below.refl _ _) trivial
          · -- 17
            intro li a1 W2 hA K hK
            have e40 : a1.tmps.getD 40 undef = .pointer (some ⟨(aa.add (k * 5)).block, (aa.add (k * 5)).off + 4, none⟩) := hA.val 16 40 (by kernel_rfl) (by kernel_rfl)
            have q1 := (hA.st.cell (World.block_lt_of_cell? _ _ HF.out.2.2.2)).trans HF.out.2.2.2
            refine opStep none 0 rfl rfl (fun c hc => by cases hc) ?_
            go_simp
            exact hK _ _ rfl (Below.refl _ _) trivial
          · -- 18
            intro li a1 W2 hA K hK
            have e27 : a1.tmps.getD 27 undef = .int .i64 x := hA.val 3 27 (by kernel_rfl) (by kernel_rfl)
            have e34 : a1.tmps.getD 34 undef = .int .i64 s.lo := hA.val 10 34 (by kernel_rfl) (by kernel_rfl)
            have e41 : a1.tmps.getD 41 undef = .int .i64 s.hi := hA.val 17 41 (by kernel_rfl) (by kernel_rfl)
            refine opStep none 0 rfl rfl (fun c hc => by cases hc) ?_
            go_simp
            refine (qin_any _ _ _ W2).mono ?_
            rintro e W3 ⟨rfl, rfl⟩
            exact hK _ _ (congrArg Value.bool hq) (Below.refl _ _) trivial
        · intro li a1 W2 hD
          have e42 : a1.tmps.getD 42 undef = .bool true := hD.val 18 42 (by kernel_rfl) (by kernel_rfl)
          have hkp2 := hD.keeps (ds := [24, 25, 26, 27, 28, 29, 30, 31, 32, 33, 34, 35, 36, 37, 38, 39, 40, 41, 42, 43]) (by kernel_rfl)
          have hds := hD.size
          have hsz9 : a1.tmps.size = 75 := hD.size
          have hdd := hD.defers
          have hst := hD.st
          refine tail_val (i := 19) (v := .bool false) (W' := W2) none 0 rfl rfl rfl (fun c hc => by cases hc) (by go_simp) (by rw [hsz9]; decide) ?_
          intro a3 s3 d3 f3 o3
          have hkp3 := keeps_then hkp2 o3 (by decide)
          have e := act_mix [24, 25, 26, 27, 28, 29, 30, 31, 32, 33, 34, 35, 36, 37, 38, 39, 40, 41, 42, 43] (s3.trans hds) (d3.trans hdd) (fun i _ hc => hkp3 i hc)
          have hg9 : (fun i => a3.tmps.getD i undef) 43 = .bool false := f3
          generalize (fun i => a3.tmps.getD i undef) = g' at e hg9
          refine wpListIn_nil ?_
          rw [e]
          clear e hD hkp2 hkp3 s3 d3 f3 o3 hds hdd hsz9 e42
          simp only [mix, List.contains_cons, List.contains_nil, Nat.reduceAdd, Nat.reduceBEq, Bool.or_false, Bool.or_true, cond_true, cond_false, hg9]
          clear hg9
          have HR2 := hid (show Blk W2 (w.heap.size + 1) 3 (intC (tsm m xs k)) ∧ Blk W2 w.heap.size 26 #[.slice A m.old.length c, .int .i64 m.nw, .slice (some aa) m.ss.length c2, .slice A3 m.js.length c3] ∧ Below w.heap.size w W2 from ⟨HR.out.2.1.keep hst, HR.out.2.2.1.keep hst, HR.out.2.2.2.trans (hst.mono HR.out.2.2.2.size)⟩)
          have g4 := (hst.cell (World.block_lt_of_cell? _ _ HF.out.1)).trans HF.out.1
          have f0 := (hst.cell (World.block_lt_of_cell? _ _ HF.out.2.1)).trans HF.out.2.1
          clear hst HF
          generalize W2 = w6 at *
          have HIN := hid (show ∀ i, i < k + 1 → inX m xs i from fun i hi => by
            rcases Nat.lt_succ_iff_lt_or_eq.1 hi with h | h
            · exact HR.out.1 i h
            · subst h; unfold inX; rw [HXD.out, HS1.out.2]; exact inB_iff.1 hq)
          have hsb := OK.out.sAt (i := k) (by have := HLE.out; omega)
          rw [HS1.out.2] at hsb
          obtain ⟨q, hqo⟩ : ∃ q : Nat, s.o = (q : Int) := ⟨s.o.toNat, by omega⟩
          have hqN : q < m.old.length := by omega
          have hqI : (q : Int) < (m.old.length : Int) := by omega
          obtain ⟨x1, x2⟩ := inB_iff.1 hq
          obtain ⟨y1, y2⟩ := sumX_bounds OK.out (d := q) (xs := xs) (k := k) (by have := HLE.out; omega) fun i hi _ => HR.out.1 i hi
          have yo := HR2.out.1.cell q
          rw [intC_get (tsm_get hqN)] at yo
          have fo := HR2.out.1.frozen q
          have lo := HR2.out.1.lt
          obtain ⟨t0, t1, t2, t3⟩ := HR2.out.2.1.c4
          have HNX := hid (show Blk (w6.setCell ⟨w.heap.size + 1, q, none⟩ (.int .i64 (sumX m q xs k + x))).drew (w.heap.size + 1) 3 (intC (tsm m xs (k + 1))) ∧ Blk (w6.setCell ⟨w.heap.size + 1, q, none⟩ (.int .i64 (sumX m q xs k + x))).drew w.heap.size 26 #[.slice A m.old.length c, .int .i64 m.nw, .slice (some aa) m.ss.length c2, .slice A3 m.js.length c3] ∧ Below w.heap.size w (w6.setCell ⟨w.heap.size + 1, q, none⟩ (.int .i64 (sumX m q xs k + x))).drew by
            refine ⟨?_, (blk_off HR2.out.2.1 (by omega)).drew, (HR2.out.2.2.setCell (p := ⟨w.heap.size + 1, q, none⟩) (show w.heap.size ≤ w.heap.size + 1 by omega) _).drew⟩
            have := HR2.out.1.set_ q (.int .i64 (sumX m q xs k + x))
            rw [intC_set] at this
            rw [← tsm_step HS1.out.1 hqo, HXD.out]
            exact this.drew)
          generalize sumX m q xs k = y at *
          have hw1 : IntKind.i64.wrap (y + x) = y + x := IntWalk.i64_in _ (by omega)
          rw [hqo] at f0
          clear hsb hqo HR2 HR HXD HS1
          go_wp2
          go_still_tail 14, (by kernel_rfl)
          go_wp2
          go_roundw
          case rel => exact ⟨k + 1, by omega, by go_num, HIN.out, HNX.out⟩
          case measure => first | (simp [intOf]; done) | (simp [intOf]; omega)
      · have hqf : inB x s.lo s.hi = false := by simpa using hq
        have HRES := hid (show trB m xs = false from trB_false fun ht => hq (by
          have := ht.rng k (by have := HLE.out; omega)
          unfold inX at this
          rw [HXD.out, HS1.out.2] at this
          exact inB_iff.2 this))
        clear hq
        go_wp2
        clear t0 t1 t2 t3
        refine (wpIn_wide (n := 0)).1 ?_
        refine wpIn_region_each 19 (fun i v W' => match i with | 0 => v = .slice (some ax) xs.length cx | 1 => v = .int .i64 (k : Int) | 2 => v = .pointer (some (ax.add k)) | 3 => v = .int .i64 x | 4 => v = .pointer (some ⟨w.heap.size, 2, none⟩) | 5 => v = .slice (some aa) m.ss.length c2 | 6 => v = .int .i64 (k : Int) | 7 => v = .pointer (some (aa.add (k * 5))) | 8 => v = .pointer (some ⟨(aa.add (k * 5)).block, (aa.add (k * 5)).off + 3, none⟩) | 9 => v = .pointer (some ⟨(aa.add (k * 5)).block, (aa.add (k * 5)).off + 3, none⟩) | 10 => v = .int .i64 s.lo | 11 => v = .pointer (some ⟨w.heap.size, 2, none⟩) | 12 => v = .slice (some aa) m.ss.length c2 | 13 => v = .int .i64 (k : Int) | 14 => v = .pointer (some (aa.add (k * 5))) | 15 => v = .pointer (some ⟨(aa.add (k * 5)).block, (aa.add (k * 5)).off + 3, none⟩) | 16 => v = .pointer (some ⟨(aa.add (k * 5)).block, (aa.add (k * 5)).off + 4, none⟩) | 17 => v = .int .i64 s.hi | 18 => v = .bool false | _ => True) (fun A B => Below A.heap.size A B) (fun _ _ => True) (by kernel_rfl) (by kernel_rfl) ?_ (fun h k => h.trans (k.mono h.size)) ⟨rfl, rfl, rfl, Nat.le_refl _, fun _ _ => rfl⟩ trivial (by kernel_rfl) ?_ ?_
        · intro i v W1 W2 hb h
          match i, h with
          | 0, h => exact h
          | 1, h => exact h
          | 2, h => exact h
          | 3, h => exact h
          | 4, h => exact h
          | 5, h => exact h
          | 6, h => exact h
          | 7, h => exact h
          | 8, h => exact h
          | 9, h => exact h
          | 10, h => exact h
          | 11, h => exact h
          | 12, h => exact h
          | 13, h => exact h
          | 14, h => exact h
          | 15, h => exact h
          | 16, h => exact h
          | 17, h => exact h
          | 18, h => exact h
          | i + 19, h => trivial
        · refine ⟨?_, ?_, ?_, ?_, ?_, ?_, ?_, ?_, ?_, ?_, ?_, ?_, ?_, ?_, ?_, ?_, ?_, ?_, ?_, trivial⟩
          · -- 0
            intro li a1 W2 hA K hK
            have e1 := hA.par 1 (by kernel_rfl)
            refine opStep none 0 rfl rfl (fun c hc => by cases hc) ?_
            go_simp
            exact hK _ _ rfl (Below.refl _ _) trivial
          · -- 1
            intro li a1 W2 hA K hK
            have e6 := hA.par 6 (by kernel_rfl)
            refine opStep none 0 rfl rfl (fun c hc => by cases hc) ?_
            go_simp
            exact hK _ _ rfl (Below.refl _ _) trivial
          · -- 2
            intro li a1 W2 hA K hK
            have e24 : a1.tmps.getD 24 undef = .slice (some ax) xs.length cx := hA.val 0 24 (by kernel_rfl) (by kernel_rfl)
            have e25 : a1.tmps.getD 25 undef = .int .i64 (k : Int) := hA.val 1 25 (by kernel_rfl) (by kernel_rfl)
            refine opStep none 0 rfl rfl (fun c hc => by cases hc) ?_
            go_simp
            exact hK _ _ (by first | rfl | exact congrArg (fun q => Value.pointer (some q)) (add_blk _ _)) (Below.refl _ _) trivial
          · -- 3
            intro li a1 W2 hA K hK
            have e26 : a1.tmps.getD 26 undef = .pointer (some (ax.add k)) := hA.val 2 26 (by kernel_rfl) (by kernel_rfl)
            have q1 := (hA.st.cell (World.block_lt_of_cell? _ _ HF.out.1)).trans HF.out.1
            refine opStep none 0 rfl rfl (fun c hc => by cases hc) ?_
            go_simp
            exact hK _ _ rfl (Below.refl _ _) trivial
          · -- 4
            intro li a1 W2 hA K hK
            have e2 := hA.par 2 (by kernel_rfl)
            refine opStep none 0 rfl rfl (fun c hc => by cases hc) ?_
            go_simp
            exact hK _ _ rfl (Below.refl _ _) trivial
          · -- 5
            intro li a1 W2 hA K hK
            have e28 : a1.tmps.getD 28 undef = .pointer (some ⟨w.heap.size, 2, none⟩) := hA.val 4 28 (by kernel_rfl) (by kernel_rfl)
            obtain ⟨q1, q2, q3, q4⟩ := (HR.out.2.2.1.keep hA.st).c4
            refine opStep none 0 rfl rfl (fun c hc => by cases hc) ?_
            go_simp
            exact hK _ _ rfl (Below.refl _ _) trivial
          · -- 6
            intro li a1 W2 hA K hK
            have e6 := hA.par 6 (by kernel_rfl)
            refine opStep none 0 rfl rfl (fun c hc => by cases hc) ?_
            go_simp
            exact hK _ _ rfl (Below.refl _ _) trivial
          · -- 7
            intro li a1 W2 hA K hK
            have e29 : a1.tmps.getD 29 undef = .slice (some aa) m.ss.length c2 := hA.val 5 29 (by kernel_rfl) (by kernel_rfl)
            have e30 : a1.tmps.getD 30 undef = .int .i64 (k : Int) := hA.val 6 30 (by kernel_rfl) (by kernel_rfl)
            refine opStep none 0 rfl rfl (fun c hc => by cases hc) ?_
            go_simp
            exact hK _ _ (by first | rfl | exact congrArg (fun q => Value.pointer (some q)) (add_blk _ _)) (Below.refl _ _) trivial
          · -- 8
            intro li a1 W2 hA K hK
            have e31 : a1.tmps.getD 31 undef = .pointer (some (aa.add (k * 5))) := hA.val 7 31 (by kernel_rfl) (by kernel_rfl)
            refine opStep none 0 rfl rfl (fun c hc => by cases hc) ?_
            go_simp
            exact hK _ _ rfl (Below.refl _ _) trivial
          · -- 9
            intro li a1 W2 hA K hK
            have e32 : a1.tmps.getD 32 undef = .pointer (some ⟨(aa.add (k * 5)).block, (aa.add (k * 5)).off + 3, none⟩) := hA.val 8 32 (by kernel_rfl) (by kernel_rfl)
            refine opStep none 0 rfl rfl (fun c hc => by cases hc) ?_
            go_simp
            exact hK _ _ rfl (Below.refl _ _) trivial
          · -- 10
            intro li a1 W2 hA K hK
            have e33 : a1.tmps.getD 33 undef = .pointer (some ⟨(aa.add (k * 5)).block, (aa.add (k * 5)).off + 3, none⟩) := hA.val 9 33 (by kernel_rfl) (by kernel_rfl)
            have q1 := (hA.st.cell (World.block_lt_of_cell? _ _ HF.out.2.2.1)).trans HF.out.2.2.1
            refine opStep none 0 rfl rfl (fun c hc => by cases hc) ?_
            go_simp
            exact hK _ _ rfl (Below.refl _ _) trivial
          · -- 11
            intro li a1 W2 hA K hK
            have e2 := hA.par 2 (by kernel_rfl)
            refine opStep none 0 rfl rfl (fun c hc => by cases hc) ?_
            go_simp
            exact hK _ _ rfl (Below.refl _ _) trivial
          · -- 12
            intro li a1 W2 hA K hK
            have e35 : a1.tmps.getD 35 undef = .pointer (some ⟨w.heap.size, 2, none⟩) := hA.val 11 35 (by kernel_rfl) (by kernel_rfl)
            obtain ⟨q1, q2, q3, q4⟩ := (HR.out.2.2.1.keep hA.st).c4
            refine opStep none 0 rfl rfl (fun c hc => by cases hc) ?_
            go_simp
            exact hK _ _ rfl (Below.refl _ _) trivial
          · -- 13
            intro li a1 W2 hA K hK
            have e6 := hA.par 6 (by kernel_rfl)
            refine opStep none 0 rfl rfl (fun c hc => by cases hc) ?_
            go_simp
            exact hK _ _ rfl (Below.refl _ _) trivial
          · -- 14
            intro li a1 W2 hA K hK
            have e36 : a1.tmps.getD 36 undef = .slice (some aa) m.ss.length c2 := hA.val 12 36 (by kernel_rfl) (by kernel_rfl)
            have e37 : a1.tmps.getD 37 undef = .int .i64 (k : Int) := hA.val 13 37 (by kernel_rfl) (by kernel_rfl)
            refine opStep none 0 rfl rfl (fun c hc => by cases hc) ?_
            go_simp
            exact hK _ _ (by first | rfl | exact congrArg (fun q => Value.pointer (some q)) (add_blk _ _)) (Below.refl _ _) trivial
          · -- 15
            intro li a1 W2 hA K hK
            have e38 : a1.tmps.getD 38 undef = .pointer (some (aa.add (k * 5))) := hA.val 14 38 (by kernel_rfl) (by kernel_rfl)
            refine opStep none 0 rfl rfl (fun c hc => by cases hc) ?_
            go_simp
            exact hK _ _ rfl (Below.refl _ _) trivial
          · -- 16
            intro li a1 W2 hA K hK
            have e39 : a1.tmps.getD 39 undef = .pointer (some ⟨(aa.add (k * 5)).block, (aa.add (k * 5)).off + 3, none⟩) := hA.val 15 39 (by kernel_rfl) (by kernel_rfl)
            refine opStep none 0 rfl rfl (fun c hc => by cases hc) ?_
            go_simp
            exact hK _ _ rfl (Below.refl _ _) trivial
          · -- 17
            intro li a1 W2 hA K hK
            have e40 : a1.tmps.getD 40 undef = .pointer (some ⟨(aa.add (k * 5)).block, (aa.add (k * 5)).off + 4, none⟩) := hA.val 16 40 (by kernel_rfl) (by kernel_rfl)
            have q1 := (hA.st.cell (World.block_lt_of_cell? _ _ HF.out.2.2.2)).trans HF.out.2.2.2
            refine opStep none 0 rfl rfl (fun c hc => by cases hc) ?_
            go_simp
            exact hK _ _ rfl (Below.refl _ _) trivial
          · -- 18
            intro li a1 W2 hA K hK
            have e27 : a1.tmps.getD 27 undef = .int .i64 x := hA.val 3 27 (by kernel_rfl) (by kernel_rfl)
            have e34 : a1.tmps.getD 34 undef = .int .i64 s.lo := hA.val 10 34 (by kernel_rfl) (by kernel_rfl)
            have e41 : a1.tmps.getD 41 undef = .int .i64 s.hi := hA.val 17 41 (by kernel_rfl) (by kernel_rfl)
            refine opStep none 0 rfl rfl (fun c hc => by cases hc) ?_
            go_simp
            refine (qin_any _ _ _ W2).mono ?_
            rintro e W3 ⟨rfl, rfl⟩
            exact hK _ _ (congrArg Value.bool hqf) (Below.refl _ _) trivial
        · intro li a1 W2 hD
          have e42 : a1.tmps.getD 42 undef = .bool false := hD.val 18 42 (by kernel_rfl) (by kernel_rfl)
          have hkp2 := hD.keeps (ds := [24, 25, 26, 27, 28, 29, 30, 31, 32, 33, 34, 35, 36, 37, 38, 39, 40, 41, 42, 43]) (by kernel_rfl)
          have hds := hD.size
          have hsz9 : a1.tmps.size = 75 := hD.size
          have hdd := hD.defers
          have hst := hD.st
          refine tail_val (i := 19) (v := .bool true) (W' := W2) none 0 rfl rfl rfl (fun c hc => by cases hc) (by go_simp) (by rw [hsz9]; decide) ?_
          intro a3 s3 d3 f3 o3
          have hkp3 := keeps_then hkp2 o3 (by decide)
          have e := act_mix [24, 25, 26, 27, 28, 29, 30, 31, 32, 33, 34, 35, 36, 37, 38, 39, 40, 41, 42, 43] (s3.trans hds) (d3.trans hdd) (fun i _ hc => hkp3 i hc)
          have hg9 : (fun i => a3.tmps.getD i undef) 43 = .bool true := f3
          generalize (fun i => a3.tmps.getD i undef) = g' at e hg9
          refine wpListIn_nil ?_
          rw [e]
          clear e hD hkp2 hkp3 s3 d3 f3 o3 hds hdd hsz9 e42
          simp only [mix, List.contains_cons, List.contains_nil, Nat.reduceAdd, Nat.reduceBEq, Bool.or_false, Bool.or_true, cond_true, cond_false, hg9]
          clear hg9
          have HB := hid (HR.out.2.2.2.trans (hst.mono HR.out.2.2.2.size))
          clear hst HR HF
          go_wp2
          go_ret
          exact ⟨by rw [HRES.out]; rfl, HB.out⟩
    · have hkI : decide ((k : Int) < (xs.length : Int)) = false := by simp; omega
      obtain rfl : k = xs.length := by omega
      go_wp2
      clear t0 t1 t2 t3
      generalize wr = w5 at *
      go_loopw [7] (fun i W => ∃ d : Nat, d ≤ m.old.length ∧ i = .int .i64 d ∧ (∀ j, j < d → sumX m j xs xs.length = m.at_ j) ∧ Below w5.heap.size w5 W) (fun i _ => m.old.length - (intOf i).toNat)
      case atStart => exact ⟨0, Nat.zero_le _, rfl, fun i hi => by omega, Below.refl _ _⟩
      case round =>
        obtain ⟨d, hd, rfl, hall, hbr⟩ := hrel
        obtain ⟨t0, t1, t2, t3⟩ := (HR.out.2.2.1.keep hbr).c4
        have HDA := hid (And.intro hall hbr)
        clear hall hbr
        by_cases hld : d < m.old.length
        · have hdI : (d : Int) < (m.old.length : Int) := by omega
          obtain ⟨x, hx⟩ : ∃ x, m.old[d]? = some x := ⟨_, List.getElem?_eq_getElem hld⟩
          obtain ⟨ao, eO, go1, go2⟩ := (HA.out.at_ (HR.out.2.2.2.trans (HDA.out.2.mono HR.out.2.2.2.size))).io d x hx
          have yo := (HR.out.2.1.keep HDA.out.2).cell d
          rw [intC_get (tsm_get hld)] at yo
          have HME := hid (MapD.at_eq hx)
          subst eO
          have HG := hid (And.intro go2 yo)
          clear hx go1 go2 yo
          by_cases he : sumX m d xs xs.length = x
          · have HNX := hid (show ∀ j, j < d + 1 → sumX m j xs xs.length = m.at_ j from fun j hj => by
              rcases Nat.lt_succ_iff_lt_or_eq.1 hj with h | h
              · exact HDA.out.1 j h
              · subst h; rw [HME.out]; exact he)
            have hneq : (sumX m d xs xs.length != x) = false := by simp [he]
            clear he
            go_wp2
            clear t0 t1 t2 t3
            refine (wpIn_wide (n := 0)).1 ?_
            refine wpIn_region_each 9 (fun i v W' => match i with | 0 => v = .slice (some ⟨w.heap.size + 1, 0, none⟩) m.old.length m.old.length | 1 => v = .int .i64 (d : Int) | 2 => v = .pointer (some ⟨w.heap.size + 1, d, none⟩) | 3 => v = .int .i64 (sumX m d xs xs.length) | 4 => v = .pointer (some ⟨w.heap.size, 0, none⟩) | 5 => v = .slice (some ao) m.old.length c | 6 => v = .int .i64 (d : Int) | 7 => v = .pointer (some (ao.add d)) | 8 => v = .int .i64 x | _ => True) (fun A B => Below A.heap.size A B) (fun _ _ => True) (by kernel_rfl) (by kernel_rfl) ?_ (fun h k => h.trans (k.mono h.size)) ⟨rfl, rfl, rfl, Nat.le_refl _, fun _ _ => rfl⟩ trivial (by kernel_rfl) ?_ ?_
            · intro i v W1 W2 hb h
              match i, h with
              | 0, h => exact h
              | 1, h => exact h
              | 2, h => exact h
              | 3, h => exact h
              | 4, h => exact h
              | 5, h => exact h
              | 6, h => exact h
              | 7, h => exact h
              | 8, h => exact h
              | i + 9, h => trivial
            · refine ⟨?_, ?_, ?_, ?_, ?_, ?_, ?_, ?_, ?_, trivial⟩
              · -- 0
                intro li a1 W2 hA K hK
                have e5 := hA.par 5 (by kernel_rfl)
                refine opStep none 0 rfl rfl (fun c hc => by cases hc) ?_
                go_simp
                exact hK _ _ rfl (Below.refl _ _) trivial
              · -- 1
                intro li a1 W2 hA K hK
                have e7 := hA.par 7 (by kernel_rfl)
                refine opStep none 0 rfl rfl (fun c hc => by cases hc) ?_
                go_simp
                exact hK _ _ rfl (Below.refl _ _) trivial
              · -- 2
                intro li a1 W2 hA K hK
                have e65 : a1.tmps.getD 65 undef = .slice (some ⟨w.heap.size + 1, 0, none⟩) m.old.length m.old.length := hA.val 0 65 (by kernel_rfl) (by kernel_rfl)
                have e66 : a1.tmps.getD 66 undef = .int .i64 (d : Int) := hA.val 1 66 (by kernel_rfl) (by kernel_rfl)
                refine opStep none 0 rfl rfl (fun c hc => by cases hc) ?_
                go_simp
                exact hK _ _ (by first | rfl | exact congrArg (fun q => Value.pointer (some q)) (add_blk _ _)) (Below.refl _ _) trivial
              · -- 3
                intro li a1 W2 hA K hK
                have e67 : a1.tmps.getD 67 undef = .pointer (some ⟨w.heap.size + 1, d, none⟩) := hA.val 2 67 (by kernel_rfl) (by kernel_rfl)
                have q1 := (hA.st.cell (World.block_lt_of_cell? _ _ HG.out.2)).trans HG.out.2
                refine opStep none 0 rfl rfl (fun c hc => by cases hc) ?_
                go_simp
                exact hK _ _ rfl (Below.refl _ _) trivial
              · -- 4
                intro li a1 W2 hA K hK
                have e2 := hA.par 2 (by kernel_rfl)
                refine opStep none 0 rfl rfl (fun c hc => by cases hc) ?_
                go_simp
                exact hK _ _ rfl (Below.refl _ _) trivial
              · -- 5
                intro li a1 W2 hA K hK
                have e69 : a1.tmps.getD 69 undef = .pointer (some ⟨w.heap.size, 0, none⟩) := hA.val 4 69 (by kernel_rfl) (by kernel_rfl)
                obtain ⟨q1, q2, q3, q4⟩ := ((HR.out.2.2.1.keep HDA.out.2).keep hA.st).c4
                refine opStep none 0 rfl rfl (fun c hc => by cases hc) ?_
                go_simp
                exact hK _ _ rfl (Below.refl _ _) trivial
              · -- 6
                intro li a1 W2 hA K hK
                have e7 := hA.par 7 (by kernel_rfl)
                refine opStep none 0 rfl rfl (fun c hc => by cases hc) ?_
                go_simp
                exact hK _ _ rfl (Below.refl _ _) trivial
              · -- 7
                intro li a1 W2 hA K hK
                have e70 : a1.tmps.getD 70 undef = .slice (some ao) m.old.length c := hA.val 5 70 (by kernel_rfl) (by kernel_rfl)
                have e71 : a1.tmps.getD 71 undef = .int .i64 (d : Int) := hA.val 6 71 (by kernel_rfl) (by kernel_rfl)
                refine opStep none 0 rfl rfl (fun c hc => by cases hc) ?_
                go_simp
                exact hK _ _ (by first | rfl | exact congrArg (fun q => Value.pointer (some q)) (add_blk _ _)) (Below.refl _ _) trivial
              · -- 8
                intro li a1 W2 hA K hK
                have e72 : a1.tmps.getD 72 undef = .pointer (some (ao.add d)) := hA.val 7 72 (by kernel_rfl) (by kernel_rfl)
                have q1 := (hA.st.cell (World.block_lt_of_cell? _ _ HG.out.1)).trans HG.out.1
                refine opStep none 0 rfl rfl (fun c hc => by cases hc) ?_
                go_simp
                exact hK _ _ rfl (Below.refl _ _) trivial
            · intro li a1 W2 hD
              have e68 : a1.tmps.getD 68 undef = .int .i64 (sumX m d xs xs.length) := hD.val 3 68 (by kernel_rfl) (by kernel_rfl)
              have e73 : a1.tmps.getD 73 undef = .int .i64 x := hD.val 8 73 (by kernel_rfl) (by kernel_rfl)
              have hkp2 := hD.keeps (ds := [65, 66, 67, 68, 69, 70, 71, 72, 73, 74]) (by kernel_rfl)
              have hds := hD.size
              have hsz9 : a1.tmps.size = 75 := hD.size
              have hdd := hD.defers
              have hst := hD.st
              refine tail_val (i := 9) (v := .bool false) (W' := W2) none 0 rfl rfl rfl (fun c hc => by cases hc) (by go_simp) (by rw [hsz9]; decide) ?_
              intro a3 s3 d3 f3 o3
              have hkp3 := keeps_then hkp2 o3 (by decide)
              have e := act_mix [65, 66, 67, 68, 69, 70, 71, 72, 73, 74] (s3.trans hds) (d3.trans hdd) (fun i _ hc => hkp3 i hc)
              have hg9 : (fun i => a3.tmps.getD i undef) 74 = .bool false := f3
              generalize (fun i => a3.tmps.getD i undef) = g' at e hg9
              refine wpListIn_nil ?_
              rw [e]
              clear e hD hkp2 hkp3 s3 d3 f3 o3 hds hdd hsz9 e68 e73
              simp only [mix, List.contains_cons, List.contains_nil, Nat.reduceAdd, Nat.reduceBEq, Bool.or_false, Bool.or_true, cond_true, cond_false, hg9]
              clear hg9
              have HB9 := hid (HDA.out.2.trans (hst.mono HDA.out.2.size))
              clear hst HG HDA
              go_wp2
              go_roundw
              case rel => exact ⟨d + 1, by omega, by go_num, HNX.out, HB9.out⟩
              case measure => first | (simp [intOf]; done) | (simp [intOf]; omega)
          · have HRES := hid (show trB m xs = false from trB_false fun ht => he (by
              have := ht.sum d hld
              rw [← HLE.out, HME.out] at this
              exact this))
            have hneq : (sumX m d xs xs.length != x) = true := by simpa using he
            clear he
            go_wp2
            clear t0 t1 t2 t3
            refine (wpIn_wide (n := 0)).1 ?_
            refine wpIn_region_each 9 (fun i v W' => match i with | 0 => v = .slice (some ⟨w.heap.size + 1, 0, none⟩) m.old.length m.old.length | 1 => v = .int .i64 (d : Int) | 2 => v = .pointer (some ⟨w.heap.size + 1, d, none⟩) | 3 => v = .int .i64 (sumX m d xs xs.length) | 4 => v = .pointer (some ⟨w.heap.size, 0, none⟩) | 5 => v = .slice (some ao) m.old.length c | 6 => v = .int .i64 (d : Int) | 7 => v = .pointer (some (ao.add d)) | 8 => v = .int .i64 x | _ => True) (fun A B => Below A.heap.size A B) (fun _ _ => True) (by kernel_rfl) (by kernel_rfl) ?_ (fun h k => h.trans (k.mono h.size)) ⟨rfl, rfl, rfl, Nat.le_refl _, fun _ _ => rfl⟩ trivial (by kernel_rfl) ?_ ?_
            · intro i v W1 W2 hb h
              match i, h with
              | 0, h => exact h
              | 1, h => exact h
              | 2, h => exact h
              | 3, h => exact h
              | 4, h => exact h
              | 5, h => exact h
              | 6, h => exact h
              | 7, h => exact h
              | 8, h => exact h
              | i + 9, h => trivial
            · refine ⟨?_, ?_, ?_, ?_, ?_, ?_, ?_, ?_, ?_, trivial⟩
              · -- 0
                intro li a1 W2 hA K hK
                have e5 := hA.par 5 (by kernel_rfl)
                refine opStep none 0 rfl rfl (fun c hc => by cases hc) ?_
                go_simp
                exact hK _ _ rfl (Below.refl _ _) trivial
              · -- 1
                intro li a1 W2 hA K hK
                have e7 := hA.par 7 (by kernel_rfl)
                refine opStep none 0 rfl rfl (fun c hc => by cases hc) ?_
                go_simp
                exact hK _ _ rfl (Below.refl _ _) trivial
              · -- 2
                intro li a1 W2 hA K hK
                have e65 : a1.tmps.getD 65 undef = .slice (some ⟨w.heap.size + 1, 0, none⟩) m.old.length m.old.length := hA.val 0 65 (by kernel_rfl) (by kernel_rfl)
                have e66 : a1.tmps.getD 66 undef = .int .i64 (d : Int) := hA.val 1 66 (by kernel_rfl) (by kernel_rfl)
                refine opStep none 0 rfl rfl (fun c hc => by cases hc) ?_
                go_simp
                exact hK _ _ (by first | rfl | exact congrArg (fun q => Value.pointer (some q)) (add_blk _ _)) (Below.refl _ _) trivial
              · -- 3
                intro li a1 W2 hA K hK
                have e67 : a1.tmps.getD 67 undef = .pointer (some ⟨w.heap.size + 1, d, none⟩) := hA.val 2 67 (by kernel_rfl) (by kernel_rfl)
                have q1 := (hA.st.cell (World.block_lt_of_cell? _ _ HG.out.2)).trans HG.out.2
                refine opStep none 0 rfl rfl (fun c hc => by cases hc) ?_
                go_simp
                exact hK _ _ rfl (Below.refl _ _) trivial
              · -- 4
                intro li a1 W2 hA K hK
                have e2 := hA.par 2 (by kernel_rfl)
                refine opStep none 0 rfl rfl (fun c hc => by cases hc) ?_
                go_simp
                exact hK _ _ rfl (Below.refl _ _) trivial
              · -- 5
                intro li a1 W2 hA K hK
                have e69 : a1.tmps.getD 69 undef = .pointer (some ⟨w.heap.size, 0, none⟩) := hA.val 4 69 (by kernel_rfl) (by kernel_rfl)
                obtain ⟨q1, q2, q3, q4⟩ := ((HR.out.2.2.1.keep HDA.out.2).keep hA.st).c4
                refine opStep none 0 rfl rfl (fun c hc => by cases hc) ?_
                go_simp
                exact hK _ _ rfl (Below.refl _ _) trivial
              · -- 6
                intro li a1 W2 hA K hK
                have e7 := hA.par 7 (by kernel_rfl)
                refine opStep none 0 rfl rfl (fun c hc => by cases hc) ?_
                go_simp
                exact hK _ _ rfl (Below.refl _ _) trivial
              · -- 7
                intro li a1 W2 hA K hK
                have e70 : a1.tmps.getD 70 undef = .slice (some ao) m.old.length c := hA.val 5 70 (by kernel_rfl) (by kernel_rfl)
                have e71 : a1.tmps.getD 71 undef = .int .i64 (d : Int) := hA.val 6 71 (by kernel_rfl) (by kernel_rfl)
                refine opStep none 0 rfl rfl (fun c hc => by cases hc) ?_
                go_simp
                exact hK _ _ (by first | rfl | exact congrArg (fun q => Value.pointer (some q)) (add_blk _ _)) (Below.refl _ _) trivial
              · -- 8
                intro li a1 W2 hA K hK
                have e72 : a1.tmps.getD 72 undef = .pointer (some (ao.add d)) := hA.val 7 72 (by kernel_rfl) (by kernel_rfl)
                have q1 := (hA.st.cell (World.block_lt_of_cell? _ _ HG.out.1)).trans HG.out.1
                refine opStep none 0 rfl rfl (fun c hc => by cases hc) ?_
                go_simp
                exact hK _ _ rfl (Below.refl _ _) trivial
            · intro li a1 W2 hD
              have e68 : a1.tmps.getD 68 undef = .int .i64 (sumX m d xs xs.length) := hD.val 3 68 (by kernel_rfl) (by kernel_rfl)
              have e73 : a1.tmps.getD 73 undef = .int .i64 x := hD.val 8 73 (by kernel_rfl) (by kernel_rfl)
              have hkp2 := hD.keeps (ds := [65, 66, 67, 68, 69, 70, 71, 72, 73, 74]) (by kernel_rfl)
              have hds := hD.size
              have hsz9 : a1.tmps.size = 75 := hD.size
              have hdd := hD.defers
              have hst := hD.st
              refine tail_val (i := 9) (v := .bool true) (W' := W2) none 0 rfl rfl rfl (fun c hc => by cases hc) (by go_simp) (by rw [hsz9]; decide) ?_
              intro a3 s3 d3 f3 o3
              have hkp3 := keeps_then hkp2 o3 (by decide)
              have e := act_mix [65, 66, 67, 68, 69, 70, 71, 72, 73, 74] (s3.trans hds) (d3.trans hdd) (fun i _ hc => hkp3 i hc)
              have hg9 : (fun i => a3.tmps.getD i undef) 74 = .bool true := f3
              generalize (fun i => a3.tmps.getD i undef) = g' at e hg9
              refine wpListIn_nil ?_
              rw [e]
              clear e hD hkp2 hkp3 s3 d3 f3 o3 hds hdd hsz9 e68 e73
              simp only [mix, List.contains_cons, List.contains_nil, Nat.reduceAdd, Nat.reduceBEq, Bool.or_false, Bool.or_true, cond_true, cond_false, hg9]
              clear hg9
              have HB := hid ((HR.out.2.2.2.trans (HDA.out.2.mono HR.out.2.2.2.size)).trans (hst.mono (HR.out.2.2.2.trans (HDA.out.2.mono HR.out.2.2.2.size)).size))
              clear hst HR HG HDA
              go_wp2
              go_ret
              exact ⟨by rw [HRES.out]; rfl, HB.out⟩
        · have hdI : decide ((d : Int) < (m.old.length : Int)) = false := by simp; omega
          have HRES := hid (show trB m xs = true from trB_iff.2 ⟨HLE.out, fun i hi => HR.out.1 i (by rw [HLE.out]; exact hi), fun j hj => by rw [← HLE.out]; exact HDA.out.1 j (by omega)⟩)
          have HB := hid (HR.out.2.2.2.trans (HDA.out.2.mono HR.out.2.2.2.size))
          clear HR
          go_wp2
          go_ret
          exact ⟨by rw [HRES.out]; rfl, HB.out⟩
end Go.Proofs.Ytoeabajigfdkaaa
