/- For every table, a count is in the range that Learn returns for its rounded number: the statement RoundKnown. No condition. -/
import Derived.Test.YtgoianldiomdoaaG9
import Derived.Test.YtgoianldiomdoaaG6
namespace Go.Proofs.Ytgoianldiomdoaa
open Go.RowKit Go.Shelf

theorem ready_ok {b : Int} {cs : List (List Int)} {fs : List Fx} (h : readyB b cs fs = true) : chkE b cs fs = 0 := by
  unfold readyB at h
  rw [Bool.and_eq_true] at h
  simpa using h.2
/-- the phases of the statement that keeps the range -/
def KnPh (base : Nat) (lo hi : Int) (li : Array Bool) (a : Act) (W : World) : Prop :=
  li.getD 13 false = true → ∃ g, a.tmps.getD 8 undef = .pointer (some ⟨g, 0, none⟩) ∧ base ≤ g ∧ Blk W g 49 (if li.getD 14 false = true then #[.int .i64 lo, .int .i64 hi] else #[.int .i64 0, .int .i64 0])

theorem knph_other {base : Nat} {lo hi : Int} {li : Array Bool} {a : Act} {W W' : World} {i d : Nat} {v : Value} (h : KnPh base lo hi li a W) (h1 : i ≠ 13) (h2 : i ≠ 14) (hd : d ≠ 8) (hb : Below W.heap.size W W') : KnPh base lo hi (li.setIfInBounds i true) (a.put (some d) v) W' := by
  unfold KnPh at h ⊢
  rw [getD_set_oth h1, getD_set_oth h2]
  intro hl
  obtain ⟨g, e, hg, hbk⟩ := h hl
  exact ⟨g, (put_getD_other hd).trans e, hg, hbk.keep hb⟩

theorem best_bound {b : Int} {cs : List (List Int)} {fs : List Fx} (ok : TOk b cs fs) {j : Nat} {xs : List Int} (hx : (bestOf b cs fs cs.length zeroS)[j]? = some xs) (hj : j < cs.length) : ∀ v ∈ xs, 0 ≤ v ∧ v ≤ 10100 := by
  have hg := bestOf_get (b := b) (cs := cs) (fs := fs) j 0 cs.length (by omega) hj
  simp only [Nat.zero_add] at hg
  have e0 : sAt b cs fs 0 = zeroS := rfl
  rw [e0, hx] at hg
  injection hg with hg
  subst hg
  exact (bnd_spec ok (cs.length - j) (by omega) _).1.cell

set_option maxRecDepth 100000 in
set_option maxHeartbeats 4000000 in
theorem known_any (b : Int) (A : Option Addr) (c : Nat) (cs : List (List Int)) (A2 : Option Addr) (c2 : Nat) (fs : List Fx) (w : World) (h : TIn A c cs A2 c2 fs w) :
    Calls Try.prog 7 #[.agg #[.int .i64 b, .slice A cs.length c, .slice A2 fs.length c2]] w fun e w' => e = .returned (.bool true) ∧ Below w.heap.size w w' := by
  have hB := below_box (w := w) #[.int .i64 b, .slice A cs.length c, .slice A2 fs.length c2] 25
  have hT := Blk.new w 25 #[.int .i64 b, .slice A cs.length c, .slice A2 fs.length c2]
  have KA := hid (fun W => awake_any W)
  have KR := hid (ready_any b A c cs A2 c2 fs _ (h.at_ hB))
  have HB := hid hB
  have HT := hid hT
  have HH := hid h
  obtain ⟨t0, t1, t2⟩ := hT.c3
  clear h hB hT
  cases hr : readyB b cs fs
  · rw [hr] at KR
    clear hr
    go_enter Try.func7, Try.ntmps7
    go_wp2_with fail
    refine KR.out.mono ?_
    rintro e w2 ⟨rfl, hb2⟩
    have HB2 := hid (HB.out.trans (hb2.mono HB.out.size))
    clear hb2 t0 t1 t2 KR
    go_wp2_with fail
    refine (KA.out _).mono ?_
    rintro e w4 ⟨rfl, hb4⟩
    have HB4 := hid (HB2.out.trans (hb4.mono HB2.out.size))
    clear hb4
    go_wp2
    go_ret
    exact ⟨rfl, HB4.out⟩
  have hchk := ready_ok hr
  have OK := hid (chk_ok hchk)
  have CHK := hid hchk
  rw [hr] at KR
  clear hr hchk
  have hn5 := OK.out.okc.n2
  have hc4 := OK.out.okc.c2
  have hb1 := OK.out.okc.b1
  have hb2 := OK.out.okc.b2
  go_enter Try.func7, Try.ntmps7
  go_wp2_with fail
  refine KR.out.mono ?_
  rintro e w2 ⟨rfl, hb2⟩
  have HB2 := hid (HB.out.trans (hb2.mono HB.out.size))
  have KT := hid (table_any b A c cs A2 c2 fs w2 (HH.out.at_ HB2.out) (by omega) (fun xs hx => by have := OK.out.okc.row xs hx; omega) (by have := OK.out.n; omega))
  clear t0 t1 t2
  obtain ⟨t0, t1, t2⟩ := (HT.out.keep hb2).c3
  have HT2 := hid (HT.out.keep hb2)
  clear hb2 KR
  go_wp2_with fail
  refine KT.out.mono ?_
  rintro e w3 ⟨A3, c3, A4, c4, rfl, hti, hb3⟩
  have HB3 := hid (HB2.out.trans (hb3.mono HB2.out.size))
  have KBE := hid (best_any b A3 c3 cs A4 c4 fs w3 hti)
  simp only [CHK.out, ne_eq, not_true_eq_false, if_false] at KBE
  have HT3 := hid (HT2.out.keep hb3)
  clear t0 t1 t2 hti hb3 KT
  by_cases hw : (spec b cs fs cs.length zeroS).ways = 0
  · simp only [if_pos hw] at KBE
    clear hw
    go_wp2_with fail
    refine KBE.out.mono ?_
    rintro e w4 ⟨rfl, hb4⟩
    have HB4 := hid (HB3.out.trans (hb4.mono HB3.out.size))
    clear hb4 KBE
    go_wp2_with fail
    refine (KA.out _).mono ?_
    rintro e w5 ⟨rfl, hb5⟩
    have HB5 := hid (HB4.out.trans (hb5.mono HB4.out.size))
    clear hb5
    go_wp2
    go_ret
    exact ⟨rfl, HB5.out⟩
  simp only [if_neg hw] at KBE
  have HWS := hid hw
  clear hw
  go_wp2_with fail
  refine KBE.out.mono ?_
  rintro e w4 ⟨A5, c5, rfl, g1, g2, g3, g4, g5, hb4⟩
  have HB4 := hid (HB3.out.trans (hb4.mono HB3.out.size))
  have HL := hid g1
  unfold maxLen at g3
  have HT4 := hid (HT3.out.keep hb4)
  clear g1 g4 g5 hb4 KBE
  go_wp2
  go_loopw [6] (fun i wr => ∃ k : Nat, k ≤ cs.length ∧ i = .int .i64 k ∧ Below w4.heap.size w4 wr) (fun i _ => cs.length - (intOf i).toNat)
  case atStart => exact ⟨0, Nat.zero_le _, rfl, Below.refl _ _⟩
  case round =>
    obtain ⟨k, hk, rfl, hbr⟩ := hrel
    by_cases hlt : k < cs.length
    · have hkI : (k : Int) < (cs.length : Int) := by omega
      have HBR := hid hbr
      clear hbr
      go_wp2
      go_loopw [7] (fun i wr => ∃ m : Nat, m ≤ colsOf cs ∧ i = .int .i64 m ∧ Below w4.heap.size w4 wr) (fun i _ => colsOf cs - (intOf i).toNat)
      case atStart => exact ⟨0, Nat.zero_le _, rfl, HBR.out⟩
      case round =>
        obtain ⟨m, hm, rfl, hbr⟩ := hrel
        have hbl : (bestOf b cs fs cs.length zeroS).length = cs.length := bestOf_len _ _
        obtain ⟨cells, hck⟩ : ∃ cells, cs[k]? = some cells := ⟨_, List.getElem?_eq_getElem hlt⟩
        obtain ⟨xs, hxk⟩ : ∃ xs, (bestOf b cs fs cs.length zeroS)[k]? = some xs := ⟨_, List.getElem?_eq_getElem (by omega)⟩
        obtain ⟨hxl, hnear⟩ := best_near hb1 HWS.out hxk hck
        have hcl := OK.out.okc.row cells (List.mem_of_getElem? hck)
        obtain ⟨a5, A6, c6, rfl, p0, p1, p2, p3, p4⟩ := (HL.out.at_ hbr) k xs hxk
        unfold maxLen at p3
        rw [hxl, hcl] at p1 p2
        by_cases hltm : m < colsOf cs
        · have hmI : (m : Int) < (colsOf cs : Int) := by omega
          obtain ⟨y, hy⟩ : ∃ y, xs[m]? = some y := ⟨_, List.getElem?_eq_getElem (by omega)⟩
          obtain ⟨x, hx⟩ : ∃ x, cells[m]? = some x := ⟨_, List.getElem?_eq_getElem (by omega)⟩
          obtain ⟨ae, rfl, p5, p6⟩ := p4 m y hy
          have hyb := best_bound OK.out hxk hlt y (List.mem_of_getElem? hy)
          obtain ⟨z1, z2, z3⟩ := hnear m x y hx hy
          have hxb := OK.out.okc.cell cells (List.mem_of_getElem? hck) x (List.mem_of_getElem? hx)
          obtain ⟨lo, hlo⟩ : ∃ lo, lo = max 0 (y - b + 1) := ⟨_, rfl⟩
          obtain ⟨hi, hhi⟩ : ∃ hi, hi = y + b - 1 := ⟨_, rfl⟩
          have hl1 : lo ≤ x := by omega
          have hh1 : x ≤ hi := by omega
          have KL : Hid (∀ W, Calls Try.prog 26 #[.int .i64 b, .int .i64 y] W fun e w' => e = .returned (.tuple #[.agg #[.int .i64 lo, .int .i64 hi], .int .i64 0]) ∧ Below W.heap.size W w') := hid fun W => by
            have h1 : withinB b 2 100 = true := by simp [withinB]; omega
            have h2 : withinB y 0 10100 = true := by simp [withinB]; omega
            have := learn_any b y W
            rw [h1, if_neg (by decide), h2, if_neg (by simp [z1]), ← hlo, ← hhi] at this
            exact this
          have HTB := hid (HT4.out.keep hbr)
          have HC1 : Hid (∀ W2 : World, Below wr.heap.size wr W2 → W2.cell? (a5.add k) = some (.slice (some ae) (colsOf cs) c6)) := hid fun W2 hW => (hW.cell (by rw [block_of_add]; have := block_lt_of_cell p1; rwa [block_of_add] at this)).trans p1
          have HC2 : Hid (∀ W2 : World, Below wr.heap.size wr W2 → W2.cell? (ae.add m) = some (.int .i64 y)) := hid fun W2 hW => (hW.cell (by rw [block_of_add]; exact p5)).trans p6
          have HP := hid (And.intro hck (And.intro hx hbr))
          have hxm : (m : Int) < (c6 : Int) := by omega
          clear hnear p4 p5 p6 hy hx hck hxk hbr hlo hhi z1
          go_wp2
          clear p1
          refine (wpIn_wide (n := 0)).1 ?_
          refine wpIn_region_each2 15 (fun i v W' => match i with | 0 => v = .pointer (some ⟨w.heap.size, 0, none⟩) | 1 => v = .int .i64 b | 2 => v = .slice (some a5) cs.length c5 | 3 => v = .int .i64 (k : Int) | 4 => v = .pointer (some (a5.add k)) | 5 => v = .slice (some ae) (colsOf cs) c6 | 6 => v = .int .i64 (m : Int) | 7 => v = .pointer (some (ae.add m)) | 8 => v = .int .i64 y | 9 => v = .tuple #[.agg #[.int .i64 lo, .int .i64 hi], .int .i64 0] | 10 => v = .tuple #[.agg #[.int .i64 lo, .int .i64 hi], .int .i64 0] | 11 => v = .agg #[.int .i64 lo, .int .i64 hi] | 12 => v = .int .i64 0 | _ => True) (fun A B => Below wr.heap.size A B) (KnPh wr.heap.size lo hi) (by kernel_rfl) (by kernel_rfl) ?_ (fun h k => h.trans k) ⟨rfl, rfl, rfl, Nat.le_refl _, fun _ _ => rfl⟩ (by unfold KnPh; rw [getD_replicate_false]; intro h; cases h) (by kernel_rfl) ?_ ?_
          · intro i v W1 W2 hb h; exact h
          · refine ⟨?_, ?_, ?_, ?_, ?_, ?_, ?_, ?_, ?_, ?_, ?_, ?_, ?_, ?_, ?_, trivial⟩
            · -- 0
              intro li a1 W2 hA K hK
              have e1 := hA.par 1 (by kernel_rfl)
              refine opStep none 0 rfl rfl (fun c hc => by cases hc) ?_
              go_simp
              exact hK _ _ rfl (Below.refl _ _) (knph_other hA.ph (by decide) (by decide) (by decide) (Below.refl _ _))
            · -- 1
              intro li a1 W2 hA K hK
              have e44 : a1.tmps.getD 44 undef = .pointer (some ⟨w.heap.size, 0, none⟩) := hA.val 0 44 (by kernel_rfl) (by kernel_rfl)
              obtain ⟨q1, q2, q3⟩ := (HTB.out.keep hA.st).c3
              refine opStep none 0 rfl rfl (fun c hc => by cases hc) ?_
              go_simp
              exact hK _ _ rfl (Below.refl _ _) (knph_other hA.ph (by decide) (by decide) (by decide) (Below.refl _ _))
            · -- 2
              intro li a1 W2 hA K hK
              have e3 := hA.par 3 (by kernel_rfl)
              refine opStep none 0 rfl rfl (fun c hc => by cases hc) ?_
              go_simp
              exact hK _ _ rfl (Below.refl _ _) (knph_other hA.ph (by decide) (by decide) (by decide) (Below.refl _ _))
            · -- 3
              intro li a1 W2 hA K hK
              have e6 := hA.par 6 (by kernel_rfl)
              refine opStep none 0 rfl rfl (fun c hc => by cases hc) ?_
              go_simp
              exact hK _ _ rfl (Below.refl _ _) (knph_other hA.ph (by decide) (by decide) (by decide) (Below.refl _ _))
            · -- 4
              intro li a1 W2 hA K hK
              have e46 : a1.tmps.getD 46 undef = .slice (some a5) cs.length c5 := hA.val 2 46 (by kernel_rfl) (by kernel_rfl)
              have e47 : a1.tmps.getD 47 undef = .int .i64 (k : Int) := hA.val 3 47 (by kernel_rfl) (by kernel_rfl)
              refine opStep none 0 rfl rfl (fun c hc => by cases hc) ?_
              go_simp
              exact hK _ _ rfl (Below.refl _ _) (knph_other hA.ph (by decide) (by decide) (by decide) (Below.refl _ _))
            · -- 5
              intro li a1 W2 hA K hK
              have e48 : a1.tmps.getD 48 undef = .pointer (some (a5.add k)) := hA.val 4 48 (by kernel_rfl) (by kernel_rfl)
              have q1 := HC1.out W2 hA.st
              refine opStep none 0 rfl rfl (fun c hc => by cases hc) ?_
              go_simp
              exact hK _ _ rfl (Below.refl _ _) (knph_other hA.ph (by decide) (by decide) (by decide) (Below.refl _ _))
            · -- 6
              intro li a1 W2 hA K hK
              have e7 := hA.par 7 (by kernel_rfl)
              refine opStep none 0 rfl rfl (fun c hc => by cases hc) ?_
              go_simp
              exact hK _ _ rfl (Below.refl _ _) (knph_other hA.ph (by decide) (by decide) (by decide) (Below.refl _ _))
            · -- 7
              intro li a1 W2 hA K hK
              have e49 : a1.tmps.getD 49 undef = .slice (some ae) (colsOf cs) c6 := hA.val 5 49 (by kernel_rfl) (by kernel_rfl)
              have e50 : a1.tmps.getD 50 undef = .int .i64 (m : Int) := hA.val 6 50 (by kernel_rfl) (by kernel_rfl)
              refine opStep none 0 rfl rfl (fun c hc => by cases hc) ?_
              go_simp
              exact hK _ _ rfl (Below.refl _ _) (knph_other hA.ph (by decide) (by decide) (by decide) (Below.refl _ _))
            · -- 8
              intro li a1 W2 hA K hK
              have e51 : a1.tmps.getD 51 undef = .pointer (some (ae.add m)) := hA.val 7 51 (by kernel_rfl) (by kernel_rfl)
              have q1 := HC2.out W2 hA.st
              refine opStep none 0 rfl rfl (fun c hc => by cases hc) ?_
              go_simp
              exact hK _ _ rfl (Below.refl _ _) (knph_other hA.ph (by decide) (by decide) (by decide) (Below.refl _ _))
            · -- 9
              intro li a1 W2 hA K hK
              have e45 : a1.tmps.getD 45 undef = .int .i64 b := hA.val 1 45 (by kernel_rfl) (by kernel_rfl)
              have e52 : a1.tmps.getD 52 undef = .int .i64 y := hA.val 8 52 (by kernel_rfl) (by kernel_rfl)
              refine opStep none 0 rfl rfl (fun c hc => by cases hc) ?_
              go_simp
              refine (KL.out W2).mono ?_
              rintro e W3 ⟨rfl, hb3⟩
              exact hK _ _ rfl (hb3.mono hA.st.size) (knph_other hA.ph (by decide) (by decide) (by decide) hb3)
            · -- 10
              intro li a1 W2 hA K hK
              have e53 : a1.tmps.getD 53 undef = .tuple #[.agg #[.int .i64 lo, .int .i64 hi], .int .i64 0] := hA.val 9 53 (by kernel_rfl) (by kernel_rfl)
              refine opStep none 0 rfl rfl (fun c hc => by cases hc) ?_
              go_simp
              exact hK _ _ rfl (Below.refl _ _) (knph_other hA.ph (by decide) (by decide) (by decide) (Below.refl _ _))
            · -- 11
              intro li a1 W2 hA K hK
              have e43 : a1.tmps.getD 43 undef = .tuple #[.agg #[.int .i64 lo, .int .i64 hi], .int .i64 0] := hA.val 10 43 (by kernel_rfl) (by kernel_rfl)
              refine opStep none 0 rfl rfl (fun c hc => by cases hc) ?_
              go_simp
              exact hK _ _ rfl (Below.refl _ _) (knph_other hA.ph (by decide) (by decide) (by decide) (Below.refl _ _))
            · -- 12
              intro li a1 W2 hA K hK
              have e43 : a1.tmps.getD 43 undef = .tuple #[.agg #[.int .i64 lo, .int .i64 hi], .int .i64 0] := hA.val 10 43 (by kernel_rfl) (by kernel_rfl)
              refine opStep none 0 rfl rfl (fun c hc => by cases hc) ?_
              go_simp
              exact hK _ _ rfl (Below.refl _ _) (knph_other hA.ph (by decide) (by decide) (by decide) (Below.refl _ _))
            · -- 13
              intro li a1 W2 hA K hK
              have hs2 := hA.st.size
              have hnl : li.getD 14 false = false := by
                cases hl' : li.getD 14 false
                · rfl
                · have := hA.past hl' 13 (by kernel_rfl); rw [hA.new] at this; cases this
              refine opStep none 0 rfl rfl (fun c hc => by cases hc) ?_
              go_simp
              refine hK _ _ trivial ((Below.refl _ _).alloc hs2 _) ?_
              intro _
              refine ⟨W2.heap.size, put_getD_same (by rw [hA.size]; show 8 < 85; decide), hs2, ?_⟩
              rw [getD_set_oth (by decide), hnl, if_neg (by decide)]
              exact Blk.new _ _ _
            · -- 14
              intro li a1 W2 hA K hK
              have e54 : a1.tmps.getD 54 undef = .agg #[.int .i64 lo, .int .i64 hi] := hA.val 11 54 (by kernel_rfl) (by kernel_rfl)
              obtain ⟨g, e8, hg, hbk⟩ := hA.ph (hA.has 13 (by kernel_rfl))
              rw [hA.new, if_neg (by decide)] at hbk
              obtain ⟨q1, q2⟩ := hbk.c2
              have f0 := hbk.frozen 0
              have f1 := hbk.frozen 1
              have hgl := hbk.lt
              refine opStep none 0 rfl rfl (fun c hc => by cases hc) ?_
              go_simp
              refine hK undef _ trivial (((Below.refl _ _).setCell (p := ⟨g, 0, none⟩) hg _).setCell (p := ⟨g, 1, none⟩) hg _) ?_
              intro _
              refine ⟨g, e8, hg, ?_⟩
              rw [getD_set_eq (by rw [hA.lsize]; decide), if_pos rfl]
              exact (hbk.set_ 0 _).set_ 1 _
          · intro li a1 W2 hD
            obtain ⟨g, e8, hg, hbk⟩ := hD.ph (hD.all 13 (by decide))
            rw [hD.all 14 (by decide), if_pos rfl] at hbk
            have e55 : a1.tmps.getD 55 undef = .int .i64 0 := hD.val 12 55 (by kernel_rfl) (by kernel_rfl)
            have hst := hD.st
            have hkp2 := hD.keeps (ds := [44, 45, 46, 47, 48, 49, 50, 51, 52, 53, 43, 54, 55, 8, 9]) (by kernel_rfl)
            have hds := hD.size
            have hs85 : a1.tmps.size = 85 := hD.size
            have hdd := hD.defers
            refine tail_val (i := 15) (v := .int .i64 0) (W' := W2) none 0 rfl rfl rfl (fun c hc => by cases hc) (by go_simp) (by rw [hs85]; decide) ?_
            intro a4 s4 d4 f4 o4
            have hkp4 := keeps_then hkp2 o4 (by decide)
            have e := act_mix [44, 45, 46, 47, 48, 49, 50, 51, 52, 53, 43, 54, 55, 8, 9] (s4.trans hds) (d4.trans hdd) (fun i _ hc => hkp4 i hc)
            have f9 : (fun i => a4.tmps.getD i undef) 9 = .int .i64 0 := f4
            have f8 : (fun i => a4.tmps.getD i undef) 8 = .pointer (some ⟨g, 0, none⟩) := (o4 8 (by decide)).trans e8
            generalize (fun i => a4.tmps.getD i undef) = g' at e f8 f9
            refine wpListIn_nil ?_
            rw [e]
            have hbW := HP.out.2.2.trans (hst.mono HP.out.2.2.size)
            have hBW := HB4.out.trans (hbW.mono HB4.out.size)
            obtain ⟨a9, A9, c9, rfl, r0, r1, r2, r3, r4⟩ := (HH.out.at_ hBW).ic k cells HP.out.1
            obtain ⟨ax, rfl, r5, r6⟩ := r4 m x HP.out.2.1
            rw [hcl] at r1 r2
            unfold maxLen at r3
            have HBW := hid hbW
            obtain ⟨q1, q2, q3⟩ := xt_c3 (HTB.out.keep hst)
            have q4 := xt_cell r1
            have q5 := xt_cell r6
            have q6 := xt_cell hbk.c2.1
            have q7 := xt_cell hbk.c2.2
            have hd1 : decide (x < lo) = false := by simp; omega
            have hd2 : decide (hi < x) = false := by simp; omega
            clear e hD hkp2 hkp4 s4 d4 f4 o4 e8 e55 hds hdd hs85 hbk hst hbW hBW r1 r4 r6 KL HC1 HC2
            simp only [mix, List.contains_cons, List.contains_nil, Nat.reduceAdd, Nat.reduceBEq, Bool.or_false, Bool.or_true, cond_true, cond_false, f8, f9]
            go_wp2
            refine wp_region_quiet_xt (by kernel_rfl) (by kernel_rfl) ?_
            repeat go_big_quiet_step (fail)
            refine wpQuiet_nil ?_
            intro W7 hw7
            have HW7 := hid (HBW.out.trans ((of_xt hw7).mono HBW.out.size))
            clear hw7 q1 q2 q3 q4 q5 q6 q7
            go_wp2
            go_roundw
            case rel => exact ⟨m + 1, by omega, by go_num, HW7.out⟩
            case measure => first | (simp [intOf]; done) | (simp [intOf]; omega)
        · have hmI : decide ((m : Int) < (colsOf cs : Int)) = false := by simp; omega
          have hmN : decide (m < colsOf cs) = false := by simp; omega
          have HBR2 := hid hbr
          clear hnear p4 hck hxk hbr
          go_wp2
          go_roundw
          case rel => exact ⟨k + 1, by omega, by go_num, HBR2.out⟩
          case measure => first | (simp [intOf]; done) | (simp [intOf]; omega)
    · have hkI : decide ((k : Int) < (cs.length : Int)) = false := by simp; omega
      have HBR := hid (HB4.out.trans (hbr.mono HB4.out.size))
      clear hbr
      go_wp2_with fail
      refine (KA.out _).mono ?_
      rintro e w7 ⟨rfl, hb7⟩
      have HB7 := hid (HBR.out.trans (hb7.mono HBR.out.size))
      clear hb7
      go_wp2
      go_ret
      exact ⟨rfl, HB7.out⟩

open Go.ChangeShapes Go.WideShapes Go.ChangeAt in
set_option maxRecDepth 100000 in
theorem known_lifted (os : Os) (started : os.Started) (H : Type) (enc : TypeId × Value → H) :
    ReturnsInHanded {} Try.checked os 7 .any (Rows.roundKnownSpec.pre6 enc Try.prog Try.f7 Rows.roundKnownRow.domain false) (Rows.roundKnownSpec.post enc Try.prog Try.f7 false true false false) := by
  refine returnsInHanded_of_change (C := Try.checked) own started (by kernel_rfl) Try.func7
    (ChangeSpec.witness6 (enc := enc) (C := Try.checked) false ⟨#[], #[.agg #[.int .i64 0, .slice none 0 0, .slice none 0 0]], []⟩ 8 (by kernel_rfl) (by kernel_rfl) (by kernel_rfl) (by kernel_rfl)) ?_
  intro W base args ds gs before hval0 hW hcnd _
  have hval : ∀ (j : Nat) t v, Try.f7.params[j]? = some t → args[j]? = some v → Value.okWide Try.prog W .any base t v := hval0
  have hW' := hW
  obtain ⟨p, q, hA0, hV, rfl, hfz, hnd⟩ := hW
  have hA : DataW.TrodAll enc Try.prog W 0 (fun _ => true) true Try.f7.params.toList args.toList ds p := hA0
  rw [Try.params7] at hA hval
  obtain ⟨v0, vs0, d0, ds0, p0, q0, hargs, rfl, rfl, h0, r0⟩ := trodAll_cons hA
  obtain ⟨rfl, rfl, rfl⟩ := trodAll_nil r0
  obtain rfl : args = #[v0] := by cases args; simp_all
  obtain ⟨rfl, rfl⟩ := trodVars_none hV
  obtain ⟨b0, A, c, cs, A2, c2, fs, rfl, ht⟩ := open_table (hval 0 25 v0 rfl rfl) h0
  refine (known_any b0 A c cs A2 c2 fs W ht).mono fun e W' ⟨he, hb⟩ => ⟨_, he, ?_⟩
  exact law_post laid_out rfl rfl (by kernel_rfl) hW' rfl hb

theorem known_over : Rows.roundKnownRow.holds Try.pinned (OpenSpec.ofChange Rows.roundKnownSpec) :=
  OpenClaim.holds_of_wide 7 Try.f7 rfl rfl rfl rfl rfl rfl rfl ⟨rfl, rfl, rfl, rfl, rfl⟩ rfl rfl rfl rfl rfl (by kernel_rfl) Try.func7 (by kernel_rfl)
    (of_decide_eq_true (by kernel_rfl)) (by unfold Func.isWrapper; first | (rw [if_pos (by decide +kernel)]; kernel_rfl) | (rw [if_neg (by decide +kernel)]; exact ⟨rfl, rfl⟩))
    (fun os started H enc _ => known_lifted os started H enc)
/-- the statement -/
theorem round_known : Rows.RoundKnownSaid := known_over
#print axioms round_known
end Go.Proofs.Ytgoianldiomdoaa
