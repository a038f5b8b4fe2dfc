/- The walks and the plain laws of this part of the program, part 14: what each computes. Conditions stand at each theorem. -/
import Derived.Test.YtlnamjhgbdacbaaGreatK5
import Derived.Test.YtlnamjhgbdacbaaGreatK6
import Derived.Test.YtlnamjhgbdacbaaGreatK13
/- The search for a division, walked. Conditions stand at each theorem. -/
namespace Go.Proofs.YtlnamjhgbdacbaaGreat
open Go.RowKit Go.Shelf

/-- what is next behind a part -/
theorem next_part (s : Nat) (hs : s < 256) (p : Nat) (hp : p ≤ s) (h0 : 0 < p) : bits BinOp.and IntKind.i64 ((p : Int) - 1) (s : Int) = (((p - 1) &&& s : Nat) : Int) := by
  rw [show (p : Int) - 1 = ((p - 1 : Nat) : Int) by omega]
  exact and_fact s hs (p - 1) (by omega)
theorem next_facts (s p : Nat) (h0 : 0 < p) : ((p - 1) &&& s) &&& s = (p - 1) &&& s ∧ (p - 1) &&& s ≤ s ∧ (p - 1) &&& s < p := by
  refine ⟨by rw [Nat.and_assoc, Nat.and_self], Nat.and_le_right, ?_⟩
  have := Nat.and_le_left (n := p - 1) (m := s)
  omega
set_option maxRecDepth 100000 in
set_option maxHeartbeats 8000000 in
theorem wsplit_step {g mp Z bb ab lb sb n : Nat} {m : WMD} {A A2 : Option Addr} {c c2 : Nat} {T F : Nat → Nat → Int} {lim : Int} (ok : OkW m) (hT : ∀ x y, x < m.N → y < m.N → 0 ≤ T x y ∧ T x y ≤ farI) (hn : n < 256) (s : Nat) (hsn : s ≤ n) (hsN : ∀ p ∈ bl s, p < m.N)
    (ih : ∀ s', s' < s → (∀ p ∈ bl s', p < m.N) → ∀ w, SpM g mp Z bb ab lb sb n m A c A2 c2 T F lim w → Calls Tryz.prog 102 #[.int .i64 (s' : Int), .pointer (some ⟨bb, 0, none⟩), .pointer (some ⟨ab, 0, none⟩), .pointer (some ⟨lb, 0, none⟩), .pointer (some ⟨sb, 0, none⟩)] w (GivesSp g mp Z bb ab lb sb n m A c A2 c2 T F lim s' w))
    (w : World) (h : SpM g mp Z bb ab lb sb n m A c A2 c2 T F lim w) :
    Calls Tryz.prog 102 #[.int .i64 (s : Int), .pointer (some ⟨bb, 0, none⟩), .pointer (some ⟨ab, 0, none⟩), .pointer (some ⟨lb, 0, none⟩), .pointer (some ⟨sb, 0, none⟩)] w (GivesSp g mp Z bb ab lb sb n m A c A2 c2 T F lim s w) := by
  have hs256 : s < 256 := by omega
  have hsnI : (s : Int) < ((n : Int) + 1) := by omega
  have hsnN : s < n + 1 := by omega
  have HSN := hid hsN
  have HT := hid hT
  have OK := hid ok
  have IH := hid ih
  have heq := fun (t : Nat) => fun (B : Option Addr) (k j : Nat) (W : World) => Lib.run_eql_slice_nil (P := Tryz.prog) W t 111 B k j 0 0
  have heq1 := fun (B : Option Addr) (k j : Nat) (W : World) => Lib.run_eql_slice_nil (P := Tryz.prog) W 108 111 B k j 0 0 Tryz.underlying108
  have hneq1 := fun (B : Option Addr) (k j : Nat) (W : World) => run_neq_slice_nil_any (P := Tryz.prog) W 108 111 B k j 0 0 Tryz.underlying108
  clear heq hsN hT ok ih
  obtain ⟨A0, L0, c0, hc0, hs0, hd0⟩ := h.cell hsn
  have b1 := h.b1.c1
  have HI := hid (show SpI g mp Z bb ab lb sb n m A c A2 c2 T F lim w w from ⟨h, MChg.refl⟩)
  have H0 := hid (And.intro hs0 hd0)
  clear h hs0 hd0
  by_cases h0 : s = 0
  · have hz : ((s : Int) == 0) = true := by rw [h0]; rfl
    have HF := hid (show GivesSp g mp Z bb ab lb sb n m A c A2 c2 T F lim s w (.returned (.slice A0 L0.length c0)) w from ⟨A0, L0, c0, rfl, H0.out.1, H0.out.2, HI.out.mem, HI.out.ch⟩)
    clear h0
    go_enter Tryz.func102, Tryz.ntmps102
    go_wp2
    go_ret
    exact HF.out
  have hz : ((s : Int) == 0) = false := by simp; exact h0
  cases A0 with
  | some a0 =>
    have HF := hid (show GivesSp g mp Z bb ab lb sb n m A c A2 c2 T F lim s w (.returned (.slice (some a0) L0.length c0)) w from ⟨some a0, L0, c0, rfl, H0.out.1, H0.out.2, HI.out.mem, HI.out.ch⟩)
    go_enter Tryz.func102, Tryz.ntmps102
    go_wp2
    go_ret
    exact HF.out
  | none =>
    obtain ⟨hL0, rfl⟩ := H0.out.1.no rfl
    have hneg : IntKind.i64.wrap (-(s : Int)) = -(s : Int) := IntWalk.i64_in _ (by omega)
    obtain ⟨fs, hfs⟩ : ∃ fs, bits BinOp.and IntKind.i64 (s : Int) (-(s : Int)) = fs := ⟨_, rfl⟩
    have hL0l : L0.length = 0 := by rw [hL0]; rfl
    rw [hL0l] at hc0
    clear H0 hL0 hL0l
    go_enter Tryz.func102, Tryz.ntmps102
    go_wp2
    clear hc0 b1 hneg hfs
    go_loopw [8] (fun v W => ∃ p : Nat, v = .int .i64 (p : Int) ∧ p &&& s = p ∧ p ≤ s ∧ SpI g mp Z bb ab lb sb n m A c A2 c2 T F lim w W) (fun v _ => (intOf v).toNat)
    case atStart => exact ⟨s, rfl, Nat.and_self s, Nat.le_refl _, HI.out⟩
    case round =>
      clear HI
      obtain ⟨p, rfl, hps, hple, hI⟩ := hrel
      have HI := hid hI
      have HPS := hid hps
      clear hI hps
      by_cases hp0 : p = 0
      · subst hp0
        have hg0 : decide ((0 : Int) < ((0 : Nat) : Int)) = false := by decide
        obtain ⟨A9, L9, c9, hc9, hs9, hd9⟩ := HI.out.mem.cell hsn
        have b1 := HI.out.mem.b1.c1
        have HF := hid (show GivesSp g mp Z bb ab lb sb n m A c A2 c2 T F lim s w (.returned (.slice A9 L9.length c9)) wr from ⟨A9, L9, c9, rfl, hs9, hd9, HI.out.mem, HI.out.ch⟩)
        clear hs9 hd9 HI
        go_wp2
        go_ret
        exact HF.out
      · have hgp : (0 : Int) < (p : Int) := by omega
        have hp256 : p < 256 := by omega
        have hpm : IntKind.i64.wrap ((p : Int) - 1) = (p : Int) - 1 := IntWalk.i64_in _ (by omega)
        have hnx := next_part s hs256 p hple (by omega)
        have HNF := hid (next_facts s p (by omega))
        have HBP := hid (show ∀ q ∈ bl p, q < m.N from fun q hq => HSN.out q (bl_mem.2 ⟨(bl_mem.1 hq).1, sub_has HPS.out (bl_mem.1 hq).2⟩))
        cases hb0 : (bits BinOp.and IntKind.i64 (p : Int) fs == 0)
        · obtain ⟨lo, hlo⟩ : ∃ lo, lonG m T p = lo := ⟨_, rfl⟩
          have HLO := hid hlo
          clear hlo
          go_upto_region 7 with (fail)
          refine (wpIn_wide (n := 0)).1 ?_
          refine wpIn_region_each2 10 (fun i v W' => match i with | 0 => v = .int .i64 (p : Int) | 1 => v = .int .i64 fs | 2 => v = .int .i64 (bits BinOp.and IntKind.i64 (p : Int) fs) | 3 => v = .bool false | 4 => v = .bool false | 5 => v = .pointer (some ⟨g, 0, none⟩) | 6 => v = .int .i64 (p : Int) | 7 => v = .int .i64 lo | 8 => v = .int .i64 lim | 9 => v = .bool (decide (lim < lo)) | _ => True) (fun _ _ => True) (fun _ _ W => SpI g mp Z bb ab lb sb n m A c A2 c2 T F lim w W) (by kernel_rfl) (by kernel_rfl) ?_ (fun _ _ => trivial) trivial (HI.out.keep ⟨rfl, rfl, rfl, Nat.le_refl _, fun _ _ => rfl⟩) (by kernel_rfl) ?_ ?_
          · intro i v W1 W2 hb h; exact h
          · refine ⟨?_, ?_, ?_, ?_, ?_, ?_, ?_, ?_, ?_, ?_, trivial⟩
            · -- 0
              intro li a1 W2 hA K hK
              have e8 := hA.par 8 (by kernel_rfl)
              refine opStep none 0 rfl rfl (fun c hc => by cases hc) ?_
              go_simp
              exact hK _ _ rfl trivial (hA.ph)
            · -- 1
              intro li a1 W2 hA K hK
              have e7 := hA.par 7 (by kernel_rfl)
              refine opStep none 0 rfl rfl (fun c hc => by cases hc) ?_
              go_simp
              exact hK _ _ rfl trivial (hA.ph)
            · -- 2
              intro li a1 W2 hA K hK
              have e34 : a1.tmps.getD 34 undef = .int .i64 (p : Int) := hA.val 0 34 (by kernel_rfl) (by kernel_rfl)
              have e35 : a1.tmps.getD 35 undef = .int .i64 fs := hA.val 1 35 (by kernel_rfl) (by kernel_rfl)
              refine opStep none 0 rfl rfl (fun c hc => by cases hc) ?_
              go_simp
              exact hK _ _ rfl trivial (hA.ph)
            · -- 3
              intro li a1 W2 hA K hK
              have e36 : a1.tmps.getD 36 undef = .int .i64 (bits BinOp.and IntKind.i64 (p : Int) fs) := hA.val 2 36 (by kernel_rfl) (by kernel_rfl)
              refine opStep none 0 rfl rfl (fun c hc => by cases hc) ?_
              go_simp
              exact hK _ _ rfl trivial (hA.ph)
            · -- 4
              intro li a1 W2 hA K hK
              have e37 : a1.tmps.getD 37 undef = .bool false := hA.val 3 37 (by kernel_rfl) (by kernel_rfl)
              refine opStep none 0 rfl rfl (fun c hc => by cases hc) ?_
              go_simp
              exact hK _ _ rfl trivial (hA.ph)
            · -- 5
              intro li a1 W2 hA K hK
              have e2 := hA.par 2 (by kernel_rfl)
              have b2 := hA.ph.mem.b2.c1
              have b3 := hA.ph.mem.b3.c1
              refine opStep none 0 rfl (wanted_yes (j := 4) (d := 38) (b := false) rfl (by kernel_rfl) (hA.val 4 38 (by kernel_rfl) (by kernel_rfl))) (fun c hc => by cases hc) ?_
              go_simp
              exact hK _ _ rfl trivial (hA.ph)
            · -- 6
              intro li a1 W2 hA K hK
              have e8 := hA.par 8 (by kernel_rfl)
              refine opStep none 0 rfl (wanted_yes (j := 4) (d := 38) (b := false) rfl (by kernel_rfl) (hA.val 4 38 (by kernel_rfl) (by kernel_rfl))) (fun c hc => by cases hc) ?_
              go_simp
              exact hK _ _ rfl trivial (hA.ph)
            · -- 7
              intro li a1 W2 hA K hK
              have e39 : a1.tmps.getD 39 undef = .pointer (some ⟨g, 0, none⟩) := hA.val 5 39 (by kernel_rfl) (by kernel_rfl)
              have e40 : a1.tmps.getD 40 undef = .int .i64 (p : Int) := hA.val 6 40 (by kernel_rfl) (by kernel_rfl)
              refine opStep none 0 rfl (wanted_yes (j := 4) (d := 38) (b := false) rfl (by kernel_rfl) (hA.val 4 38 (by kernel_rfl) (by kernel_rfl))) (fun c hc => by cases hc) ?_
              go_simp
              refine (wlongest_any OK.out hA.ph.mem.gm HT.out p hp256 HBP.out W2 hA.ph.mem.at_ hA.ph.mem.tm hA.ph.mem.wk (fun a ea => (hA.ph.mem.wz a ea).1)).mono ?_
              rintro e W9 ⟨he, hc9, ht9⟩
              rw [HLO.out] at he
              subst he
              exact hK _ _ rfl trivial (hA.ph.chg hc9 ht9)
            · -- 8
              intro li a1 W2 hA K hK
              have e3 := hA.par 3 (by kernel_rfl)
              have b2 := hA.ph.mem.b2.c1
              have b3 := hA.ph.mem.b3.c1
              refine opStep none 0 rfl (wanted_yes (j := 4) (d := 38) (b := false) rfl (by kernel_rfl) (hA.val 4 38 (by kernel_rfl) (by kernel_rfl))) (fun c hc => by cases hc) ?_
              go_simp
              exact hK _ _ rfl trivial (hA.ph)
            · -- 9
              intro li a1 W2 hA K hK
              have e41 : a1.tmps.getD 41 undef = .int .i64 lo := hA.val 7 41 (by kernel_rfl) (by kernel_rfl)
              have e42 : a1.tmps.getD 42 undef = .int .i64 lim := hA.val 8 42 (by kernel_rfl) (by kernel_rfl)
              refine opStep none 0 rfl (wanted_yes (j := 4) (d := 38) (b := false) rfl (by kernel_rfl) (hA.val 4 38 (by kernel_rfl) (by kernel_rfl))) (fun c hc => by cases hc) ?_
              go_simp
              exact hK _ _ rfl trivial (hA.ph)
          intro li a1 W2 hD
          have e38 : a1.tmps.getD 38 undef = .bool false := hD.val 4 38 (by kernel_rfl) (by kernel_rfl)
          have e43 : a1.tmps.getD 43 undef = .bool (decide (lim < lo)) := hD.val 9 43 (by kernel_rfl) (by kernel_rfl)
          have hsz9 : a1.tmps.size = 85 := hD.size
          have hkp2 := hD.keeps (ds := [34, 35, 36, 37, 38, 39, 40, 41, 42, 43, 44]) (by kernel_rfl)
          refine tail_val (i := 10) (v := .bool (decide (lim < lo))) (W' := W2) none 0 rfl rfl rfl (fun c hc => by cases hc) (by go_simp) (by rw [hsz9]; decide) ?_
          intro a3 s3 d3 f3 o3
          have hkp3 := keeps_then hkp2 o3 (by decide)
          have e := act_mix [34, 35, 36, 37, 38, 39, 40, 41, 42, 43, 44] (s3.trans hD.size) (d3.trans hD.defers) (fun i _ hc => hkp3 i hc)
          have f6 : (fun i => a3.tmps.getD i undef) 44 = .bool (decide (lim < lo)) := f3
          generalize (fun i => a3.tmps.getD i undef) = g' at e f6
          refine wpListIn_nil ?_
          rw [e]
          have HPW := hid hD.ph
          clear e hD hkp2 hkp3 s3 d3 f3 o3 e38 e43 hsz9 HI
          simp only [mix, List.contains_cons, List.contains_nil, Nat.reduceAdd, Nat.reduceBEq, Bool.or_false, Bool.or_true, cond_true, cond_false, f6]
          clear f6
          generalize W2 = W5 at *
          cases hlt9 : decide (lim < lo)
          · have hwb := wsub_fact s hs256 p hp256
            have hwl := wsub_lt s hs256 p hp256 HPS.out hp0
            have hws := hwb.1
            have HWB := hid (And.intro hwb.2 hwl)
            have KI := hid (IH.out (wsub s p) hwl (fun q hq => HSN.out q (bl_mem.2 ⟨(bl_mem.1 hq).1, by have := (bl_mem.1 hq).2; rw [wsub_bit, Bool.and_eq_true] at this; exact this.1⟩)) W5 HPW.out.mem)
            have b4 := HPW.out.mem.b4.c1
            clear hwb hwl
            go_wp2_with fail
            refine KI.out.mono ?_
            rintro e W6 ⟨A1, L1, c1, rfl, hs1, hd1, hm1, hc1⟩
            have H6 := hid (HPW.out.go hm1 hc1)
            clear KI b4 hm1 hc1 HPW hws
            by_cases hsp : s = p
            · have hspB : ((s : Int) != (p : Int)) = false := by simp [hsp]
              have hA1 : A1 = none := hd1.elim id fun e => by rw [← hsp, wsub_self] at e; exact absurd rfl e.1
              subst hA1
              obtain ⟨hL1, hc1⟩ := hs1.no rfl
              have hl1 : L1.length ≤ 256 := by rw [hL1]; simp
              have HO := hid (show SetsAt W6 none L1 c1 ∧ True ∧ L1.length ≤ 256 from ⟨hs1, trivial, hl1⟩)
              have HDV := hid (show Div m T lim s (L1 ++ [p]) from .snoc (by rw [hL1, ← hsp, wsub_self]; exact .nil) HPS.out hp0 hp256 (by rw [HLO.out]; have := of_decide_eq_false hlt9; omega))
              obtain ⟨B6, hB6⟩ : ∃ B6, W6.heap.size = B6 := ⟨_, rfl⟩
              have HB6 := hid hB6
              clear hs1 hd1 hL1 hc1 hsp hB6
              obtain ⟨Ax, Lx, cx, hcx, hsx, _⟩ := H6.out.mem.cell hsn
              have b1 := H6.out.mem.b1.c1
              have hwl : IntKind.i64.wrap ((L1.length : Int) + 1) = (L1.length : Int) + 1 := IntWalk.i64_in _ (by omega)
              cases Ax with
              | none =>
                clear hsx
                go_wp2
                clear hcx b1 hwl
                refine (wpIn_wide (n := 0)).1 ?_
                refine wpIn_region_each2 7 (fun i v W' => match i with | 0 => v = .slice (some ⟨Z, 0, none⟩) (n + 1) (n + 1) | 1 => v = .int .i64 (s : Int) | 2 => v = .slice none L1.length c1 | 4 => v = .int .i64 (p : Int) | _ => True) (fun _ _ => True) (fun li a' W => PhA B6 L1 p W6 li a' W) (by kernel_rfl) (by kernel_rfl) ?_ (fun _ _ => trivial) trivial (PhA.start HB6.out) (by kernel_rfl) ?_ ?_
                · intro i v W1 W2 hb h; exact h
                · refine ⟨?_, ?_, ?_, ?_, ?_, ?_, ?_, trivial⟩
                  · -- 0
                    intro li a1 W2 hA K hK
                    have e1 := hA.par 1 (by kernel_rfl)
                    have q1 := (H6.out.mem.keep (hA.ph.bel.mono (Nat.le_of_eq HB6.out))).b1.c1
                    refine opStep none 0 rfl rfl (fun c hc => by cases hc) ?_
                    go_simp
                    exact hK _ _ rfl trivial (hA.ph.other (by decide) (by decide) (by decide) (by decide) (by decide) (by decide))
                  · -- 1
                    intro li a1 W2 hA K hK
                    have e0 := hA.par 0 (by kernel_rfl)
                    refine opStep none 0 rfl rfl (fun c hc => by cases hc) ?_
                    go_simp
                    exact hK _ _ rfl trivial (hA.ph.other (by decide) (by decide) (by decide) (by decide) (by decide) (by decide))
                  · -- 2
                    intro li a1 W2 hA K hK
                    have e9 := hA.par 9 (by kernel_rfl)
                    refine opStep none 0 rfl rfl (fun c hc => by cases hc) ?_
                    go_simp
                    exact hK _ _ rfl trivial (hA.ph.other (by decide) (by decide) (by decide) (by decide) (by decide) (by decide))
                  · -- 3
                    intro li a1 W2 hA K hK
                    have e75 : a1.tmps.getD 75 undef = .slice none L1.length c1 := hA.val 2 75 (by kernel_rfl) (by kernel_rfl)
                    have hn6 : li.getD 6 false = false := by
                      cases hl' : li.getD 6 false
                      · rfl
                      · have := hA.past hl' 3 (by kernel_rfl); rw [hA.new] at this; cases this
                    refine opStep none 0 rfl rfl (fun c hc => by cases hc) ?_
                    go_simp
                    refine (wclone_any none c1 L1 W2 (HO.out.1.keep (hA.ph.bel.mono (Nat.le_of_eq HB6.out))) (by have := HO.out.2.2; omega)).mono ?_
                    rintro e W9 ⟨v9, rfl, ho9, hb9⟩
                    exact hK _ _ trivial trivial (hA.ph.clo hn6 (by rw [hA.size]; show 76 < 85; decide) ho9 hb9)
                  · -- 4
                    intro li a1 W2 hA K hK
                    have e8 := hA.par 8 (by kernel_rfl)
                    refine opStep none 0 rfl rfl (fun c hc => by cases hc) ?_
                    go_simp
                    exact hK _ _ rfl trivial (hA.ph.other (by decide) (by decide) (by decide) (by decide) (by decide) (by decide))
                  · -- 5
                    intro li a1 W2 hA K hK
                    have e77 : a1.tmps.getD 77 undef = .int .i64 (p : Int) := hA.val 4 77 (by kernel_rfl) (by kernel_rfl)
                    have hn6 : li.getD 6 false = false := by
                      cases hl' : li.getD 6 false
                      · rfl
                      · have := hA.past hl' 5 (by kernel_rfl); rw [hA.new] at this; cases this
                    have e77' := e77
                    rw [Array.getD_eq_getD_getElem?] at e77'
                    refine opStep none 0 rfl rfl (fun c hc => by cases hc) ?_
                    go_simp
                    exact hK _ _ trivial trivial (hA.ph.bld hn6 (by rw [hA.size]; show 78 < 85; decide))
                  · -- 6
                    intro li a1 W2 hA K hK
                    have h3 := hA.has 3 (by kernel_rfl)
                    have h5 := hA.has 5 (by kernel_rfl)
                    have hr3 := hA.ph.r3 hA.new h3
                    obtain ⟨v76, e76⟩ : ∃ v, a1.tmps.getD 76 undef = v := ⟨_, rfl⟩
                    rw [e76] at hr3
                    obtain ⟨gl, e78, hgl⟩ := hA.ph.r5 hA.new h5
                    obtain ⟨i0, hi0, hz0, hz1, hz2⟩ := info_parts set_info
                    obtain ⟨v', w7, hrun, hr7, hg7, _, _⟩ := run_append_own_at (P := Tryz.prog) W2 B6 108 108 111 i0 (.int .i64 0) 1 8 Tryz.underlying108 hi0 hz0 hz1 hz2 rfl (by decide) _ _ _ hr3 ⟨gl, 0, none⟩ 1 1 [.int .i64 (p : Int)] rfl (one_blk hgl) (by intro u hu; simp at hu; subst hu; rfl) (by have := HO.out.2.2; simp only [maxLen]; omega) (by have := HO.out.2.2; omega) hA.ph.sz
                    refine opValue (v := v') none 0 rfl rfl (fun c hc => by cases hc) (W' := w7) (by simp [execOp, resolve, invoke, builtin, Act.eval, e76, e78, hrun, Result.andThen]) ?_
                    exact hK _ _ trivial trivial (hA.ph.app hA.new h3 (by rw [hA.lsize]; decide) (by rw [hA.size]; show 79 < 85; decide) hr7 (by rw [e76]; exact hg7))
                intro li a1 W2 hD
                have hr6 := hD.ph.r6 (hD.all 6 (by decide))
                have hbl6 := hD.ph.bel.mono (Nat.le_of_eq HB6.out)
                have e73 : a1.tmps.getD 73 undef = .slice (some ⟨Z, 0, none⟩) (n + 1) (n + 1) := hD.val 0 73 (by kernel_rfl) (by kernel_rfl)
                have e74 : a1.tmps.getD 74 undef = .int .i64 (s : Int) := hD.val 1 74 (by kernel_rfl) (by kernel_rfl)
                obtain ⟨g6, cap6, ev6⟩ := Go.ownsRow_succ hr6
                have hr6' : W2.ownsRow B6 111 1 (.slice (some ⟨g6, 0, none⟩) (L1.length + 1) cap6) (L1.length + 1) ((intsN (L1 ++ [p])).map (Value.int .i64)) := by rw [← ev6]; exact hr6
                obtain ⟨A6, c6, e6, hs6, _, hne6⟩ := own_sets (L := L1 ++ [p]) (by simp) hr6'
                have HV := hid (show SpV m T lim s (.slice (some ⟨g6, 0, none⟩) (L1.length + 1) cap6) W2 from ⟨A6, L1 ++ [p], c6, e6, hs6, .inr ⟨h0, HDV.out⟩⟩)
                have HN7 := hid (H6.out.put hbl6 HV.out)
                obtain ⟨cs7, hz7, _⟩ := (H6.out.mem.keep hbl6).z
                have zf := hz7.frozen s
                have zl := hz7.lt
                have zc := ((H6.out.mem.keep hbl6).cell hsn)
                obtain ⟨Ay, Ly, cy, zc, _, _⟩ := zc
                have hkp2 := hD.keeps (ds := [73, 74, 75, 76, 77, 78, 79, 80]) (by kernel_rfl)
                have hds := hD.size
                have hsz3 : a1.tmps.size = 85 := hD.size
                have hdd := hD.defers
                clear hr6 hr6' hs6 hne6 hbl6 e6
                refine tail_val (i := 7) (v := .pointer (some ⟨Z, s, none⟩)) (W' := W2) none 0 rfl rfl rfl (fun c hc => by cases hc) (by go_simp; try exact congrArg (fun q => Value.pointer (some q)) (add_blk _ _)) (by rw [hsz3]; decide) ?_
                intro a3 s3 d3 f3 o3
                have hkp3 := keeps_then hkp2 o3 (by decide)
                have ev6' := (o3 79 (by decide)).trans ev6
                refine tail_store (i := 8) (W' := W2.setCell ⟨Z, s, none⟩ (.slice (some ⟨g6, 0, none⟩) (L1.length + 1) cap6)) none 0 rfl rfl rfl (fun c hc => by cases hc) (by go_simp) ?_
                have e := act_mix [73, 74, 75, 76, 77, 78, 79, 80] (s3.trans hds) (d3.trans hdd) (fun i _ hc => hkp3 i hc)
                generalize (fun i => a3.tmps.getD i undef) = g' at e
                refine wpListIn_nil ?_
                rw [e]
                clear e hD hkp2 hkp3 s3 d3 f3 o3 e73 e74 ev6 ev6' hds hdd hsz3 zf zl zc hz7 HV
                simp only [mix, List.contains_cons, List.contains_nil, Nat.reduceAdd, Nat.reduceBEq, Bool.or_false, Bool.or_true, cond_true, cond_false]
                go_wp2
                go_roundw
                case rel => exact ⟨(p - 1) &&& s, rfl, HNF.out.1, HNF.out.2.1, HN7.out⟩
                case measure => have := HNF.out.2.2; simp [intOf]; omega
              | some ax =>
                cases hlt9 : decide ((L1.length : Int) + 1 < (Lx.length : Int))
                · clear hsx
                  go_wp2
                  go_roundw
                  case rel => exact ⟨(p - 1) &&& s, rfl, HNF.out.1, HNF.out.2.1, H6.out⟩
                  case measure => have := HNF.out.2.2; simp [intOf]; omega
                · clear hsx
                  go_wp2
                  clear hcx b1 hwl hlt9
                  refine (wpIn_wide (n := 0)).1 ?_
                  refine wpIn_region_each2 7 (fun i v W' => match i with | 0 => v = .slice (some ⟨Z, 0, none⟩) (n + 1) (n + 1) | 1 => v = .int .i64 (s : Int) | 2 => v = .slice none L1.length c1 | 4 => v = .int .i64 (p : Int) | _ => True) (fun _ _ => True) (fun li a' W => PhA B6 L1 p W6 li a' W) (by kernel_rfl) (by kernel_rfl) ?_ (fun _ _ => trivial) trivial (PhA.start HB6.out) (by kernel_rfl) ?_ ?_
                  · intro i v W1 W2 hb h; exact h
                  · refine ⟨?_, ?_, ?_, ?_, ?_, ?_, ?_, trivial⟩
                    · -- 0
                      intro li a1 W2 hA K hK
                      have e1 := hA.par 1 (by kernel_rfl)
                      have q1 := (H6.out.mem.keep (hA.ph.bel.mono (Nat.le_of_eq HB6.out))).b1.c1
                      refine opStep none 0 rfl rfl (fun c hc => by cases hc) ?_
                      go_simp
                      exact hK _ _ rfl trivial (hA.ph.other (by decide) (by decide) (by decide) (by decide) (by decide) (by decide))
                    · -- 1
                      intro li a1 W2 hA K hK
                      have e0 := hA.par 0 (by kernel_rfl)
                      refine opStep none 0 rfl rfl (fun c hc => by cases hc) ?_
                      go_simp
                      exact hK _ _ rfl trivial (hA.ph.other (by decide) (by decide) (by decide) (by decide) (by decide) (by decide))
                    · -- 2
                      intro li a1 W2 hA K hK
                      have e9 := hA.par 9 (by kernel_rfl)
                      refine opStep none 0 rfl rfl (fun c hc => by cases hc) ?_
                      go_simp
                      exact hK _ _ rfl trivial (hA.ph.other (by decide) (by decide) (by decide) (by decide) (by decide) (by decide))
                    · -- 3
                      intro li a1 W2 hA K hK
                      have e75 : a1.tmps.getD 75 undef = .slice none L1.length c1 := hA.val 2 75 (by kernel_rfl) (by kernel_rfl)
                      have hn6 : li.getD 6 false = false := by
                        cases hl' : li.getD 6 false
                        · rfl
                        · have := hA.past hl' 3 (by kernel_rfl); rw [hA.new] at this; cases this
                      refine opStep none 0 rfl rfl (fun c hc => by cases hc) ?_
                      go_simp
                      refine (wclone_any none c1 L1 W2 (HO.out.1.keep (hA.ph.bel.mono (Nat.le_of_eq HB6.out))) (by have := HO.out.2.2; omega)).mono ?_
                      rintro e W9 ⟨v9, rfl, ho9, hb9⟩
                      exact hK _ _ trivial trivial (hA.ph.clo hn6 (by rw [hA.size]; show 76 < 85; decide) ho9 hb9)
                    · -- 4
                      intro li a1 W2 hA K hK
                      have e8 := hA.par 8 (by kernel_rfl)
                      refine opStep none 0 rfl rfl (fun c hc => by cases hc) ?_
                      go_simp
                      exact hK _ _ rfl trivial (hA.ph.other (by decide) (by decide) (by decide) (by decide) (by decide) (by decide))
                    · -- 5
                      intro li a1 W2 hA K hK
                      have e77 : a1.tmps.getD 77 undef = .int .i64 (p : Int) := hA.val 4 77 (by kernel_rfl) (by kernel_rfl)
                      have hn6 : li.getD 6 false = false := by
                        cases hl' : li.getD 6 false
                        · rfl
                        · have := hA.past hl' 5 (by kernel_rfl); rw [hA.new] at this; cases this
                      have e77' := e77
                      rw [Array.getD_eq_getD_getElem?] at e77'
                      refine opStep none 0 rfl rfl (fun c hc => by cases hc) ?_
                      go_simp
                      exact hK _ _ trivial trivial (hA.ph.bld hn6 (by rw [hA.size]; show 78 < 85; decide))
                    · -- 6
                      intro li a1 W2 hA K hK
                      have h3 := hA.has 3 (by kernel_rfl)
                      have h5 := hA.has 5 (by kernel_rfl)
                      have hr3 := hA.ph.r3 hA.new h3
                      obtain ⟨v76, e76⟩ : ∃ v, a1.tmps.getD 76 undef = v := ⟨_, rfl⟩
                      rw [e76] at hr3
                      obtain ⟨gl, e78, hgl⟩ := hA.ph.r5 hA.new h5
                      obtain ⟨i0, hi0, hz0, hz1, hz2⟩ := info_parts set_info
                      obtain ⟨v', w7, hrun, hr7, hg7, _, _⟩ := run_append_own_at (P := Tryz.prog) W2 B6 108 108 111 i0 (.int .i64 0) 1 8 Tryz.underlying108 hi0 hz0 hz1 hz2 rfl (by decide) _ _ _ hr3 ⟨gl, 0, none⟩ 1 1 [.int .i64 (p : Int)] rfl (one_blk hgl) (by intro u hu; simp at hu; subst hu; rfl) (by have := HO.out.2.2; simp only [maxLen]; omega) (by have := HO.out.2.2; omega) hA.ph.sz
                      refine opValue (v := v') none 0 rfl rfl (fun c hc => by cases hc) (W' := w7) (by simp [execOp, resolve, invoke, builtin, Act.eval, e76, e78, hrun, Result.andThen]) ?_
                      exact hK _ _ trivial trivial (hA.ph.app hA.new h3 (by rw [hA.lsize]; decide) (by rw [hA.size]; show 79 < 85; decide) hr7 (by rw [e76]; exact hg7))
                  intro li a1 W2 hD
                  have hr6 := hD.ph.r6 (hD.all 6 (by decide))
                  have hbl6 := hD.ph.bel.mono (Nat.le_of_eq HB6.out)
                  have e73 : a1.tmps.getD 73 undef = .slice (some ⟨Z, 0, none⟩) (n + 1) (n + 1) := hD.val 0 73 (by kernel_rfl) (by kernel_rfl)
                  have e74 : a1.tmps.getD 74 undef = .int .i64 (s : Int) := hD.val 1 74 (by kernel_rfl) (by kernel_rfl)
                  obtain ⟨g6, cap6, ev6⟩ := Go.ownsRow_succ hr6
                  have hr6' : W2.ownsRow B6 111 1 (.slice (some ⟨g6, 0, none⟩) (L1.length + 1) cap6) (L1.length + 1) ((intsN (L1 ++ [p])).map (Value.int .i64)) := by rw [← ev6]; exact hr6
                  obtain ⟨A6, c6, e6, hs6, _, hne6⟩ := own_sets (L := L1 ++ [p]) (by simp) hr6'
                  have HV := hid (show SpV m T lim s (.slice (some ⟨g6, 0, none⟩) (L1.length + 1) cap6) W2 from ⟨A6, L1 ++ [p], c6, e6, hs6, .inr ⟨h0, HDV.out⟩⟩)
                  have HN7 := hid (H6.out.put hbl6 HV.out)
                  obtain ⟨cs7, hz7, _⟩ := (H6.out.mem.keep hbl6).z
                  have zf := hz7.frozen s
                  have zl := hz7.lt
                  have zc := ((H6.out.mem.keep hbl6).cell hsn)
                  obtain ⟨Ay, Ly, cy, zc, _, _⟩ := zc
                  have hkp2 := hD.keeps (ds := [73, 74, 75, 76, 77, 78, 79, 80]) (by kernel_rfl)
                  have hds := hD.size
                  have hsz3 : a1.tmps.size = 85 := hD.size
                  have hdd := hD.defers
                  clear hr6 hr6' hs6 hne6 hbl6 e6
                  refine tail_val (i := 7) (v := .pointer (some ⟨Z, s, none⟩)) (W' := W2) none 0 rfl rfl rfl (fun c hc => by cases hc) (by go_simp; try exact congrArg (fun q => Value.pointer (some q)) (add_blk _ _)) (by rw [hsz3]; decide) ?_
                  intro a3 s3 d3 f3 o3
                  have hkp3 := keeps_then hkp2 o3 (by decide)
                  have ev6' := (o3 79 (by decide)).trans ev6
                  refine tail_store (i := 8) (W' := W2.setCell ⟨Z, s, none⟩ (.slice (some ⟨g6, 0, none⟩) (L1.length + 1) cap6)) none 0 rfl rfl rfl (fun c hc => by cases hc) (by go_simp) ?_
                  have e := act_mix [73, 74, 75, 76, 77, 78, 79, 80] (s3.trans hds) (d3.trans hdd) (fun i _ hc => hkp3 i hc)
                  generalize (fun i => a3.tmps.getD i undef) = g' at e
                  refine wpListIn_nil ?_
                  rw [e]
                  clear e hD hkp2 hkp3 s3 d3 f3 o3 e73 e74 ev6 ev6' hds hdd hsz3 zf zl zc hz7 HV
                  simp only [mix, List.contains_cons, List.contains_nil, Nat.reduceAdd, Nat.reduceBEq, Bool.or_false, Bool.or_true, cond_true, cond_false]
                  go_wp2
                  go_roundw
                  case rel => exact ⟨(p - 1) &&& s, rfl, HNF.out.1, HNF.out.2.1, HN7.out⟩
                  case measure => have := HNF.out.2.2; simp [intOf]; omega
            · have hspB : ((s : Int) != (p : Int)) = true := by simp; omega
              cases A1 with
              | none =>
                clear hs1 hd1 hsp
                go_wp2
                go_roundw
                case rel => exact ⟨(p - 1) &&& s, rfl, HNF.out.1, HNF.out.2.1, H6.out⟩
                case measure => have := HNF.out.2.2; simp [intOf]; omega
              | some a1' =>
                have hdv : Div m T lim (wsub s p) L1 := hd1.elim (fun e => by cases e) fun e => e.2
                have hl1 : L1.length ≤ 256 := by have := hdv.len HWB.out.1; have := HWB.out.1; omega
                have HO := hid (show SetsAt W6 (some a1') L1 c1 ∧ True ∧ L1.length ≤ 256 from ⟨hs1, trivial, hl1⟩)
                have HDV := hid (show Div m T lim s (L1 ++ [p]) from .snoc hdv HPS.out hp0 hp256 (by rw [HLO.out]; have := of_decide_eq_false hlt9; omega))
                obtain ⟨B6, hB6⟩ : ∃ B6, W6.heap.size = B6 := ⟨_, rfl⟩
                have HB6 := hid hB6
                clear hs1 hd1 hdv hsp hB6
                obtain ⟨Ax, Lx, cx, hcx, hsx, _⟩ := H6.out.mem.cell hsn
                have b1 := H6.out.mem.b1.c1
                have hwl : IntKind.i64.wrap ((L1.length : Int) + 1) = (L1.length : Int) + 1 := IntWalk.i64_in _ (by omega)
                cases Ax with
                | none =>
                  clear hsx
                  go_wp2
                  clear hcx b1 hwl
                  refine (wpIn_wide (n := 0)).1 ?_
                  refine wpIn_region_each2 7 (fun i v W' => match i with | 0 => v = .slice (some ⟨Z, 0, none⟩) (n + 1) (n + 1) | 1 => v = .int .i64 (s : Int) | 2 => v = .slice (some a1') L1.length c1 | 4 => v = .int .i64 (p : Int) | _ => True) (fun _ _ => True) (fun li a' W => PhA B6 L1 p W6 li a' W) (by kernel_rfl) (by kernel_rfl) ?_ (fun _ _ => trivial) trivial (PhA.start HB6.out) (by kernel_rfl) ?_ ?_
                  · intro i v W1 W2 hb h; exact h
                  · refine ⟨?_, ?_, ?_, ?_, ?_, ?_, ?_, trivial⟩
                    · -- 0
                      intro li a1 W2 hA K hK
                      have e1 := hA.par 1 (by kernel_rfl)
                      have q1 := (H6.out.mem.keep (hA.ph.bel.mono (Nat.le_of_eq HB6.out))).b1.c1
                      refine opStep none 0 rfl rfl (fun c hc => by cases hc) ?_
                      go_simp
                      exact hK _ _ rfl trivial (hA.ph.other (by decide) (by decide) (by decide) (by decide) (by decide) (by decide))
                    · -- 1
                      intro li a1 W2 hA K hK
                      have e0 := hA.par 0 (by kernel_rfl)
                      refine opStep none 0 rfl rfl (fun c hc => by cases hc) ?_
                      go_simp
                      exact hK _ _ rfl trivial (hA.ph.other (by decide) (by decide) (by decide) (by decide) (by decide) (by decide))
                    · -- 2
                      intro li a1 W2 hA K hK
                      have e9 := hA.par 9 (by kernel_rfl)
                      refine opStep none 0 rfl rfl (fun c hc => by cases hc) ?_
                      go_simp
                      exact hK _ _ rfl trivial (hA.ph.other (by decide) (by decide) (by decide) (by decide) (by decide) (by decide))
                    · -- 3
                      intro li a1 W2 hA K hK
                      have e75 : a1.tmps.getD 75 undef = .slice (some a1') L1.length c1 := hA.val 2 75 (by kernel_rfl) (by kernel_rfl)
                      have hn6 : li.getD 6 false = false := by
                        cases hl' : li.getD 6 false
                        · rfl
                        · have := hA.past hl' 3 (by kernel_rfl); rw [hA.new] at this; cases this
                      refine opStep none 0 rfl rfl (fun c hc => by cases hc) ?_
                      go_simp
                      refine (wclone_any (some a1') c1 L1 W2 (HO.out.1.keep (hA.ph.bel.mono (Nat.le_of_eq HB6.out))) (by have := HO.out.2.2; omega)).mono ?_
                      rintro e W9 ⟨v9, rfl, ho9, hb9⟩
                      exact hK _ _ trivial trivial (hA.ph.clo hn6 (by rw [hA.size]; show 76 < 85; decide) ho9 hb9)
                    · -- 4
                      intro li a1 W2 hA K hK
                      have e8 := hA.par 8 (by kernel_rfl)
                      refine opStep none 0 rfl rfl (fun c hc => by cases hc) ?_
                      go_simp
                      exact hK _ _ rfl trivial (hA.ph.other (by decide) (by decide) (by decide) (by decide) (by decide) (by decide))
                    · -- 5
                      intro li a1 W2 hA K hK
                      have e77 : a1.tmps.getD 77 undef = .int .i64 (p : Int) := hA.val 4 77 (by kernel_rfl) (by kernel_rfl)
                      have hn6 : li.getD 6 false = false := by
                        cases hl' : li.getD 6 false
                        · rfl
                        · have := hA.past hl' 5 (by kernel_rfl); rw [hA.new] at this; cases this
                      have e77' := e77
                      rw [Array.getD_eq_getD_getElem?] at e77'
                      refine opStep none 0 rfl rfl (fun c hc => by cases hc) ?_
                      go_simp
                      exact hK _ _ trivial trivial (hA.ph.bld hn6 (by rw [hA.size]; show 78 < 85; decide))
                    · -- 6
                      intro li a1 W2 hA K hK
                      have h3 := hA.has 3 (by kernel_rfl)
                      have h5 := hA.has 5 (by kernel_rfl)
                      have hr3 := hA.ph.r3 hA.new h3
                      obtain ⟨v76, e76⟩ : ∃ v, a1.tmps.getD 76 undef = v := ⟨_, rfl⟩
                      rw [e76] at hr3
                      obtain ⟨gl, e78, hgl⟩ := hA.ph.r5 hA.new h5
                      obtain ⟨i0, hi0, hz0, hz1, hz2⟩ := info_parts set_info
                      obtain ⟨v', w7, hrun, hr7, hg7, _, _⟩ := run_append_own_at (P := Tryz.prog) W2 B6 108 108 111 i0 (.int .i64 0) 1 8 Tryz.underlying108 hi0 hz0 hz1 hz2 rfl (by decide) _ _ _ hr3 ⟨gl, 0, none⟩ 1 1 [.int .i64 (p : Int)] rfl (one_blk hgl) (by intro u hu; simp at hu; subst hu; rfl) (by have := HO.out.2.2; simp only [maxLen]; omega) (by have := HO.out.2.2; omega) hA.ph.sz
                      refine opValue (v := v') none 0 rfl rfl (fun c hc => by cases hc) (W' := w7) (by simp [execOp, resolve, invoke, builtin, Act.eval, e76, e78, hrun, Result.andThen]) ?_
                      exact hK _ _ trivial trivial (hA.ph.app hA.new h3 (by rw [hA.lsize]; decide) (by rw [hA.size]; show 79 < 85; decide) hr7 (by rw [e76]; exact hg7))
                  intro li a1 W2 hD
                  have hr6 := hD.ph.r6 (hD.all 6 (by decide))
                  have hbl6 := hD.ph.bel.mono (Nat.le_of_eq HB6.out)
                  have e73 : a1.tmps.getD 73 undef = .slice (some ⟨Z, 0, none⟩) (n + 1) (n + 1) := hD.val 0 73 (by kernel_rfl) (by kernel_rfl)
                  have e74 : a1.tmps.getD 74 undef = .int .i64 (s : Int) := hD.val 1 74 (by kernel_rfl) (by kernel_rfl)
                  obtain ⟨g6, cap6, ev6⟩ := Go.ownsRow_succ hr6
                  have hr6' : W2.ownsRow B6 111 1 (.slice (some ⟨g6, 0, none⟩) (L1.length + 1) cap6) (L1.length + 1) ((intsN (L1 ++ [p])).map (Value.int .i64)) := by rw [← ev6]; exact hr6
                  obtain ⟨A6, c6, e6, hs6, _, hne6⟩ := own_sets (L := L1 ++ [p]) (by simp) hr6'
                  have HV := hid (show SpV m T lim s (.slice (some ⟨g6, 0, none⟩) (L1.length + 1) cap6) W2 from ⟨A6, L1 ++ [p], c6, e6, hs6, .inr ⟨h0, HDV.out⟩⟩)
                  have HN7 := hid (H6.out.put hbl6 HV.out)
                  obtain ⟨cs7, hz7, _⟩ := (H6.out.mem.keep hbl6).z
                  have zf := hz7.frozen s
                  have zl := hz7.lt
                  have zc := ((H6.out.mem.keep hbl6).cell hsn)
                  obtain ⟨Ay, Ly, cy, zc, _, _⟩ := zc
                  have hkp2 := hD.keeps (ds := [73, 74, 75, 76, 77, 78, 79, 80]) (by kernel_rfl)
                  have hds := hD.size
                  have hsz3 : a1.tmps.size = 85 := hD.size
                  have hdd := hD.defers
                  clear hr6 hr6' hs6 hne6 hbl6 e6
                  refine tail_val (i := 7) (v := .pointer (some ⟨Z, s, none⟩)) (W' := W2) none 0 rfl rfl rfl (fun c hc => by cases hc) (by go_simp; try exact congrArg (fun q => Value.pointer (some q)) (add_blk _ _)) (by rw [hsz3]; decide) ?_
                  intro a3 s3 d3 f3 o3
                  have hkp3 := keeps_then hkp2 o3 (by decide)
                  have ev6' := (o3 79 (by decide)).trans ev6
                  refine tail_store (i := 8) (W' := W2.setCell ⟨Z, s, none⟩ (.slice (some ⟨g6, 0, none⟩) (L1.length + 1) cap6)) none 0 rfl rfl rfl (fun c hc => by cases hc) (by go_simp) ?_
                  have e := act_mix [73, 74, 75, 76, 77, 78, 79, 80] (s3.trans hds) (d3.trans hdd) (fun i _ hc => hkp3 i hc)
                  generalize (fun i => a3.tmps.getD i undef) = g' at e
                  refine wpListIn_nil ?_
                  rw [e]
                  clear e hD hkp2 hkp3 s3 d3 f3 o3 e73 e74 ev6 ev6' hds hdd hsz3 zf zl zc hz7 HV
                  simp only [mix, List.contains_cons, List.contains_nil, Nat.reduceAdd, Nat.reduceBEq, Bool.or_false, Bool.or_true, cond_true, cond_false]
                  go_wp2
                  go_roundw
                  case rel => exact ⟨(p - 1) &&& s, rfl, HNF.out.1, HNF.out.2.1, HN7.out⟩
                  case measure => have := HNF.out.2.2; simp [intOf]; omega
                | some ax =>
                  cases hlt9 : decide ((L1.length : Int) + 1 < (Lx.length : Int))
                  · clear hsx
                    go_wp2
                    go_roundw
                    case rel => exact ⟨(p - 1) &&& s, rfl, HNF.out.1, HNF.out.2.1, H6.out⟩
                    case measure => have := HNF.out.2.2; simp [intOf]; omega
                  · clear hsx
                    go_wp2
                    clear hcx b1 hwl hlt9
                    refine (wpIn_wide (n := 0)).1 ?_
                    refine wpIn_region_each2 7 (fun i v W' => match i with | 0 => v = .slice (some ⟨Z, 0, none⟩) (n + 1) (n + 1) | 1 => v = .int .i64 (s : Int) | 2 => v = .slice (some a1') L1.length c1 | 4 => v = .int .i64 (p : Int) | _ => True) (fun _ _ => True) (fun li a' W => PhA B6 L1 p W6 li a' W) (by kernel_rfl) (by kernel_rfl) ?_ (fun _ _ => trivial) trivial (PhA.start HB6.out) (by kernel_rfl) ?_ ?_
                    · intro i v W1 W2 hb h; exact h
                    · refine ⟨?_, ?_, ?_, ?_, ?_, ?_, ?_, trivial⟩
                      · -- 0
                        intro li a1 W2 hA K hK
                        have e1 := hA.par 1 (by kernel_rfl)
                        have q1 := (H6.out.mem.keep (hA.ph.bel.mono (Nat.le_of_eq HB6.out))).b1.c1
                        refine opStep none 0 rfl rfl (fun c hc => by cases hc) ?_
                        go_simp
                        exact hK _ _ rfl trivial (hA.ph.other (by decide) (by decide) (by decide) (by decide) (by decide) (by decide))
                      · -- 1
                        intro li a1 W2 hA K hK
                        have e0 := hA.par 0 (by kernel_rfl)
                        refine opStep none 0 rfl rfl (fun c hc => by cases hc) ?_
                        go_simp
                        exact hK _ _ rfl trivial (hA.ph.other (by decide) (by decide) (by decide) (by decide) (by decide) (by decide))
                      · -- 2
                        intro li a1 W2 hA K hK
                        have e9 := hA.par 9 (by kernel_rfl)
                        refine opStep none 0 rfl rfl (fun c hc => by cases hc) ?_
                        go_simp
                        exact hK _ _ rfl trivial (hA.ph.other (by decide) (by decide) (by decide) (by decide) (by decide) (by decide))
                      · -- 3
                        intro li a1 W2 hA K hK
                        have e75 : a1.tmps.getD 75 undef = .slice (some a1') L1.length c1 := hA.val 2 75 (by kernel_rfl) (by kernel_rfl)
                        have hn6 : li.getD 6 false = false := by
                          cases hl' : li.getD 6 false
                          · rfl
                          · have := hA.past hl' 3 (by kernel_rfl); rw [hA.new] at this; cases this
                        refine opStep none 0 rfl rfl (fun c hc => by cases hc) ?_
                        go_simp
                        refine (wclone_any (some a1') c1 L1 W2 (HO.out.1.keep (hA.ph.bel.mono (Nat.le_of_eq HB6.out))) (by have := HO.out.2.2; omega)).mono ?_
                        rintro e W9 ⟨v9, rfl, ho9, hb9⟩
                        exact hK _ _ trivial trivial (hA.ph.clo hn6 (by rw [hA.size]; show 76 < 85; decide) ho9 hb9)
                      · -- 4
                        intro li a1 W2 hA K hK
                        have e8 := hA.par 8 (by kernel_rfl)
                        refine opStep none 0 rfl rfl (fun c hc => by cases hc) ?_
                        go_simp
                        exact hK _ _ rfl trivial (hA.ph.other (by decide) (by decide) (by decide) (by decide) (by decide) (by decide))
                      · -- 5
                        intro li a1 W2 hA K hK
                        have e77 : a1.tmps.getD 77 undef = .int .i64 (p : Int) := hA.val 4 77 (by kernel_rfl) (by kernel_rfl)
                        have hn6 : li.getD 6 false = false := by
                          cases hl' : li.getD 6 false
                          · rfl
                          · have := hA.past hl' 5 (by kernel_rfl); rw [hA.new] at this; cases this
                        have e77' := e77
                        rw [Array.getD_eq_getD_getElem?] at e77'
                        refine opStep none 0 rfl rfl (fun c hc => by cases hc) ?_
                        go_simp
                        exact hK _ _ trivial trivial (hA.ph.bld hn6 (by rw [hA.size]; show 78 < 85; decide))
                      · -- 6
                        intro li a1 W2 hA K hK
                        have h3 := hA.has 3 (by kernel_rfl)
                        have h5 := hA.has 5 (by kernel_rfl)
                        have hr3 := hA.ph.r3 hA.new h3
                        obtain ⟨v76, e76⟩ : ∃ v, a1.tmps.getD 76 undef = v := ⟨_, rfl⟩
                        rw [e76] at hr3
                        obtain ⟨gl, e78, hgl⟩ := hA.ph.r5 hA.new h5
                        obtain ⟨i0, hi0, hz0, hz1, hz2⟩ := info_parts set_info
                        obtain ⟨v', w7, hrun, hr7, hg7, _, _⟩ := run_append_own_at (P := Tryz.prog) W2 B6 108 108 111 i0 (.int .i64 0) 1 8 Tryz.underlying108 hi0 hz0 hz1 hz2 rfl (by decide) _ _ _ hr3 ⟨gl, 0, none⟩ 1 1 [.int .i64 (p : Int)] rfl (one_blk hgl) (by intro u hu; simp at hu; subst hu; rfl) (by have := HO.out.2.2; simp only [maxLen]; omega) (by have := HO.out.2.2; omega) hA.ph.sz
                        refine opValue (v := v') none 0 rfl rfl (fun c hc => by cases hc) (W' := w7) (by simp [execOp, resolve, invoke, builtin, Act.eval, e76, e78, hrun, Result.andThen]) ?_
                        exact hK _ _ trivial trivial (hA.ph.app hA.new h3 (by rw [hA.lsize]; decide) (by rw [hA.size]; show 79 < 85; decide) hr7 (by rw [e76]; exact hg7))
                    intro li a1 W2 hD
                    have hr6 := hD.ph.r6 (hD.all 6 (by decide))
                    have hbl6 := hD.ph.bel.mono (Nat.le_of_eq HB6.out)
                    have e73 : a1.tmps.getD 73 undef = .slice (some ⟨Z, 0, none⟩) (n + 1) (n + 1) := hD.val 0 73 (by kernel_rfl) (by kernel_rfl)
                    have e74 : a1.tmps.getD 74 undef = .int .i64 (s : Int) := hD.val 1 74 (by kernel_rfl) (by kernel_rfl)
                    obtain ⟨g6, cap6, ev6⟩ := Go.ownsRow_succ hr6
                    have hr6' : W2.ownsRow B6 111 1 (.slice (some ⟨g6, 0, none⟩) (L1.length + 1) cap6) (L1.length + 1) ((intsN (L1 ++ [p])).map (Value.int .i64)) := by rw [← ev6]; exact hr6
                    obtain ⟨A6, c6, e6, hs6, _, hne6⟩ := own_sets (L := L1 ++ [p]) (by simp) hr6'
                    have HV := hid (show SpV m T lim s (.slice (some ⟨g6, 0, none⟩) (L1.length + 1) cap6) W2 from ⟨A6, L1 ++ [p], c6, e6, hs6, .inr ⟨h0, HDV.out⟩⟩)
                    have HN7 := hid (H6.out.put hbl6 HV.out)
                    obtain ⟨cs7, hz7, _⟩ := (H6.out.mem.keep hbl6).z
                    have zf := hz7.frozen s
                    have zl := hz7.lt
                    have zc := ((H6.out.mem.keep hbl6).cell hsn)
                    obtain ⟨Ay, Ly, cy, zc, _, _⟩ := zc
                    have hkp2 := hD.keeps (ds := [73, 74, 75, 76, 77, 78, 79, 80]) (by kernel_rfl)
                    have hds := hD.size
                    have hsz3 : a1.tmps.size = 85 := hD.size
                    have hdd := hD.defers
                    clear hr6 hr6' hs6 hne6 hbl6 e6
                    refine tail_val (i := 7) (v := .pointer (some ⟨Z, s, none⟩)) (W' := W2) none 0 rfl rfl rfl (fun c hc => by cases hc) (by go_simp; try exact congrArg (fun q => Value.pointer (some q)) (add_blk _ _)) (by rw [hsz3]; decide) ?_
                    intro a3 s3 d3 f3 o3
                    have hkp3 := keeps_then hkp2 o3 (by decide)
                    have ev6' := (o3 79 (by decide)).trans ev6
                    refine tail_store (i := 8) (W' := W2.setCell ⟨Z, s, none⟩ (.slice (some ⟨g6, 0, none⟩) (L1.length + 1) cap6)) none 0 rfl rfl rfl (fun c hc => by cases hc) (by go_simp) ?_
                    have e := act_mix [73, 74, 75, 76, 77, 78, 79, 80] (s3.trans hds) (d3.trans hdd) (fun i _ hc => hkp3 i hc)
                    generalize (fun i => a3.tmps.getD i undef) = g' at e
                    refine wpListIn_nil ?_
                    rw [e]
                    clear e hD hkp2 hkp3 s3 d3 f3 o3 e73 e74 ev6 ev6' hds hdd hsz3 zf zl zc hz7 HV
                    simp only [mix, List.contains_cons, List.contains_nil, Nat.reduceAdd, Nat.reduceBEq, Bool.or_false, Bool.or_true, cond_true, cond_false]
                    go_wp2
                    go_roundw
                    case rel => exact ⟨(p - 1) &&& s, rfl, HNF.out.1, HNF.out.2.1, HN7.out⟩
                    case measure => have := HNF.out.2.2; simp [intOf]; omega
          · skip
            go_wp2
            go_roundw
            case rel => exact ⟨(p - 1) &&& s, rfl, HNF.out.1, HNF.out.2.1, HPW.out⟩
            case measure => have := HNF.out.2.2; simp [intOf]; omega
        · go_wp2
          refine wp_region_quiet_xt (by kernel_rfl) (by kernel_rfl) ?_
          repeat (go_big_quiet_step (fail))
          refine wpQuiet_nil ?_
          intro W3 hw3
          have H3 := hid (HI.out.keep (of_xt hw3))
          clear hw3 HI hb0
          go_wp2
          go_roundw
          case rel => exact ⟨(p - 1) &&& s, rfl, HNF.out.1, HNF.out.2.1, H3.out⟩
          case measure => have := HNF.out.2.2; simp [intOf]; omega
theorem wsplit_any {g mp Z bb ab lb sb n : Nat} {m : WMD} {A A2 : Option Addr} {c c2 : Nat} {T F : Nat → Nat → Int} {lim : Int} (ok : OkW m) (hT : ∀ x y, x < m.N → y < m.N → 0 ≤ T x y ∧ T x y ≤ farI) (hn : n < 256) :
    ∀ (k s : Nat), s ≤ k → s ≤ n → (∀ p ∈ bl s, p < m.N) → ∀ w, SpM g mp Z bb ab lb sb n m A c A2 c2 T F lim w → Calls Tryz.prog 102 #[.int .i64 (s : Int), .pointer (some ⟨bb, 0, none⟩), .pointer (some ⟨ab, 0, none⟩), .pointer (some ⟨lb, 0, none⟩), .pointer (some ⟨sb, 0, none⟩)] w (GivesSp g mp Z bb ab lb sb n m A c A2 c2 T F lim s w)
  | 0, s, hk, hsn, hsN, w, h => wsplit_step ok hT hn s hsn hsN (fun s' hs' => absurd hs' (by omega)) w h
  | k + 1, s, hk, hsn, hsN, w, h => wsplit_step ok hT hn s hsn hsN (fun s' hs' hN' w' h' => wsplit_any ok hT hn k s' (by omega) (by omega) hN' w' h') w h
end Go.Proofs.YtlnamjhgbdacbaaGreat
/- whole; divide: the search for a division, from its begin. Conditions stand at each theorem. -/
namespace Go.Proofs.YtlnamjhgbdacbaaGreat
open Go.RowKit Go.Shelf

/-- the set of all places -/
def whN (N : Nat) : Nat := 2 ^ N - 1
theorem whN_facts : ∀ N : Nat, N ≤ 8 → IntKind.i64.wrap (2 ^ N) = 2 ^ N ∧ IntKind.i64.wrap ((2 : Int) ^ N - 1) = (whN N : Int) ∧ IntKind.i64.wrap ((whN N : Int) + 1) = (whN N : Int) + 1 ∧ whN N < 256 ∧ (0 < N → whN N ≠ 0) := by decide +kernel
theorem whN_bit : ∀ N : Nat, N ≤ 8 → ∀ k : Nat, k < 8 → Nat.testBit (whN N) k = decide (k < N) := by decide +kernel
theorem whN_bl {N : Nat} (hN : N ≤ 8) : ∀ p ∈ bl (whN N), p < N := fun p hp => by
  obtain ⟨h1, h2⟩ := bl_mem.1 hp
  rw [whN_bit N hN p h1] at h2
  exact of_decide_eq_true h2
set_option maxHeartbeats 1000000 in
theorem wwhole_any (A : Option Addr) (N c : Nat) (v : Value) (w : World) (hN : N ≤ 8) : Calls Tryz.prog 101 #[.agg #[.slice A N c, v]] w fun e w' => e = .returned (.int .i64 (whN N : Int)) ∧ Below w.heap.size w w' := by
  have hB := below_box (w := w) #[.slice A N c, v] 65
  have HB := hid hB
  have hneg : decide ((N : Int) < 0) = false := by simp
  have hmin : min N 64 = N := by omega
  obtain ⟨h1, h2, _⟩ := whN_facts N hN
  clear hB
  go_enter Tryz.func101, Tryz.ntmps101
  go_wp2
  go_ret
  exact ⟨rfl, HB.out⟩
theorem sets_info : (Tryz.prog.info? 108).map (fun i => (i.zero, i.size, i.bytes)) = some (some (.slice none 0 0), 1, 24) := by kernel_rfl
theorem make_sets (W : World) {k : Nat} (hk : k ≤ 256) : (Instr.makeSlice 180 (.int .i64 ((k : Nat) : Int)) (.int .i64 ((k : Nat) : Int))).run Tryz.prog W = .ok (.slice (some ⟨W.heap.size, 0, none⟩) k k) (W.alloc (.cells (madeCells #[.slice none 0 0] k) 108)) := by
  obtain ⟨i0, hi0, hz0, hz1, hz2⟩ := info_parts sets_info
  have h := run_make (P := Tryz.prog) W 180 108 i0 _ Tryz.underlying180 hi0 hz0 .i64 .i64 k k (by omega) (Int.le_refl _) (by rw [hz2]; omega) (by omega)
  rw [hz1, Int.toNat_natCast, Nat.mul_one] at h
  exact h
theorem made_get {k i : Nat} (hi : i < k) : (madeCells #[.slice none 0 0] k)[i]? = some (.slice none 0 0) := by
  unfold madeCells
  rw [Array.getElem?_map, Array.getElem?_range, if_pos hi]
  simp [Nat.mod_one]
/-- what divide hands back -/
def WGivesDiv (g mp : Nat) (m : WMD) (A : Option Addr) (c : Nat) (A2 : Option Addr) (c2 : Nat) (T F : Nat → Nat → Int) (lim : Int) (w : World) (e : Ending) (w' : World) : Prop :=
  (∃ v, e = .returned (.tuple #[v, .bool false]) ∧ MChg (fun q => q = mp) w w') ∨
  ∃ A0 L c0, e = .returned (.tuple #[.slice (some A0) L.length c0, .bool true]) ∧ SetsAt w' (some A0) L c0 ∧ Div m T lim (whN m.N) L ∧ AtW w' g mp m A c A2 c2 T F ∧ TMem T mp w' ∧ MChg (fun q => q = mp) w w'
/-- the last statement of divide: the search is called (operation 6, slot 23) -/
structure PhV (g mp Z bb ab lb sb n : Nat) (m : WMD) (A : Option Addr) (c : Nat) (A2 : Option Addr) (c2 : Nat) (T F : Nat → Nat → Int) (lim : Int) (w : World) (li : Array Bool) (a : Act) (W : World) : Prop where
  sp : SpI g mp Z bb ab lb sb n m A c A2 c2 T F lim w W
  r : li.getD 6 false = true → ∃ A0 L0 c0, a.tmps.getD 23 undef = .slice A0 L0.length c0 ∧ SetsAt W A0 L0 c0 ∧ (A0 = none ∨ (n ≠ 0 ∧ Div m T lim n L0))
section
variable {g mp Z bb ab lb sb n : Nat} {m : WMD} {A A2 : Option Addr} {c c2 : Nat} {T F : Nat → Nat → Int} {lim : Int} {w W W' : World} {li : Array Bool} {a : Act} {v : Value}
theorem PhV.other (h : PhV g mp Z bb ab lb sb n m A c A2 c2 T F lim w li a W) {i d : Nat} (hi : i ≠ 6) (hd : d ≠ 23) (hb : Below W.heap.size W W') : PhV g mp Z bb ab lb sb n m A c A2 c2 T F lim w (li.setIfInBounds i true) (a.put (some d) v) W' := by
  refine ⟨h.sp.keep hb, ?_⟩
  rw [getD_set_oth hi, put_getD_other hd]
  intro hl
  obtain ⟨A0, L0, c0, e, hs, hd⟩ := h.r hl
  exact ⟨A0, L0, c0, e, hs.keep hb, hd⟩
end
set_option maxRecDepth 100000 in
set_option maxHeartbeats 4000000 in
theorem wdivide_any {g mp : Nat} {m : WMD} {A A2 : Option Addr} {c c2 : Nat} {T F : Nat → Nat → Int} {lim : Int} (ok : OkW m) (_hg : g ≠ mp) (hT : ∀ x y, x < m.N → y < m.N → 0 ≤ T x y ∧ T x y ≤ farI) (w : World) (h : AtW w g mp m A c A2 c2 T F) (hm : TMem T mp w) (hw : IsJns w w.heap.size A m.work) (hwz : ∀ a, A = some a → a.block ≠ mp ∧ a.block < w.heap.size) :
    Calls Tryz.prog 64 #[.pointer (some ⟨g, 0, none⟩), .int .i64 lim] w (WGivesDiv g mp m A c A2 c2 T F lim w) := by
  have hN8 : m.N ≤ 8 := ok.w8
  have hN1 : 0 < m.N := ok.w1
  obtain ⟨wf1, wf2, wf3, wf4, wf5⟩ := whN_facts m.N hN8
  have HWF := hid (And.intro wf4 (wf5 hN1))
  have hB := below_box (w := w) #[.pointer (some ⟨g, 0, none⟩)] 107
  have hB2 := hB.alloc hB.size (.cells #[.int .i64 lim] 3)
  have hT0 := (Blk.new w 107 #[.pointer (some ⟨g, 0, none⟩)]).alloc (.cells #[.int .i64 lim] 3)
  have hU := Blk.new (w.alloc (.cells #[.pointer (some ⟨g, 0, none⟩)] 107)) 3 #[.int .i64 lim]
  rw [World.size_alloc] at hU
  have HA := hid h
  have HM := hid hm
  have HW := hid (And.intro hw hwz)
  have HT := hid hT
  have OK := hid ok
  have HS := hid (And.intro hB2 (And.intro hT0 hU))
  clear wf1 wf2 wf4 wf5 hB hB2 hT0 hU h hm hw hwz hT ok
  go_enter Tryz.func64, Tryz.ntmps64
  go_upto_region 1 with (fail)
  refine gen (p := Code.wp _ _ _ _) (fun W => Below w.heap.size w W ∧ Blk W w.heap.size 107 #[.pointer (some ⟨g, 0, none⟩)] ∧ Blk W (w.heap.size + 1) 3 #[.int .i64 lim]) HS.out ?_
  clear HS
  rintro W1 h1
  have H1 := hid h1
  have b2 := h1.2.1.c1
  have hA1 := HA.out.keep h1.1
  obtain ⟨a0, a1', _⟩ := hA1.head
  have al := hA1.lt
  clear h1 hA1
  have KW := hid (wwhole_any A m.work.length c (.slice A2 m.roads.length c2) W1 hN8)
  go_wp2_with fail
  refine KW.out.mono ?_
  rintro e W2 ⟨rfl, hb⟩
  have H2 := hid (show Below w.heap.size w W2 ∧ Blk W2 w.heap.size 107 #[.pointer (some ⟨g, 0, none⟩)] ∧ Blk W2 (w.heap.size + 1) 3 #[.int .i64 lim] from ⟨H1.out.1.trans (hb.mono H1.out.1.size), H1.out.2.1.keep hb, H1.out.2.2.keep hb⟩)
  clear hb KW H1 b2 a0 a1' al
  obtain ⟨n, hn⟩ : ∃ n, whN m.work.length = n := ⟨_, rfl⟩
  have hn' : whN m.N = n := hn
  rw [hn'] at HWF
  rw [show (whN m.N : Int) = (n : Int) by rw [hn']] at wf3
  rw [hn]
  have HN := hid hn'
  have hmk := fun W => make_sets W (k := n + 1) (by have := HWF.out.1; omega)
  have hcast : ((n + 1 : Nat) : Int) = (n : Int) + 1 := by omega
  rw [hcast] at hmk
  clear hn hn'
  go_wp2_with fail
  clear hmk hcast wf3
  have HBN := hid (show ∀ p ∈ bl n, p < m.N from fun p hp => by rw [← HN.out] at hp; exact whN_bl hN8 p hp)
  obtain ⟨Z, hZ⟩ : ∃ Z, W2.heap.size = Z := ⟨_, rfl⟩
  rw [hZ]
  have hZw : w.heap.size + 2 ≤ Z := by have := H2.out.2.2.lt; omega
  have hsp : SpM g mp Z (Z + 1) w.heap.size (w.heap.size + 1) (Z + 1 + 1) n m A c A2 c2 T F lim (((W2.alloc (.cells (madeCells #[.slice none 0 0] (n + 1)) 108)).alloc (.cells #[.slice (some ⟨Z, 0, none⟩) (n + 1) (n + 1)] 180)).alloc (.cells #[.func (.func 102) #[] #[.pointer (some ⟨Z + 1, 0, none⟩), .pointer (some ⟨w.heap.size, 0, none⟩), .pointer (some ⟨w.heap.size + 1, 0, none⟩), .pointer (some ⟨Z + 1 + 1, 0, none⟩)]] 182)) := by
    have hb1 := below_box (w := W2) (madeCells #[.slice none 0 0] (n + 1)) 108
    have hb2 := hb1.alloc hb1.size (.cells #[.slice (some ⟨Z, 0, none⟩) (n + 1) (n + 1)] 180)
    have hb3 := hb2.alloc hb2.size (.cells #[.func (.func 102) #[] #[.pointer (some ⟨Z + 1, 0, none⟩), .pointer (some ⟨w.heap.size, 0, none⟩), .pointer (some ⟨w.heap.size + 1, 0, none⟩), .pointer (some ⟨Z + 1 + 1, 0, none⟩)]] 182)
    have hbw := H2.out.1.trans (hb3.mono H2.out.1.size)
    have k1 := ((Blk.new W2 108 (madeCells #[.slice none 0 0] (n + 1))).alloc (.cells #[.slice (some ⟨Z, 0, none⟩) (n + 1) (n + 1)] 180)).alloc (.cells #[.func (.func 102) #[] #[.pointer (some ⟨Z + 1, 0, none⟩), .pointer (some ⟨w.heap.size, 0, none⟩), .pointer (some ⟨w.heap.size + 1, 0, none⟩), .pointer (some ⟨Z + 1 + 1, 0, none⟩)]] 182)
    have k2 := (Blk.new (W2.alloc (.cells (madeCells #[.slice none 0 0] (n + 1)) 108)) 180 #[.slice (some ⟨Z, 0, none⟩) (n + 1) (n + 1)]).alloc (.cells #[.func (.func 102) #[] #[.pointer (some ⟨Z + 1, 0, none⟩), .pointer (some ⟨w.heap.size, 0, none⟩), .pointer (some ⟨w.heap.size + 1, 0, none⟩), .pointer (some ⟨Z + 1 + 1, 0, none⟩)]] 182)
    have k3 := Blk.new ((W2.alloc (.cells (madeCells #[.slice none 0 0] (n + 1)) 108)).alloc (.cells #[.slice (some ⟨Z, 0, none⟩) (n + 1) (n + 1)] 180)) 182 #[.func (.func 102) #[] #[.pointer (some ⟨Z + 1, 0, none⟩), .pointer (some ⟨w.heap.size, 0, none⟩), .pointer (some ⟨w.heap.size + 1, 0, none⟩), .pointer (some ⟨Z + 1 + 1, 0, none⟩)]]
    rw [World.size_alloc] at k2 k3
    rw [World.size_alloc] at k3
    rw [hZ] at k1 k2 k3
    refine ⟨HA.out.keep hbw, HM.out.keep hbw, HW.out.1.at_ hbw, fun a ea => ⟨(HW.out.2 a ea).1, by have := (HW.out.2 a ea).2; omega⟩, k2, H2.out.2.1.keep hb3, H2.out.2.2.keep hb3, k3, _, k1, fun i hi => ⟨.slice none 0 0, made_get (by omega), none, [], 0, rfl, ⟨fun k x hk => (by simp [intsN] at hk), Nat.le_refl _, Nat.zero_le _, fun a e => (by cases e), fun _ => ⟨rfl, rfl⟩⟩, .inl rfl⟩⟩
  have hbw : Below w.heap.size w (((W2.alloc (.cells (madeCells #[.slice none 0 0] (n + 1)) 108)).alloc (.cells #[.slice (some ⟨Z, 0, none⟩) (n + 1) (n + 1)] 180)).alloc (.cells #[.func (.func 102) #[] #[.pointer (some ⟨Z + 1, 0, none⟩), .pointer (some ⟨w.heap.size, 0, none⟩), .pointer (some ⟨w.heap.size + 1, 0, none⟩), .pointer (some ⟨Z + 1 + 1, 0, none⟩)]] 182)) := by
    have hb1 := below_box (w := W2) (madeCells #[.slice none 0 0] (n + 1)) 108
    have hb2 := hb1.alloc hb1.size (.cells #[.slice (some ⟨Z, 0, none⟩) (n + 1) (n + 1)] 180)
    have hb3 := hb2.alloc hb2.size (.cells #[.func (.func 102) #[] #[.pointer (some ⟨Z + 1, 0, none⟩), .pointer (some ⟨w.heap.size, 0, none⟩), .pointer (some ⟨w.heap.size + 1, 0, none⟩), .pointer (some ⟨Z + 1 + 1, 0, none⟩)]] 182)
    exact H2.out.1.trans (hb3.mono H2.out.1.size)
  refine gen (p := Code.wp _ _ _ _) (fun W => SpM g mp Z (Z + 1) w.heap.size (w.heap.size + 1) (Z + 1 + 1) n m A c A2 c2 T F lim W ∧ Below w.heap.size w W) ⟨hsp, hbw⟩ ?_
  clear hsp hbw hZ H2 HA HM HW
  rintro W3 ⟨hsp, hbw⟩
  have HBW := hid hbw
  have HI := hid (show SpI g mp Z (Z + 1) w.heap.size (w.heap.size + 1) (Z + 1 + 1) n m A c A2 c2 T F lim W3 W3 from ⟨hsp, MChg.refl⟩)
  clear hsp hbw
  obtain ⟨bb, hbb⟩ : ∃ bb, Z + 1 = bb := ⟨_, rfl⟩
  rw [hbb] at HI ⊢
  obtain ⟨sb, hsb⟩ : ∃ sb, bb + 1 = sb := ⟨_, rfl⟩
  rw [hsb] at HI ⊢
  clear hbb hsb
  refine (wpIn_wide (n := 0)).1 ?_
  refine wpIn_region_each2 7 (fun i v W' => match i with | 0 => v = .func (.func 102) #[] #[.pointer (some ⟨bb, 0, none⟩), .pointer (some ⟨w.heap.size, 0, none⟩), .pointer (some ⟨w.heap.size + 1, 0, none⟩), .pointer (some ⟨sb, 0, none⟩)] | 1 => v = .pointer (some ⟨g, 0, none⟩) | 2 => v = .pointer (some ⟨g, 0, none⟩) | 3 => v = .pointer (some ⟨g, 0, none⟩) | 4 => v = .agg #[.slice A m.work.length c, .slice A2 m.roads.length c2] | 5 => v = .int .i64 (n : Int) | _ => True) (fun _ _ => True) (fun li a' W => PhV g mp Z bb w.heap.size (w.heap.size + 1) sb n m A c A2 c2 T F lim W3 li a' W) (by kernel_rfl) (by kernel_rfl) ?_ (fun _ _ => trivial) trivial ⟨HI.out.keep ⟨rfl, rfl, rfl, Nat.le_refl _, fun _ _ => rfl⟩, fun e => by rw [getD_replicate_false] at e; cases e⟩ (by kernel_rfl) ?_ ?_
  · intro i v W1 W2 hb h; exact h
  · refine ⟨?_, ?_, ?_, ?_, ?_, ?_, ?_, trivial⟩
    · -- 0
      intro li a1 W2 hA K hK
      have e7 := hA.par 7 (by kernel_rfl)
      have b2 := hA.ph.sp.mem.b2.c1
      have b4 := hA.ph.sp.mem.b4.c1
      obtain ⟨a0, a1', _⟩ := hA.ph.sp.mem.at_.head
      refine opStep none 0 rfl rfl (fun c hc => by cases hc) ?_
      go_simp
      exact hK _ _ rfl trivial (hA.ph.other (by decide) (by decide) (Below.refl _ _))
    · -- 1
      intro li a1 W2 hA K hK
      have e2 := hA.par 2 (by kernel_rfl)
      have b2 := hA.ph.sp.mem.b2.c1
      have b4 := hA.ph.sp.mem.b4.c1
      obtain ⟨a0, a1', _⟩ := hA.ph.sp.mem.at_.head
      refine opStep none 0 rfl rfl (fun c hc => by cases hc) ?_
      go_simp
      exact hK _ _ rfl trivial (hA.ph.other (by decide) (by decide) (Below.refl _ _))
    · -- 2
      intro li a1 W2 hA K hK
      have e18 : a1.tmps.getD 18 undef = .pointer (some ⟨g, 0, none⟩) := hA.val 1 18 (by kernel_rfl) (by kernel_rfl)
      refine opStep none 0 rfl rfl (fun c hc => by cases hc) ?_
      go_simp
      exact hK _ _ rfl trivial (hA.ph.other (by decide) (by decide) (Below.refl _ _))
    · -- 3
      intro li a1 W2 hA K hK
      have e19 : a1.tmps.getD 19 undef = .pointer (some ⟨g, 0, none⟩) := hA.val 2 19 (by kernel_rfl) (by kernel_rfl)
      refine opStep none 0 rfl rfl (fun c hc => by cases hc) ?_
      go_simp
      exact hK _ _ rfl trivial (hA.ph.other (by decide) (by decide) (Below.refl _ _))
    · -- 4
      intro li a1 W2 hA K hK
      have e20 : a1.tmps.getD 20 undef = .pointer (some ⟨g, 0, none⟩) := hA.val 3 20 (by kernel_rfl) (by kernel_rfl)
      have b2 := hA.ph.sp.mem.b2.c1
      have b4 := hA.ph.sp.mem.b4.c1
      obtain ⟨a0, a1', _⟩ := hA.ph.sp.mem.at_.head
      refine opStep none 0 rfl rfl (fun c hc => by cases hc) ?_
      go_simp
      exact hK _ _ rfl trivial (hA.ph.other (by decide) (by decide) (Below.refl _ _))
    · -- 5
      intro li a1 W2 hA K hK
      have e21 : a1.tmps.getD 21 undef = .agg #[.slice A m.work.length c, .slice A2 m.roads.length c2] := hA.val 4 21 (by kernel_rfl) (by kernel_rfl)
      refine opStep none 0 rfl rfl (fun c hc => by cases hc) ?_
      go_simp
      refine (wwhole_any A m.work.length c (.slice A2 m.roads.length c2) W2 hN8).mono ?_
      rintro e W9 ⟨he, hb9⟩
      rw [show whN m.work.length = n from HN.out] at he
      subst he
      exact hK _ _ rfl trivial (hA.ph.other (by decide) (by decide) hb9)
    · -- 6
      intro li a1 W2 hA K hK
      have e17 : a1.tmps.getD 17 undef = .func (.func 102) #[] #[.pointer (some ⟨bb, 0, none⟩), .pointer (some ⟨w.heap.size, 0, none⟩), .pointer (some ⟨w.heap.size + 1, 0, none⟩), .pointer (some ⟨sb, 0, none⟩)] := hA.val 0 17 (by kernel_rfl) (by kernel_rfl)
      have e22 : a1.tmps.getD 22 undef = .int .i64 (n : Int) := hA.val 5 22 (by kernel_rfl) (by kernel_rfl)
      refine opStep none 0 rfl rfl (fun c hc => by cases hc) ?_
      go_simp
      refine (wsplit_any OK.out HT.out HWF.out.1 n n (Nat.le_refl _) (Nat.le_refl _) HBN.out W2 hA.ph.sp.mem).mono ?_
      rintro e W9 ⟨A0, L0, c0, rfl, hs9, hd9, hm9, hc9⟩
      exact hK _ _ trivial trivial ⟨hA.ph.sp.go hm9 hc9, fun _ => ⟨A0, L0, c0, put_getD_same (by rw [hA.size]; show 23 < 27; decide), hs9, hd9.elim .inl fun e => .inr e⟩⟩
  intro li a1 W2 hD
  obtain ⟨A0, L0, c0, e23, hs0, hd0⟩ := hD.ph.r (hD.all 6 (by decide))
  have hsp := hD.ph.sp
  have hsz9 : a1.tmps.size = 27 := hD.size
  have hkp2 := hD.keeps (ds := [17, 18, 19, 20, 21, 22, 23, 8]) (by kernel_rfl)
  refine tail_val (i := 7) (v := .slice A0 L0.length c0) (W' := W2) none 0 rfl rfl rfl (fun c hc => by cases hc) (by go_simp) (by rw [hsz9]; decide) ?_
  intro a3 s3 d3 f3 o3
  have hkp3 := keeps_then hkp2 o3 (by decide)
  have e := act_mix [17, 18, 19, 20, 21, 22, 23, 8] (s3.trans hD.size) (d3.trans hD.defers) (fun i _ hc => hkp3 i hc)
  have f6 : (fun i => a3.tmps.getD i undef) 8 = .slice A0 L0.length c0 := f3
  generalize (fun i => a3.tmps.getD i undef) = g' at e f6
  refine wpListIn_nil ?_
  rw [e]
  have HP := hid (And.intro hsp (And.intro hs0 hd0))
  clear e hD hkp2 hkp3 s3 d3 f3 o3 e23 hsz9 hsp hs0 hd0 HI
  simp only [mix, List.contains_cons, List.contains_nil, Nat.reduceAdd, Nat.reduceBEq, Bool.or_false, Bool.or_true, cond_true, cond_false, f6]
  clear f6
  have HCH := hid (show MChg (fun q => q = mp) w W2 from by
    have h1 := HP.out.1.ch
    exact ⟨h1.os.trans HBW.out.os, h1.tape.trans HBW.out.tape, h1.output.trans HBW.out.output, Nat.le_trans HBW.out.size h1.size, fun k hk hz => (h1.block k (Nat.lt_of_lt_of_le hk HBW.out.size) (fun e => e.elim hz (fun e => by omega))).trans (HBW.out.block k hk)⟩)
  have hneq1 := fun (B : Option Addr) (k j : Nat) (W : World) => run_neq_slice_nil_any (P := Tryz.prog) W 108 111 B k j 0 0 Tryz.underlying108
  cases A0 with
  | none =>
    go_wp2
    go_ret2
    exact .inl ⟨_, rfl, HCH.out⟩
  | some a0 =>
    have HF := hid (show WGivesDiv g mp m A c A2 c2 T F lim w (.returned (.tuple #[.slice (some a0) L0.length c0, .bool true])) W2 from .inr ⟨a0, L0, c0, rfl, HP.out.2.1, HP.out.2.2.elim (fun e => by cases e) (fun e => by rw [HN.out]; exact e.2), HP.out.1.mem.at_, HP.out.1.mem.tm, HCH.out⟩)
    go_wp2
    go_ret2
    exact HF.out
end Go.Proofs.YtlnamjhgbdacbaaGreat
/- divided: a map's atlas and its division, or the error. Conditions stand at each theorem. -/
namespace Go.Proofs.YtlnamjhgbdacbaaGreat
open Go.RowKit Go.Shelf

theorem wlimited_any (n : Int) (w : World) : Calls Tryz.prog 63 #[.int .i64 n] w fun e w' => e = .returned (.bool (inB n 0 10000)) ∧ w = w' := by
  go_enter Tryz.func63, Tryz.ntmps63
  go_wp2_with fail
  refine (wwithin_any _ _ _ _).mono ?_
  rintro e w2 ⟨rfl, rfl⟩
  go_wp2
  go_ret
  exact ⟨rfl, rfl⟩
/-- an atlas, just made -/
structure AtlV (b : Nat) (g mp : Nat) (m : WMD) (A : Option Addr) (c : Nat) (A2 : Option Addr) (c2 : Nat) (T F : Nat → Nat → Int) (W : World) : Prop where
  at_ : AtW W g mp m A c A2 c2 T F
  tm : TMem T mp W
  pd : PreD m m.work.length T F
  ne : g ≠ mp
  lo : b ≤ mp ∧ b ≤ g
section
variable {b g mp : Nat} {m : WMD} {A A2 : Option Addr} {c c2 : Nat} {T F : Nat → Nat → Int} {W W' : World}
theorem AtlV.keep (h : AtlV b g mp m A c A2 c2 T F W) (hb : Below W.heap.size W W') : AtlV b g mp m A c A2 c2 T F W' := ⟨h.at_.keep hb, h.tm.keep hb, h.pd, h.ne, h.lo⟩
theorem AtlV.bound (h : AtlV b g mp m A c A2 c2 T F W) : ∀ x y, x < m.N → y < m.N → 0 ≤ T x y ∧ T x y ≤ farI := fun x y hx hy => (h.pd y hy).col.lo x hx
end
theorem watlas_v (m : WMD) (A : Option Addr) (c : Nat) (A2 : Option Addr) (c2 : Nat) (w : World) (h : WIn m A c A2 c2 w) (ok : OkW m) : Calls Tryz.prog 43 #[.agg #[.slice A m.work.length c, .slice A2 m.roads.length c2]] w fun e w' =>
    ∃ g mp T F, e = .returned (.pointer (some ⟨g, 0, none⟩)) ∧ AtlV w.heap.size g mp m A c A2 c2 T F w' ∧ Below w.heap.size w w' :=
  (watlas_any m A c A2 c2 w h ok).mono fun e w' ⟨he, T, F, hs, hp⟩ => ⟨_, w.heap.size + 1, T, F, he, ⟨hs.at_, ⟨#[], 0, hs.mp, (fun x hx => by simp at hx), fun x hx => by simp at hx⟩, hp, by omega, by omega, by omega⟩, hs.below⟩
/-- what divided hands back -/
def GivesDvd (m : WMD) (A : Option Addr) (c : Nat) (A2 : Option Addr) (c2 : Nat) (lim : Int) (w : World) (e : Ending) (w' : World) : Prop :=
  (e = .returned (.tuple #[.pointer none, .slice none 0 0, .int .i64 9]) ∧ Below w.heap.size w w') ∨
  ∃ g mp T F A0 L c0, e = .returned (.tuple #[.pointer (some ⟨g, 0, none⟩), .slice (some A0) L.length c0, .int .i64 0]) ∧ AtlV w.heap.size g mp m A c A2 c2 T F w' ∧ SetsAt w' (some A0) L c0 ∧ Div m T lim (whN m.N) L ∧ Below w.heap.size w w'
set_option maxRecDepth 100000 in
set_option maxHeartbeats 4000000 in
theorem wdivided_any (m : WMD) (A : Option Addr) (c : Nat) (A2 : Option Addr) (c2 : Nat) (lim : Int) (w : World) (h : WIn m A c A2 c2 w) (ok : OkW m) (h0 : 0 ≤ lim) (h1 : lim ≤ 10000) :
    Calls Tryz.prog 35 #[.agg #[.slice A m.work.length c, .slice A2 m.roads.length c2], .int .i64 lim] w (GivesDvd m A c A2 c2 lim w) := by
  have hB := below_box (w := w) #[.slice A m.work.length c, .slice A2 m.roads.length c2] 65
  have hT := Blk.new w 65 #[.slice A m.work.length c, .slice A2 m.roads.length c2]
  have HAZ := hid (show ∀ a, A = some a → a.block < w.heap.size from fun a ea => by
    obtain ⟨x, hx⟩ : ∃ x, m.work[0]? = some x := ⟨_, List.getElem?_eq_getElem ok.w1⟩
    obtain ⟨a', e, hl, _⟩ := h.iw 0 x hx
    rw [ea] at e
    cases e
    exact hl)
  have HH := hid h
  have OK := hid ok
  have HS := hid (And.intro hB hT)
  have KC := hid (wcheck_ok m A c A2 c2 _ (h.at_ hB) ok)
  have hlim : inB lim 0 10000 = true := inB_iff.2 ⟨h0, h1⟩
  obtain ⟨t0, t1⟩ := hT.c2
  clear hB hT h ok
  go_enter Tryz.func35, Tryz.ntmps35
  go_wp2_with fail
  refine KC.out.mono ?_
  rintro e W1 ⟨rfl, hb⟩
  have H1 := hid (show Below w.heap.size w W1 ∧ Blk W1 w.heap.size 65 #[.slice A m.work.length c, .slice A2 m.roads.length c2] from ⟨HS.out.1.trans (hb.mono HS.out.1.size), HS.out.2.keep hb⟩)
  clear KC HS hb t0 t1
  go_wp2_with fail
  refine (wlimited_any lim W1).mono ?_
  rintro e w2 ⟨rfl, rfl⟩
  rw [hlim]
  obtain ⟨t0, t1⟩ := H1.out.2.c2
  have KA := hid (watlas_v m A c A2 c2 W1 (HH.out.at_ H1.out.1) OK.out)
  go_wp2_with fail
  refine KA.out.mono ?_
  rintro e W2 ⟨g, mp, T, F, rfl, hat, hb⟩
  have H2 := hid (show Below w.heap.size w W2 from H1.out.1.trans (hb.mono H1.out.1.size))
  have hsz := H1.out.1.size
  have HV := hid hat
  have HLO := hid (show w.heap.size ≤ mp ∧ w.heap.size ≤ g ∧ mp < W2.heap.size from ⟨Nat.le_trans hsz hat.lo.1, Nat.le_trans hsz hat.lo.2, hat.tm.lt⟩)
  have KD := hid (wdivide_any (lim := lim) OK.out hat.ne hat.bound W2 hat.at_ hat.tm (HH.out.iw.at_ H2.out) (fun a ea => ⟨by have := HAZ.out a ea; have := HLO.out.1; omega, by have := HAZ.out a ea; have := H2.out.size; omega⟩))
  clear KA hat hb t0 t1 H1 hsz
  go_wp2_with fail
  refine KD.out.mono ?_
  rintro e W3 (⟨v, rfl, hch⟩ | ⟨A0, L, c0, rfl, hss, hdv, hat3, htm3, hch⟩)
  · have H3 := hid (show Below w.heap.size w W3 from H2.out.trans (hch.below (n := w.heap.size) (fun k e => by have := HLO.out.1; omega) H2.out.size))
    clear KD hch
    go_wp2
    go_ret3
    exact .inl ⟨rfl, H3.out⟩
  · have HF := hid (show GivesDvd m A c A2 c2 lim w (.returned (.tuple #[.pointer (some ⟨g, 0, none⟩), .slice (some A0) L.length c0, .int .i64 0])) W3 from .inr ⟨g, mp, T, F, A0, L, c0, rfl, ⟨hat3, htm3, HV.out.pd, HV.out.ne, HLO.out.1, HLO.out.2.1⟩, hss, hdv, H2.out.trans (hch.below (n := w.heap.size) (fun k e => by have := HLO.out.1; omega) H2.out.size)⟩)
    clear KD hch hss hdv hat3 htm3
    go_wp2
    go_ret3
    exact HF.out
end Go.Proofs.YtlnamjhgbdacbaaGreat
/- Rows of ranges and of roads that a call makes; a map of places under construction. Conditions stand at each theorem. -/
namespace Go.Proofs.YtlnamjhgbdacbaaGreat
open Go.RowKit Go.Shelf

def rdL (r : Rd) : List Value := [.int .i64 r.a, .int .i64 r.b, .int .i64 r.lo, .int .i64 r.hi]
def rdsL (rs : List Rd) : List Value := rs.flatMap rdL
theorem rdsL_snoc (rs : List Rd) (r : Rd) : rdsL (rs ++ [r]) = rdsL rs ++ rdL r := by simp [rdsL]
theorem rdsL_at : ∀ {rs : List Rd} {k : Nat} {r : Rd}, rs[k]? = some r → (rdsL rs)[k * 4]? = some (.int .i64 r.a) ∧ (rdsL rs)[k * 4 + 1]? = some (.int .i64 r.b) ∧ (rdsL rs)[k * 4 + 2]? = some (.int .i64 r.lo) ∧ (rdsL rs)[k * 4 + 3]? = some (.int .i64 r.hi)
  | [], k, s, h => by simp at h
  | q :: l, 0, s, h => by
    simp at h; subst h
    exact ⟨rfl, rfl, rfl, rfl⟩
  | q :: l, k + 1, s, h => by
    have : rdsL (q :: l) = .int .i64 q.a :: .int .i64 q.b :: .int .i64 q.lo :: .int .i64 q.hi :: rdsL l := rfl
    have ih := rdsL_at (rs := l) (k := k) (r := s) (by simpa using h)
    rw [this, show (k + 1) * 4 = k * 4 + 1 + 1 + 1 + 1 by omega]
    exact ih
theorem rdL_one (r : Rd) : ∀ u ∈ rdL r, u.oneCell' = true := fun u hu => by
  simp only [rdL, List.mem_cons, List.not_mem_nil, or_false] at hu
  rcases hu with rfl | rfl | rfl | rfl <;> rfl
theorem own_rds {W : World} {base n e : Nat} {v : Value} {rs : List Rd} (h : W.ownsRow base e 4 v n (rdsL rs)) (hn : n = rs.length) : ∃ A c, v = .slice A rs.length c ∧ IsRds W W.heap.size A rs ∧ rs.length ≤ c ∧ c ≤ maxLen ∧ (∀ a, A = some a → base ≤ a.block) ∧ (A = none → c = 0) := by
  subst hn
  rcases h.2 with ⟨e, h0⟩ | ⟨z, cap, cur, e, hb, _, hl, hm, _⟩
  · have : rs = [] := List.eq_nil_of_length_eq_zero h0
    subst this
    exact ⟨none, 0, e, fun k p hk => by simp at hk, Nat.le_refl _, Nat.zero_le _, (fun a e => by cases e), fun _ => rfl⟩
  · refine ⟨some ⟨z, 0, none⟩, cap, e, fun k p hk => ?_, hl, hm, (fun a e => by cases e; exact hb), fun e => by cases e⟩
    obtain ⟨q1, q2, q3, q4⟩ := rdsL_at hk
    have c1 := h.cells (g := z) (by rw [e]; rfl) _ _ q1
    have c2 := h.cells (g := z) (by rw [e]; rfl) _ _ q2
    have c3 := h.cells (g := z) (by rw [e]; rfl) _ _ q3
    have c4 := h.cells (g := z) (by rw [e]; rfl) _ _ q4
    rw [add_blk] at c1 c2 c3 c4
    have hz := World.block_lt_of_cell? W _ c1
    refine ⟨⟨z, 0, none⟩, rfl, hz, ?_⟩
    rw [add_blk]
    exact ⟨c1, c2, c3, c4⟩
theorem wrng_info : (Tryz.prog.info? 87).map (fun i => (i.zero, i.size, i.bytes)) = some (some (.agg #[.int .i64 0, .int .i64 0]), 2, 16) := by kernel_rfl
theorem wroad_info : (Tryz.prog.info? 115).map (fun i => (i.zero, i.size, i.bytes)) = some (some (.agg #[.int .i64 0, .int .i64 0, .int .i64 0, .int .i64 0]), 4, 32) := by kernel_rfl
theorem rd_blk {W : World} {g t : Nat} {r : Rd} (h : Blk W g t (rdL r).toArray) : ∀ (k : Nat) (x : Value), (rdL r)[k]? = some x → W.cell? ((⟨g, 0, none⟩ : Addr).add k) = some x := by
  intro q x hq
  rw [add_blk, h.cell]
  simpa using hq
def set2 (W : World) (g : Nat) (u0 u1 : Value) : World := (W.setCell ⟨g, 0, none⟩ u0).setCell ⟨g, 1, none⟩ u1
theorem grown_set' (W : World) (p : Addr) (u : Value) : W.grownBy (W.setCell p u) (some p.block) := ⟨rfl, rfl, rfl, by simp [World.setCell], fun k _ hn => Below.heap_setCell W p u k (fun e => hn (by rw [e]))⟩
theorem grown2 (W : World) (g : Nat) (u0 u1 : Value) : W.grownBy (set2 W g u0 u1) (some g) := by
  have h := grown_set' W ⟨g, 0, none⟩ u0
  have k := grown_set' (W.setCell ⟨g, 0, none⟩ u0) ⟨g, 1, none⟩ u1
  exact ⟨k.os.trans h.os, k.tape.trans h.tape, k.output.trans h.output, Nat.le_trans h.size k.size, fun i hi hn => (k.block i (Nat.lt_of_lt_of_le hi h.size) hn).trans (h.block i hi hn)⟩
/-- the program's map of places under construction -/
structure WMapI (m : WMD) (A : Option Addr) (c : Nat) (A2 : Option Addr) (c2 : Nat) (Bo : Nat) (v1 v2 : Value) (k1 k2 : Nat) (w W : World) : Prop where
  bt : Blk W w.heap.size 55 #[.slice A m.work.length c, .slice A2 m.roads.length c2]
  b2 : Blk W (w.heap.size + 1) 65 #[.slice none 0 0, .slice none 0 0]
  bo : Blk W Bo 65 #[v1, v2]
  s1 : W.ownsRow w.heap.size 87 2 v1 k1 (jnsL (m.work.take k1))
  s2 : W.ownsRow w.heap.size 115 4 v2 k2 (rdsL (m.roads.take k2))
  bl : Below w.heap.size w W
  ne : w.heap.size + 1 < Bo
section
variable {m : WMD} {A : Option Addr} {c : Nat} {A2 : Option Addr} {c2 : Nat} {Bo : Nat} {v1 v2 v' : Value} {k1 k2 : Nat} {w W W' : World}
theorem WMapI.at_ (h : WMapI m A c A2 c2 Bo v1 v2 k1 k2 w W) (hb : Below W.heap.size W W') : WMapI m A c A2 c2 Bo v1 v2 k1 k2 w W' :=
  ⟨h.bt.keep hb, h.b2.keep hb, h.bo.keep hb, row_kept (vo := .slice none 0 0) h.s1 (grown_of_below hb _) (.inl rfl), row_kept (vo := .slice none 0 0) h.s2 (grown_of_below hb _) (.inl rfl), h.bl.trans (hb.mono h.bl.size), h.ne⟩
theorem WMapI.add1 {s : Jn} (h : WMapI m A c A2 c2 Bo v1 v2 k1 k2 w W) (hs : m.work[k1]? = some s) (hg : W.grownBy W' v1.ownBlock) (ho : W'.ownsRow w.heap.size 87 2 v' (k1 + 1) (jnsL (m.work.take k1) ++ jnL s)) :
    WMapI m A c A2 c2 Bo v' v2 (k1 + 1) k2 w (W'.setCell ⟨Bo, 0, none⟩ v') := by
  have hbo := blk_grown h.s1 hg h.bo (by decide)
  have hne := h.ne
  refine ⟨(blk_grown h.s1 hg h.bt (by decide)).far (p := ⟨Bo, 0, none⟩) (show w.heap.size ≠ Bo by omega) _, (blk_grown h.s1 hg h.b2 (by decide)).far (p := ⟨Bo, 0, none⟩) (show w.heap.size + 1 ≠ Bo by omega) _, hbo.set_ 0 v', ?_, ?_, ?_, h.ne⟩
  · rw [take_snoc_at hs, jnsL_snoc]
    exact row_set ho hbo (by decide) _
  · exact row_set (row_kept h.s2 hg (rows_ne h.s1 h.s2 (by decide))) hbo (by decide) _
  · exact (below_row' h.bl h.s1 (Nat.le_refl _) hg h.bl.size).setCell (p := ⟨Bo, 0, none⟩) (show w.heap.size ≤ Bo by omega) _
theorem WMapI.add2 {r : Rd} (h : WMapI m A c A2 c2 Bo v1 v2 k1 k2 w W) (hs : m.roads[k2]? = some r) (hg : W.grownBy W' v2.ownBlock) (ho : W'.ownsRow w.heap.size 115 4 v' (k2 + 1) (rdsL (m.roads.take k2) ++ rdL r)) :
    WMapI m A c A2 c2 Bo v1 v' k1 (k2 + 1) w (W'.setCell ⟨Bo, 1, none⟩ v') := by
  have hbo := blk_grown h.s2 hg h.bo (by decide)
  have hne := h.ne
  refine ⟨(blk_grown h.s2 hg h.bt (by decide)).far (p := ⟨Bo, 1, none⟩) (show w.heap.size ≠ Bo by omega) _, (blk_grown h.s2 hg h.b2 (by decide)).far (p := ⟨Bo, 1, none⟩) (show w.heap.size + 1 ≠ Bo by omega) _, hbo.set_ 1 v', ?_, ?_, ?_, h.ne⟩
  · exact row_set (row_kept h.s1 hg (rows_ne h.s2 h.s1 (by decide))) hbo (by decide) _
  · rw [take_snoc_at hs, rdsL_snoc]
    exact row_set ho hbo (by decide) _
  · exact (below_row' h.bl h.s2 (Nat.le_refl _) hg h.bl.size).setCell (p := ⟨Bo, 1, none⟩) (show w.heap.size ≤ Bo by omega) _
end
end Go.Proofs.YtlnamjhgbdacbaaGreat
/- Bounds of the carried counts; sums by the districts of borders. Conditions stand at each theorem. -/
namespace Go.Proofs.YtlnamjhgbdacbaaGreat

theorem parts_bounds {m : MapD} (ok : OkM m) {d : Nat} (hd : d < m.old.length) : ∀ x ∈ parts m d, 0 ≤ x ∧ x ≤ 10000 := by
  obtain ⟨dok, hne, _, _⟩ := div_ok (ok.divE hd)
  have hn : ∀ y ∈ parts m d, 0 ≤ y := by
    intro y hy
    obtain ⟨i, hi⟩ := List.mem_iff_getElem?.1 hy
    have hl : i < (wsTo m d m.ss.length).length := by
      have := (List.getElem?_eq_some_iff.1 hi).1
      unfold parts at this
      rwa [div_len] at this
    obtain ⟨x, hx⟩ : ∃ x, (wsTo m d m.ss.length)[i]? = some x := ⟨_, List.getElem?_eq_getElem hl⟩
    obtain ⟨h1, h2⟩ := div_near dok hne hx hi
    have h3 := dok.s0
    have h4 := (wsTo_mem (fun i hi => by have := ok.sAt hi; omega) (Nat.le_refl _) x (List.mem_of_getElem? hx)).1
    have h5 := (ok.atB hd).1
    have h6 : 0 ≤ m.at_ d * x := Int.mul_nonneg h5 h4
    rcases Int.lt_or_le y 0 with hy0 | hy0
    · exfalso
      have h7 : y * (wsTo m d m.ss.length).sum ≤ (-1) * (wsTo m d m.ss.length).sum := Int.mul_le_mul_of_nonneg_right (by omega) (by omega)
      omega
    · exact hy0
  intro x hx
  refine ⟨hn x hx, ?_⟩
  have h1 := sum_ge (parts m d) hn x hx
  have h2 : (parts m d).sum = m.at_ d := div_sum dok hne
  have h3 := (ok.atB hd).2
  omega
theorem putTo_mem {out : List Int} {at_ : List Nat} {ps : List Int} {P : Int → Prop} (ho : ∀ x ∈ out, P x) (hp : ∀ x ∈ ps, P x) : ∀ j, j ≤ ps.length → ∀ x ∈ putTo out at_ ps j, P x
  | 0, _, x, hx => ho x hx
  | j + 1, hj, x, hx => by
    rw [putTo] at hx
    rcases List.mem_or_eq_of_mem_set hx with h | h
    · exact putTo_mem ho hp j (by omega) x h
    · subst h
      rw [List.getD, List.getElem?_eq_getElem (by omega)]
      exact hp _ (List.getElem_mem _)
theorem carTo_bounds {m : MapD} (ok : OkM m) : ∀ d, d ≤ m.old.length → ∀ x ∈ carTo m d, 0 ≤ x ∧ x ≤ 10000
  | 0, _, x, hx => by
    rw [carTo] at hx
    obtain ⟨_, rfl⟩ := List.mem_replicate.1 hx
    omega
  | d + 1, hd, x, hx => by
    rw [carTo] at hx
    exact putTo_mem (carTo_bounds ok d (by omega)) (parts_bounds ok (by omega)) _ (by rw [parts_len]; exact Nat.le_refl _) x hx
theorem car_bounds {m : MapD} (ok : OkM m) : ∀ x ∈ car m, 0 ≤ x ∧ x ≤ 10000 := carTo_bounds ok _ (Nat.le_refl _)
theorem car_len (m : MapD) : (car m).length = m.ss.length := carTo_len m _
/-- the sums of the first k numbers by districts -/
def smTo (nw : Nat) (l : Nat → Int) (xs : List Int) : Nat → List Int
  | 0 => List.replicate nw 0
  | k + 1 => (smTo nw l xs k).set (l k).toNat ((smTo nw l xs k).getD (l k).toNat 0 + xs.getD k 0)
theorem smTo_len (nw : Nat) (l : Nat → Int) (xs : List Int) : ∀ k, (smTo nw l xs k).length = nw
  | 0 => by simp [smTo]
  | k + 1 => by rw [smTo, List.length_set, smTo_len nw l xs k]
theorem smTo_bounds {nw : Nat} {l : Nat → Int} {xs : List Int} {M : Int} (hM : 0 ≤ M) (hx : ∀ x ∈ xs, 0 ≤ x ∧ x ≤ M) : ∀ k, ∀ x ∈ smTo nw l xs k, 0 ≤ x ∧ x ≤ k * M
  | 0, x, h => by
    rw [smTo] at h
    obtain ⟨_, rfl⟩ := List.mem_replicate.1 h
    simp
  | k + 1, x, h => by
    have ih := smTo_bounds hM hx (nw := nw) (l := l) k
    have e : ((k + 1 : Nat) : Int) * M = k * M + M := by rw [Int.natCast_add, Int.add_mul]; simp
    have hg : 0 ≤ xs.getD k 0 ∧ xs.getD k 0 ≤ M := by
      by_cases hk : k < xs.length
      · rw [List.getD, List.getElem?_eq_getElem hk]
        exact hx _ (List.getElem_mem hk)
      · rw [List.getD, List.getElem?_eq_none (by omega)]
        exact ⟨Int.le_refl _, hM⟩
    have hkm : 0 ≤ (k : Int) * M := Int.mul_nonneg (by omega) hM
    rw [smTo] at h
    rcases List.mem_or_eq_of_mem_set h with h | h
    · have := ih x h
      omega
    · have hq : 0 ≤ (smTo nw l xs k).getD (l k).toNat 0 ∧ (smTo nw l xs k).getD (l k).toNat 0 ≤ k * M := by
        by_cases hq : (l k).toNat < (smTo nw l xs k).length
        · rw [List.getD, List.getElem?_eq_getElem hq]
          exact ih _ (List.getElem_mem hq)
        · rw [List.getD, List.getElem?_eq_none (by omega)]
          exact ⟨Int.le_refl _, hkm⟩
      omega
/-- sums of numbers of streets by the districts of borders -/
def smD (m : MapD) (l : Nat → Int) (xs : List Int) : List Int := smTo m.nw.toNat l xs xs.length
end Go.Proofs.YtlnamjhgbdacbaaGreat
/- The carried counts of all new districts. Conditions stand at each theorem. -/
namespace Go.Proofs.YtlnamjhgbdacbaaGreat
open Go.RowKit Go.Shelf

set_option maxRecDepth 100000 in
set_option maxHeartbeats 2000000 in
theorem summed_any (m : MapD) (A : Option Addr) (c : Nat) (A2 : Option Addr) (c2 : Nat) (A3 : Option Addr) (c3 : Nat) (w : World) (h : MIn m A c A2 c2 A3 c3 w) (ok : OkM m) :
    Calls Tryz.prog 24 #[.agg #[.slice A m.old.length c, .int .i64 m.nw, .slice A2 m.ss.length c2, .slice A3 m.js.length c3]] w (GivesInts (smD m (ownL m) (car m)) w) := by
  have hs8 := ok.s8
  have hn1 := ok.n1
  have hn4 := ok.n4
  obtain ⟨N, hN⟩ : ∃ N : Nat, m.nw = (N : Int) := ⟨m.nw.toNat, by omega⟩
  have hN4 : N ≤ 4 := by omega
  have hB := below_box (w := w) #[.slice A m.old.length c, .int .i64 m.nw, .slice A2 m.ss.length c2, .slice A3 m.js.length c3] 36
  have hT := Blk.new w 36 #[.slice A m.old.length c, .int .i64 m.nw, .slice A2 m.ss.length c2, .slice A3 m.js.length c3]
  have hmk := run_make_row' (P := Tryz.prog) 22 3 (.int .i64 0) 8 Tryz.underlying22 int_info rfl .i64 .i64 N (by omega) (by omega)
  have hl2 := h.l2
  have hm2 := h.m2
  unfold maxLen at hm2
  have HH := hid h
  have OK := hid ok
  have HS := hid (show Blk ((w.alloc (.cells #[.slice A m.old.length c, .int .i64 m.nw, .slice A2 m.ss.length c2, .slice A3 m.js.length c3] 36)).alloc (.cells (madeCells #[.int .i64 0] N) 3)) (w.heap.size + 1) 3 (intC (smTo N (ownL m) (car m) 0)) ∧ Below w.heap.size w ((w.alloc (.cells #[.slice A m.old.length c, .int .i64 m.nw, .slice A2 m.ss.length c2, .slice A3 m.js.length c3] 36)).alloc (.cells (madeCells #[.int .i64 0] N) 3)) ∧ Blk ((w.alloc (.cells #[.slice A m.old.length c, .int .i64 m.nw, .slice A2 m.ss.length c2, .slice A3 m.js.length c3] 36)).alloc (.cells (madeCells #[.int .i64 0] N) 3)) w.heap.size 36 #[.slice A m.old.length c, .int .i64 m.nw, .slice A2 m.ss.length c2, .slice A3 m.js.length c3] from
    ⟨by have := Blk.new (w.alloc (.cells #[.slice A m.old.length c, .int .i64 m.nw, .slice A2 m.ss.length c2, .slice A3 m.js.length c3] 36)) 3 (madeCells #[.int .i64 0] N); rw [intC_zero] at this ⊢; rwa [World.size_alloc] at this, hB.alloc hB.size _, hT.alloc _⟩)
  have KC := hid (carried_any m A c A2 c2 A3 c3 _ (h.at_ HS.out.2.1) ok)
  have hcl := car_len m
  obtain ⟨t0, t1, t2, t3⟩ := hT.c4
  have bl := hT.lt
  rw [World.size_alloc] at bl
  rw [← hN] at hmk
  have HN := hid hN
  have hcl8 : (car m).length ≤ 8 := by omega
  have HCL := hid hcl
  clear h ok hB hT hN hcl
  go_enter Tryz.func24, Tryz.ntmps24
  go_wp2_with fail
  refine KC.out.mono ?_
  rintro e w2 ⟨A5, c5, rfl, q1, q2, q3, q4, q5, hb5⟩
  have H2 := hid (And.intro (HS.out.1.keep hb5) (And.intro (HS.out.2.1.trans (hb5.mono HS.out.2.1.size)) (HS.out.2.2.keep hb5)))
  have HI := hid (And.intro q3 (fun a e => (q4 a e).1))
  have HSZ := hid (show w.heap.size + 1 < ((w.alloc (.cells #[.slice A m.old.length c, .int .i64 m.nw, .slice A2 m.ss.length c2, .slice A3 m.js.length c3] 36)).alloc (.cells (madeCells #[.int .i64 0] N) 3)).heap.size from HS.out.1.lt)
  unfold maxLen at q2
  clear KC q3 q4 q5 hb5 t0 t1 t2 t3 hmk HS bl
  go_wp2
  go_loopw [12] (fun i W => ∃ k : Nat, k ≤ (car m).length ∧ i = .int .i64 k ∧ Blk W (w.heap.size + 1) 3 (intC (smTo N (ownL m) (car m) k)) ∧ MChg (fun q => q = w.heap.size + 1) w2 W) (fun i _ => (car m).length - (intOf i).toNat)
  case atStart => exact ⟨0, Nat.zero_le _, rfl, H2.out.1, MChg.refl⟩
  case round =>
    obtain ⟨k, hk, rfl, hbo, hcg⟩ := hrel
    have hbm := hcg.blk H2.out.2.2 (fun e => by omega)
    obtain ⟨t0, t1, t2, t3⟩ := hbm.c4
    by_cases hlt : k < (car m).length
    · have hkI : (k : Int) < ((car m).length : Int) := by omega
      have hks : k < m.ss.length := by have := HCL.out; omega
      have hksI : (k : Int) < (m.ss.length : Int) := by omega
      obtain ⟨x, hx⟩ : ∃ x, (car m)[k]? = some x := ⟨_, List.getElem?_eq_getElem hlt⟩
      obtain ⟨a5, e5, g1, g2⟩ := HI.out.1 k x hx
      have n5 := HI.out.2 a5 e5
      replace g2 := hcg.keep.cell g2 (by rw [block_of_add]; have := HSZ.out; omega)
      obtain ⟨s, hs⟩ : ∃ s, m.ss[k]? = some s := ⟨_, List.getElem?_eq_getElem hks⟩
      have hbw : Below w.heap.size w wr := H2.out.2.1.trans (hcg.below (fun q e => by omega) H2.out.2.1.size)
      obtain ⟨a, e2, g3, f0, f1, f2, f3, f4⟩ := (HH.out.at_ hbw).is k s hs
      have hso := OK.out.sAt hks
      rw [MapD.S_eq hs] at hso
      obtain ⟨q, hq⟩ : ∃ q : Nat, s.n = (q : Int) := ⟨s.n.toNat, by omega⟩
      have hqN : q < N := by have := HN.out; omega
      have hqI : (q : Int) < (N : Int) := by omega
      rw [hq] at f1
      obtain ⟨y, hy⟩ : ∃ y, (smTo N (ownL m) (car m) k)[q]? = some y := ⟨_, List.getElem?_eq_getElem (by rw [smTo_len]; exact hqN)⟩
      have yo := hbo.cell q
      rw [intC_get hy] at yo
      have fo := hbo.frozen q
      have lo := hbo.lt
      obtain ⟨yb1, yb2⟩ := smTo_bounds (M := 10000) (by omega) (car_bounds OK.out) k y (List.mem_of_getElem? hy)
      obtain ⟨xb1, xb2⟩ := car_bounds OK.out x (List.mem_of_getElem? hx)
      have HNX := hid (show Blk (wr.setCell ⟨w.heap.size + 1, q, none⟩ (.int .i64 (y + x))) (w.heap.size + 1) 3 (intC (smTo N (ownL m) (car m) (k + 1))) ∧ MChg (fun q => q = w.heap.size + 1) w2 (wr.setCell ⟨w.heap.size + 1, q, none⟩ (.int .i64 (y + x))) by
        refine ⟨?_, hcg.set rfl _⟩
        have := hbo.set_ q (.int .i64 (y + x))
        rw [intC_set] at this
        rw [smTo, show (ownL m k).toNat = q by unfold ownL; rw [MapD.S_eq hs, hq]; omega, List.getD, hy, List.getD, hx]
        exact this)
      subst e5 e2
      clear hbo hcg hbm hbw hx n5 hs hso hq hy g1 g3
      go_wp2
      go_roundw
      case rel => exact ⟨k + 1, by omega, by go_num, HNX.out⟩
      case measure => first | (simp [intOf]; done) | (simp [intOf]; omega)
    · have hkI : decide ((k : Int) < ((car m).length : Int)) = false := by simp; omega
      obtain rfl : k = (car m).length := by omega
      have hbe : Below w.heap.size w wr := H2.out.2.1.trans (hcg.below (fun q e => by omega) H2.out.2.1.size)
      have hsl : (smD m (ownL m) (car m)).length = N := by unfold smD; rw [smTo_len, HN.out]; omega
      have HFIN := hid (show GivesInts (smD m (ownL m) (car m)) w (.returned (.slice (some ⟨w.heap.size + 1, 0, none⟩) N N)) wr by
        have hbf : Blk wr (w.heap.size + 1) 3 (intC (smD m (ownL m) (car m))) := by unfold smD; rw [HN.out, Int.toNat_natCast]; exact hbo
        refine ⟨some ⟨w.heap.size + 1, 0, none⟩, N, by rw [hsl], by rw [hsl]; exact Nat.le_refl _, by unfold maxLen; omega, fun i y hy => ⟨_, rfl, hbf.lt, ?_⟩, fun a e => ?_, (fun e => by cases e), hbe⟩
        · rw [add_blk, hbf.cell]; exact intC_get hy
        · injection e with e
          subst e
          exact ⟨Nat.le_succ _, _, hbf⟩)
      clear hbo hcg hbm hbe hsl
      go_wp2
      go_ret
      exact HFIN.out

def GivesCarry (m : MapD) (w : World) (e : Ending) (w' : World) : Prop :=
  ∃ p q : Option Addr × Nat, e = .returned (.tuple #[.slice p.1 (car m).length p.2, .slice q.1 (smD m (ownL m) (car m)).length q.2, .int .i64 0]) ∧ IsInts w' w'.heap.size p.1 (car m) ∧ (car m).length ≤ p.2 ∧ p.2 ≤ maxLen ∧ IsInts w' w'.heap.size q.1 (smD m (ownL m) (car m)) ∧ (smD m (ownL m) (car m)).length ≤ q.2 ∧ q.2 ≤ maxLen ∧ Below w.heap.size w w'
set_option maxRecDepth 100000 in
set_option maxHeartbeats 2000000 in
theorem carry_any (m : MapD) (A : Option Addr) (c : Nat) (A2 : Option Addr) (c2 : Nat) (A3 : Option Addr) (c3 : Nat) (w : World) (h : MIn m A c A2 c2 A3 c3 w) :
    Calls Tryz.prog 8 #[.agg #[.slice A m.old.length c, .int .i64 m.nw, .slice A2 m.ss.length c2, .slice A3 m.js.length c3]] w fun e w' => if chkM m ≠ 0 then e = .returned (.tuple #[.slice none 0 0, .slice none 0 0, .int .i64 (chkM m)]) ∧ Below w.heap.size w w' else GivesCarry m w e w' := by
  have hB := below_box (w := w) #[.slice A m.old.length c, .int .i64 m.nw, .slice A2 m.ss.length c2, .slice A3 m.js.length c3] 36
  have hT := Blk.new w 36 #[.slice A m.old.length c, .int .i64 m.nw, .slice A2 m.ss.length c2, .slice A3 m.js.length c3]
  obtain ⟨t0, t1, t2, t3⟩ := hT.c4
  have HB := hid hB
  have HT := hid hT
  have HH := hid h
  have KC := hid (checkm_any m A c A2 c2 A3 c3 _ (h.at_ hB))
  clear h hB hT
  by_cases hc : chkM m = 0
  · rw [hc] at KC
    simp only [hc, ne_eq, not_true_eq_false, if_false]
    have OK := hid (chk_okm hc)
    clear hc
    go_enter Tryz.func8, Tryz.ntmps8
    go_wp2_with fail
    refine KC.out.mono ?_
    rintro e wc ⟨rfl, hb⟩
    have HBC := hid (HB.out.trans (hb.mono HB.out.size))
    have HTC := hid (HT.out.keep hb)
    clear hb KC t0 t1 t2 t3
    go_wp2
    refine (wpIn_wide (n := 0)).1 ?_
    refine wpIn_region_each 4 (fun i v W' => match i with | 0 => v = .agg #[.slice A m.old.length c, .int .i64 m.nw, .slice A2 m.ss.length c2, .slice A3 m.js.length c3] | 1 => ∃ (p5 : Option Addr × Nat), v = .slice p5.1 (car m).length p5.2 ∧ IsInts W' W'.heap.size p5.1 (car m) ∧ ((car m).length ≤ p5.2 ∧ p5.2 ≤ maxLen) | 2 => v = .agg #[.slice A m.old.length c, .int .i64 m.nw, .slice A2 m.ss.length c2, .slice A3 m.js.length c3] | 3 => ∃ (p6 : Option Addr × Nat), v = .slice p6.1 (smD m (ownL m) (car m)).length p6.2 ∧ IsInts W' W'.heap.size p6.1 (smD m (ownL m) (car m)) ∧ ((smD m (ownL m) (car m)).length ≤ p6.2 ∧ p6.2 ≤ maxLen) | _ => True) (fun A B => Below A.heap.size A B) (fun _ _ => True) (by kernel_rfl) (by kernel_rfl) ?_ (fun h k => h.trans (k.mono h.size)) ⟨rfl, rfl, rfl, Nat.le_refl _, fun _ _ => rfl⟩ trivial (by kernel_rfl) ?_ ?_
    · intro i v W1 W2 hb h
      match i, h with
      | 0, h => exact h
      | 1, h =>
        obtain ⟨p5, rfl, h1⟩ := h
        exact ⟨_, rfl, h1.1.at_ hb, h1.2⟩
      | 2, h => exact h
      | 3, h =>
        obtain ⟨p6, rfl, h1⟩ := h
        exact ⟨_, rfl, h1.1.at_ hb, h1.2⟩
      | i + 4, h => trivial
    · refine ⟨?_, ?_, ?_, ?_, trivial⟩
      · -- 0
        intro li a1 W2 hA K hK
        have e1 := hA.par 1 (by kernel_rfl)
        obtain ⟨q1, q2, q3, q4⟩ := (HTC.out.keep hA.st).c4
        refine opStep none 0 rfl rfl (fun c hc => by cases hc) ?_
        go_simp
        exact hK _ _ rfl (Below.refl _ _) trivial
      · -- 1
        intro li a1 W2 hA K hK
        have e11 : a1.tmps.getD 11 undef = .agg #[.slice A m.old.length c, .int .i64 m.nw, .slice A2 m.ss.length c2, .slice A3 m.js.length c3] := hA.val 0 11 (by kernel_rfl) (by kernel_rfl)
        refine opStep none 0 rfl rfl (fun c hc => by cases hc) ?_
        go_simp
        refine (carried_any m A c A2 c2 A3 c3 _ ((HH.out.at_ HBC.out).at_ hA.st) OK.out).mono ?_
        rintro e W4 ⟨A5, c5, rfl, g1, g2, g3, g4, g5, hb⟩
        exact hK _ _ ⟨(A5, c5), rfl, g3, g1, g2⟩ hb trivial
      · -- 2
        intro li a1 W2 hA K hK
        have e1 := hA.par 1 (by kernel_rfl)
        obtain ⟨q1, q2, q3, q4⟩ := (HTC.out.keep hA.st).c4
        refine opStep none 0 rfl rfl (fun c hc => by cases hc) ?_
        go_simp
        exact hK _ _ rfl (Below.refl _ _) trivial
      · -- 3
        intro li a1 W2 hA K hK
        have e13 : a1.tmps.getD 13 undef = .agg #[.slice A m.old.length c, .int .i64 m.nw, .slice A2 m.ss.length c2, .slice A3 m.js.length c3] := hA.val 2 13 (by kernel_rfl) (by kernel_rfl)
        refine opStep none 0 rfl rfl (fun c hc => by cases hc) ?_
        go_simp
        refine (summed_any m A c A2 c2 A3 c3 _ ((HH.out.at_ HBC.out).at_ hA.st) OK.out).mono ?_
        rintro e W4 ⟨A5, c5, rfl, g1, g2, g3, g4, g5, hb⟩
        exact hK _ _ ⟨(A5, c5), rfl, g3, g1, g2⟩ hb trivial
    · intro li a1 W2 hD
      obtain ⟨p5, e12, h2⟩ := hD.val 1 12 (by kernel_rfl) (by kernel_rfl)
      obtain ⟨p6, e14, h3⟩ := hD.val 3 14 (by kernel_rfl) (by kernel_rfl)
      have hd : a1.defers = [] := hD.defers
      have hst := hD.st
      have hsz : a1.tmps.size = 15 := hD.size
      have HFIN := hid (show GivesCarry m w (.returned (.tuple #[.slice p5.1 (car m).length p5.2, .slice p6.1 (smD m (ownL m) (car m)).length p6.2, .int .i64 0])) W2 from ⟨p5, p6, rfl, h2.1, h2.2.1, h2.2.2, h3.1, h3.2.1, h3.2.2, HBC.out.trans (hst.mono HBC.out.size)⟩)
      clear hD h2 h3 hst
      refine tail_val (i := 4) (v := .slice p5.1 (car m).length p5.2) (W' := W2) none 0 rfl rfl rfl (fun c hc => by cases hc) (by go_simp) (by rw [hsz]; decide) ?_
      intro a2 s2 d2 f2 o2
      have e14' : a2.tmps.getD 14 undef = .slice p6.1 (smD m (ownL m) (car m)).length p6.2 := (o2 14 (by decide)).trans e14
      refine tail_val (i := 5) (v := .slice p6.1 (smD m (ownL m) (car m)).length p6.2) (W' := W2) none 0 rfl rfl rfl (fun c hc => by cases hc) (by go_simp) (by rw [s2, hsz]; decide) ?_
      intro a3 s3 d3 f3 o3
      refine tail_val (i := 6) (v := .int .i64 0) (W' := W2) none 0 rfl rfl rfl (fun c hc => by cases hc) (by go_simp) (by rw [s3, s2, hsz]; decide) ?_
      intro a4 s4 d4 f4 o4
      have e2 : a4.tmps.getD 2 undef = .slice p5.1 (car m).length p5.2 := ((o4 2 (by decide)).trans (o3 2 (by decide))).trans f2
      have e3 : a4.tmps.getD 3 undef = .slice p6.1 (smD m (ownL m) (car m)).length p6.2 := (o4 3 (by decide)).trans f3
      have hd4 : a4.defers = [] := (d4.trans (d3.trans d2)).trans hd
      clear e12 e14 e14' s2 s3 s4 d2 d3 d4 o2 o3 o4 f2 f3 hd hsz
      refine wpListIn_nil ?_
      go_wp2
      exact bodyPost_ret (v := .tuple #[.slice p5.1 (car m).length p5.2, .slice p6.1 (smD m (ownL m) (car m)).length p6.2, .int .i64 0]) (by simp only [Array.getD_eq_getD_getElem?] at e2 e3 f4; simp [results, Tryz.results8, go_sem, e2, e3, f4]) hd4 HFIN.out
  · have hne : (chkM m != 0) = true := by simp [hc]
    simp only [ne_eq, hc, not_false_eq_true, if_true]
    obtain ⟨z, hz⟩ : ∃ z, chkM m = z := ⟨_, rfl⟩
    rw [hz] at KC hne ⊢
    clear hc hz
    go_enter Tryz.func8, Tryz.ntmps8
    go_wp2_with fail
    refine KC.out.mono ?_
    rintro e wc ⟨rfl, hb⟩
    have HBC := hid (HB.out.trans (hb.mono HB.out.size))
    clear hb KC t0 t1 t2 t3
    go_wp2
    go_ret3
    exact ⟨rfl, HBC.out⟩
end Go.Proofs.YtlnamjhgbdacbaaGreat
