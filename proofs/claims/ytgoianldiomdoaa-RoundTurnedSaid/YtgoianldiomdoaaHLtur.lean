/- For every table, if rows and columns are exchanged, there are as many roundings, and the smallest change is the same: the statement RoundTurned. No condition. -/
import Derived.Test.YtgoianldiomdoaaG12
namespace Go.Proofs.Ytgoianldiomdoaa
open Go.RowKit Go.Shelf

set_option maxRecDepth 100000 in
set_option maxHeartbeats 600000 in
theorem turned_not (b : Int) (A : Option Addr) (c : Nat) (cs : List (List Int)) (A2 : Option Addr) (c2 : Nat) (fs : List Fx) (w : World) (h : TIn A c cs A2 c2 fs w) (hr : readyB b cs fs = false) :
    Calls Try.prog 8 #[.agg #[.int .i64 b, .slice A cs.length c, .slice A2 fs.length c2]] w fun e w' => e = .returned (.bool true) ∧ Below w.heap.size w w' := by
  have hB := below_box (w := w) #[.int .i64 b, .slice A cs.length c, .slice A2 fs.length c2] 25
  have hT := Blk.new w 25 #[.int .i64 b, .slice A cs.length c, .slice A2 fs.length c2]
  have HB0 := hid hB
  have HT0 := hid hT
  have HH := hid h
  obtain ⟨t0, t1, t2⟩ := hT.c3
  clear h hB hT
  have HRD := hid hr
  clear hr
  go_enter Try.func8, Try.ntmps8
  have K1 := hid (ready_any b A c cs A2 c2 fs _ (HH.out.at_ HB0.out))
  rw [HRD.out] at K1
  go_wp2_with fail
  refine K1.out.mono ?_
  rintro e w1 ⟨rfl, hb⟩
  have HB1 := hid (HB0.out.trans (hb.mono HB0.out.size))
  have HT1 := hid (HT0.out.keep hb)
  clear hb K1 t0 t1 t2
  obtain ⟨t0, t1, t2⟩ := HT1.out.c3
  have K2 := hid (awake_any w1)
  go_wp2_with fail
  refine K2.out.mono ?_
  rintro e w2 ⟨rfl, hb⟩
  have HB2 := hid (HB1.out.trans (hb.mono HB1.out.size))
  have HT2 := hid (HT1.out.keep hb)
  clear hb K2 t0 t1 t2
  obtain ⟨t0, t1, t2⟩ := HT2.out.c3
  clear t0 t1 t2
  go_wp2
  go_ret
  exact ⟨rfl, HB2.out⟩

set_option maxRecDepth 100000 in
set_option maxHeartbeats 600000 in
theorem turned_big (b : Int) (A : Option Addr) (c : Nat) (cs : List (List Int)) (A2 : Option Addr) (c2 : Nat) (fs : List Fx) (w : World) (h : TIn A c cs A2 c2 fs w) (hr : readyB b cs fs = true) (h4 : 4 < cs.length) :
    Calls Try.prog 8 #[.agg #[.int .i64 b, .slice A cs.length c, .slice A2 fs.length c2]] w fun e w' => e = .returned (.bool true) ∧ Below w.heap.size w w' := by
  have hB := below_box (w := w) #[.int .i64 b, .slice A cs.length c, .slice A2 fs.length c2] 25
  have hT := Blk.new w 25 #[.int .i64 b, .slice A cs.length c, .slice A2 fs.length c2]
  have HB0 := hid hB
  have HT0 := hid hT
  have HH := hid h
  obtain ⟨t0, t1, t2⟩ := hT.c3
  clear h hB hT
  have HRD := hid hr
  have h4I : (4 : Int) < (cs.length : Int) := by omega
  clear hr h4
  go_enter Try.func8, Try.ntmps8
  have K1 := hid (ready_any b A c cs A2 c2 fs _ (HH.out.at_ HB0.out))
  rw [HRD.out] at K1
  go_wp2_with fail
  refine K1.out.mono ?_
  rintro e w1 ⟨rfl, hb⟩
  have HB1 := hid (HB0.out.trans (hb.mono HB0.out.size))
  have HT1 := hid (HT0.out.keep hb)
  clear hb K1 t0 t1 t2
  obtain ⟨t0, t1, t2⟩ := HT1.out.c3
  have K2 := hid (awake_any w1)
  go_wp2_with fail
  refine K2.out.mono ?_
  rintro e w2 ⟨rfl, hb⟩
  have HB2 := hid (HB1.out.trans (hb.mono HB1.out.size))
  have HT2 := hid (HT1.out.keep hb)
  clear hb K2 t0 t1 t2
  obtain ⟨t0, t1, t2⟩ := HT2.out.c3
  clear t0 t1 t2
  go_wp2
  go_ret
  exact ⟨rfl, HB2.out⟩

set_option maxRecDepth 100000 in
set_option maxHeartbeats 600000 in
theorem turned_ok (b : Int) (A : Option Addr) (c : Nat) (cs : List (List Int)) (A2 : Option Addr) (c2 : Nat) (fs : List Fx) (w : World) (h : TIn A c cs A2 c2 fs w) (hr : readyB b cs fs = true) (h4 : cs.length ≤ 4) :
    Calls Try.prog 8 #[.agg #[.int .i64 b, .slice A cs.length c, .slice A2 fs.length c2]] w fun e w' => e = .returned (.bool true) ∧ Below w.heap.size w w' := by
  have hB := below_box (w := w) #[.int .i64 b, .slice A cs.length c, .slice A2 fs.length c2] 25
  have hT := Blk.new w 25 #[.int .i64 b, .slice A cs.length c, .slice A2 fs.length c2]
  have HB0 := hid hB
  have HT0 := hid hT
  have HH := hid h
  obtain ⟨t0, t1, t2⟩ := hT.c3
  clear h hB hT
  have HRD := hid hr
  have HCK := hid (ready_chk hr)
  have OK := hid (chk_ok (ready_chk hr))
  have hn5 := OK.out.okc.n2
  have hn1 := OK.out.okc.n1
  have hc4 := OK.out.okc.c2
  have hf100 := OK.out.n
  have hb1 := OK.out.okc.b1
  have HCX := hid (fun (xs : List Int) (hx : xs ∈ cs) => show xs.length ≤ 1000 by have := OK.out.okc.row xs hx; omega)
  clear hr
  have hm1 := HH.out.m1
  have hl1 := HH.out.l1
  have hm2 := HH.out.m2
  have hl2 := HH.out.l2
  have hf10 := chk_ten HCK.out
  obtain ⟨X, hX⟩ : ∃ X, X = turnT cs.length (colsOf cs) cs := ⟨_, rfl⟩
  obtain ⟨FS, hFS⟩ : ∃ FS, FS = fs.map swapF := ⟨_, rfl⟩
  have HXL := hid (show X.length = colsOf cs by rw [hX]; exact turn_len _ _ _)
  have HFL := hid (show FS.length = fs.length by rw [hFS, List.length_map])
  have HFK := hid (show ∀ (k : Nat) (f : Fx), fs[k]? = some f → FS[k]? = some (swapF f) from fun k f hk => by rw [hFS, List.getElem?_map, hk]; rfl)
  have HXR := hid (show ∀ (k : Nat), k < colsOf cs → X[k]? = some ((List.range cs.length).map fun i => cellA cs i k) from fun k hk => by rw [hX]; unfold turnT; rw [List.getElem?_map, List.getElem?_range hk]; rfl)
  have HXC := hid (show ∀ xs ∈ X, xs.length ≤ 1000 from fun xs hx => by
    rw [hX] at hx
    rw [turn_row hx]; omega)
  have HXX := hid (show colsOf X ≤ 1000 by rw [hX, turn_cols cs (by have := OK.out.okc.c1; omega)]; omega)
  have HXK := hid (show chkE b X FS = 0 by rw [hX, hFS]; exact chk_turn HCK.out h4 hf10)
  have hts := turn_same HCK.out h4
  rw [← hX, ← hFS] at hts
  have HWE := hid hts.1
  have HBE := hid (show bchg b X FS = bchg b cs fs ∧ berr b X FS = berr b cs fs by
    unfold bchg berr
    by_cases hw : (spec b cs fs cs.length zeroS).ways = 0
    · rw [hts.1]; simp only [if_pos hw]; exact ⟨trivial, trivial⟩
    · rw [hts.1]; simp only [if_neg hw]; exact ⟨hts.2 hw, trivial⟩)
  have h4I : decide ((4 : Int) < (cs.length : Int)) = false := decide_eq_false (by omega)
  clear hX hFS hts
  unfold maxLen at hm1 hm2
  go_enter Try.func8, Try.ntmps8
  have K1 := hid (ready_any b A c cs A2 c2 fs _ (HH.out.at_ HB0.out))
  rw [HRD.out] at K1
  go_wp2_with fail
  refine K1.out.mono ?_
  rintro e w1 ⟨rfl, hb⟩
  have HB1 := hid (HB0.out.trans (hb.mono HB0.out.size))
  have HT1 := hid (HT0.out.keep hb)
  clear hb K1 t0 t1 t2
  obtain ⟨t0, t1, t2⟩ := HT1.out.c3
  go_wp2
  obtain ⟨Bx, hBx⟩ : ∃ Bx, Bx = w1.heap.size := ⟨_, rfl⟩
  refine gen (p := Code.wp _ _ _ _) (fun W => XI b A c cs A2 c2 fs Bx X 0 (.slice none 0 0) w W) ?_ ?_
  · have hb1' := (HB1.out).alloc HB1.out.size (.cells #[.int .i64 b, .slice none 0 0, .slice none 0 0] 25)
    have hx := Blk.new w1 25 #[.int .i64 b, .slice none 0 0, .slice none 0 0]
    rw [← hBx] at hx
    exact ⟨HT1.out.alloc _, hx, Rows_.zero, hb1', by have := HT1.out.lt; omega⟩
  rw [← hBx]
  have HBx := hid hBx
  clear hBx t0 t1 t2
  intro W0 hi
  have HI := hid hi
  clear hi
  go_loopw [4] (fun i wr => ∃ (k : Nat) (v : Value), k ≤ colsOf cs ∧ i = .int .i64 k ∧ XI b A c cs A2 c2 fs Bx X k v w wr) (fun i _ => colsOf cs - (intOf i).toNat)
  case atStart => exact ⟨0, _, Nat.zero_le _, rfl, HI.out⟩
  case round =>
    obtain ⟨k, v, hk, rfl, hi⟩ := hrel
    clear HI
    have HI := hid hi
    obtain ⟨t0, t1, t2⟩ := hi.tb.c3
    have KC := hid (rcols_any (.int .i64 b) (.slice A2 fs.length c2) A c cs wr (HH.out.at_ hi.below).ic)
    clear hi
    go_wp2_with fail
    refine KC.out.mono ?_
    rintro e wc ⟨rfl, hbc⟩
    have HI0 := hid (HI.out.at_ hbc)
    clear HI KC t0 t1 t2 hbc
    have HI := hid HI0.out
    clear HI0
    obtain ⟨t0, t1, t2⟩ := HI.out.tb.c3
    by_cases hlt : k < colsOf cs
    · have hkI : (k : Int) < (colsOf cs : Int) := by omega
      have hxs0 := HXR.out k hlt
      obtain ⟨xs, hxs⟩ : ∃ xs, xs = (List.range cs.length).map fun i => cellA cs i k := ⟨_, rfl⟩
      rw [← hxs] at hxs0
      have HXS := hid hxs0
      have HXL2 := hid (show xs.length = cs.length by rw [hxs]; simp)
      have HXG := hid (show ∀ (j : Nat), j < cs.length → xs[j]? = some (cellA cs j k) from fun j hj => by rw [hxs, List.getElem?_map, List.getElem?_range hj]; rfl)
      clear hxs hxs0
      go_wp2
      clear t0 t1 t2
      go_loopw [6, 5] (fun i u W => ∃ j : Nat, j ≤ cs.length ∧ i = .int .i64 j ∧ W.ownsRow wc.heap.size 3 1 u j ((xs.take j).map (Value.int .i64)) ∧ Below wc.heap.size wc W) (fun i _ _ => cs.length - (intOf i).toNat)
      case atStart => exact ⟨0, Nat.zero_le _, rfl, World.ownsRow_nil _ _ _ _, Below.refl _ _⟩
      case round =>
        obtain ⟨j, hj, rfl, ho, hbj⟩ := hrel
        have hbw := HI.out.below.trans (hbj.mono HI.out.below.size)
        obtain ⟨t0, t1, t2⟩ := (HI.out.tb.keep hbj).c3
        by_cases hlj : j < cs.length
        · have hjI : (j : Int) < (cs.length : Int) := by omega
          obtain ⟨ys, hys⟩ : ∃ ys, cs[j]? = some ys := ⟨_, List.getElem?_eq_getElem hlj⟩
          have hyl := OK.out.okc.row ys (List.mem_of_getElem? hys)
          obtain ⟨a, A1, c1, rfl, p1, p2, p3, p4, p5⟩ := (HH.out.at_ hbw).ic j ys hys
          rw [hyl] at p2 p3
          unfold maxLen at p4
          obtain ⟨y, hy⟩ : ∃ y, ys[k]? = some y := ⟨_, List.getElem?_eq_getElem (by omega)⟩
          obtain ⟨ae, rfl, u1, u2⟩ := p5 k y hy
          have HXJ := hid (show xs[j]? = some y by
            rw [HXG.out j hlj]
            unfold cellA
            rw [show cs.getD j [] = ys by rw [List.getD, hys]; rfl, List.getD, hy]; rfl)
          obtain ⟨i0, hi0, hz0, hz1, hz2⟩ := info_parts int_info
          have HO := hid ho
          have HBJ := hid hbj
          have hTB := HI.out.tb.keep hbj
          have HTB := hid (fun (W2 : World) (hW : Below wr.heap.size wr W2) => (hTB.keep hW).c3)
          have HC1 := hid (fun (W2 : World) (hW : Below wr.heap.size wr W2) => (hW.cell (by rw [block_of_add]; exact p1)).trans p2)
          have HC2 := hid (fun (W2 : World) (hW : Below wr.heap.size wr W2) => (hW.cell (by rw [block_of_add]; exact u1)).trans u2)
          have HO2 := hid (ho.alloc (.cells #[.int .i64 y] 3))
          have hs2 := hbj.size
          clear ho hbj hTB p5 hy hys hbw HTB HC1 HC2
          go_wp2_with (at_builtin; refine wpList_append_own_at _ rfl _ _ 56 rfl wc.heap.size 3 i0 (.int .i64 0) 1 8 Try.underlying56 hi0 hz0 hz1 hz2 rfl (by decide) u5 j _ rfl HO2.out ⟨wr.heap.size, 0, none⟩ 1 1 [.int .i64 y] rfl rfl (by intro q u hq; cases q with | zero => simp at hq; subst hq; exact (World.cell?_alloc_new _ _ _ _) | succ q => simp at hq) (by intro u hu; simp at hu; subst hu; rfl) (by simp only [maxLen]; omega) (by omega) (by simp; omega) ?_; intro v' w7 hr7 hg7 _ _; rw [map_take_succ (Value.int .i64) HXJ.out] at hr7)
          have hb7 := below_row' (HBJ.out.alloc HBJ.out.size (.cells #[.int .i64 y] 3)) HO2.out (Nat.le_refl _) hg7 (by simp; omega)
          have HN := hid (And.intro hr7 hb7)
          clear hr7 hg7 hb7 HO2 HO t0 t1 t2 p2 u2
          go_wp2
          go_roundw
          case rel => exact ⟨j + 1, by omega, by go_num, HN.out⟩
          case measure => first | (simp [intOf]; done) | (simp [intOf]; omega)
        · have hjI : decide ((j : Int) < (cs.length : Int)) = false := decide_eq_false (by omega)
          obtain rfl : j = cs.length := by omega
          rw [List.take_of_length_le (by have := HXL2.out; omega)] at ho
          have HXL3 := HXL2.out
          rw [← HXL3] at ho
          obtain ⟨A5, c5, e5, hgd⟩ := own_row ho
          rw [HXL2.out] at e5
          subst e5
          have HI2 := hid (HI.out.at_ hbj)
          obtain ⟨vs, hov, hvs⟩ := HI2.out.rows
          have hba : Below wr.heap.size wr (wr.alloc (.cells #[.slice A5 cs.length c5] 56)) := (Below.refl _ _).alloc (Nat.le_refl _) _
          have HBA := hid hba
          have HVS := hid (show ∀ i x, i < k → X[i]? = some x → ∃ A c, vs[i]? = some (.slice A x.length c) ∧ Good (fun _ => False) (wr.alloc (.cells #[.slice A5 cs.length c5] 56)) ⟨0, 0, x⟩ A c from fun i x hi hx => by
            obtain ⟨A', c', q1, q2⟩ := hvs i x hi hx
            exact ⟨A', c', q1, q2.below hba⟩)
          have HGD := hid hgd
          have HO := hid (hov.alloc (.cells #[.slice A5 cs.length c5] 56))
          have HBX := hid (HI2.out.bx.alloc (.cells #[.slice A5 cs.length c5] 56))
          obtain ⟨s0, s1, s2⟩ := HI2.out.bx.c3
          have hbxl := HI2.out.bx.lt
          have hws := HI2.out.below.size
          obtain ⟨i0, hi0, hz0, hz1, hz2⟩ := info_parts rows_info
          clear ho hbj hbw hgd hov hvs hba HXL3
          go_wp2_with (at_builtin; refine wpList_append_own_at _ rfl _ _ 22 rfl w.heap.size 56 i0 (.slice none 0 0) 1 24 Try.underlying22 hi0 hz0 hz1 hz2 rfl (by decide) v k vs rfl HO.out ⟨wr.heap.size, 0, none⟩ 1 1 [.slice A5 cs.length c5] rfl rfl (by intro q u hq; cases q with | zero => simp at hq; subst hq; exact (World.cell?_alloc_new _ _ _ _) | succ q => simp at hq) (by intro u hu; simp at hu; subst hu; rfl) (by simp only [maxLen]; omega) (by omega) (by simp; omega) ?_; intro v' w6 hown' hgrow _ _; obtain ⟨g6, cap6, rfl⟩ := Go.ownsRow_succ hown'; have hio6 := HBX.out.row HO.out (by decide) hgrow; obtain ⟨_, w1c, _⟩ := hio6.c3; have wf1 := hio6.frozen 1; have wl1 := hio6.lt)
          have HN := hid (HI2.out.next HXS.out HGD.out HBA.out HO.out HVS.out hgrow (by rw [HXL2.out]; exact hown'))
          clear hio6 hown' hgrow HO HBX HVS HBA HGD w1c wf1 wl1 s0 s1 s2
          go_wp2
          go_roundw
          case rel => exact ⟨k + 1, _, by omega, by go_num, HN.out⟩
          case measure => first | (simp [intOf]; done) | (simp [intOf]; omega)
    · have hkI : decide ((k : Int) < (colsOf cs : Int)) = false := decide_eq_false (by omega)
      obtain rfl : k = colsOf cs := by omega
      obtain ⟨AX, cX, rfl⟩ := HI.out.rows.shape
      have HF0 := hid (show XF b A c cs A2 c2 fs Bx AX cX X FS 0 (.slice none 0 0) w wc from by
        have hi := HI.out
        have hr := hi.rows
        have hx := hi.bx
        rw [← HXL.out] at hr hx
        exact ⟨hi.tb, hx, hr, World.ownsRow_nil _ _ _ _, hi.below, hi.ne⟩)
      clear HI
      go_wp2
      clear t0 t1 t2
      go_loopw [7] (fun i W => ∃ (k : Nat) (v : Value), k ≤ fs.length ∧ i = .int .i64 k ∧ XF b A c cs A2 c2 fs Bx AX cX X FS k v w W) (fun i _ => fs.length - (intOf i).toNat)
      case atStart => exact ⟨0, _, Nat.zero_le _, rfl, HF0.out⟩
      case round =>
        obtain ⟨k, vf, hk2, rfl, hi⟩ := hrel
        clear HF0
        have HF := hid hi
        obtain ⟨t0, t1, t2⟩ := hi.tb.c3
        clear hi
        by_cases hlf : k < fs.length
        · have hkF : (k : Int) < (fs.length : Int) := by omega
          obtain ⟨f, hfk⟩ : ∃ f, fs[k]? = some f := ⟨_, List.getElem?_eq_getElem hlf⟩
          obtain ⟨fa, rfl, g1, g2, g3, g4⟩ := (HH.out.at_ HF.out.below).ix k f hfk
          have HFX := hid (HFK.out k f hfk)
          obtain ⟨i0, hi0, hz0, hz1, hz2⟩ := info_parts rfix_info
          have hTB := HF.out.tb
          have HTB := hid (fun (W2 : World) (hW : Below wr.heap.size wr W2) => (hTB.keep hW).c3)
          have hBX := HF.out.bx
          have HBX := hid (fun (W2 : World) (hW : Below wr.heap.size wr W2) => (hBX.keep hW).c3)
          have HC0 := hid (fun (W2 : World) (hW : Below wr.heap.size wr W2) => (hW.cell (by rw [block_of_add]; exact g1)).trans g2)
          have HC1 := hid (fun (W2 : World) (hW : Below wr.heap.size wr W2) => (hW.cell (by show (fa.add _).block < wr.heap.size; rw [block_of_add]; exact g1)).trans g3)
          have HC2 := hid (fun (W2 : World) (hW : Below wr.heap.size wr W2) => (hW.cell (by show (fa.add _).block < wr.heap.size; rw [block_of_add]; exact g1)).trans g4)
          clear hTB hBX hfk g2 g3 g4
          go_wp2
          clear t0 t1 t2
          refine (wpIn_wide (n := 0)).1 ?_
          refine wpIn_region_each 22 (fun i v W' => match i with | 0 => v = .pointer (some ⟨Bx, 2, none⟩) | 1 => v = vf | 2 => v = .pointer (some ⟨w.heap.size, 2, none⟩) | 3 => v = .slice (some fa) fs.length c2 | 4 => v = .int .i64 (k : Int) | 5 => v = .pointer (some (fa.add (k * 3))) | 6 => v = .pointer (some ⟨(fa.add (k * 3)).block, (fa.add (k * 3)).off + 1, none⟩) | 7 => v = .int .i64 f.col | 8 => v = .pointer (some ⟨w.heap.size, 2, none⟩) | 9 => v = .slice (some fa) fs.length c2 | 10 => v = .int .i64 (k : Int) | 11 => v = .pointer (some (fa.add (k * 3))) | 12 => v = .pointer (some (fa.add (k * 3))) | 13 => v = .int .i64 f.row | 14 => v = .pointer (some ⟨w.heap.size, 2, none⟩) | 15 => v = .slice (some fa) fs.length c2 | 16 => v = .int .i64 (k : Int) | 17 => v = .pointer (some (fa.add (k * 3))) | 18 => v = .pointer (some ⟨(fa.add (k * 3)).block, (fa.add (k * 3)).off + 2, none⟩) | 19 => v = .int .i64 f.val | 20 => v = .agg #[.int .i64 f.col, .int .i64 f.row, .int .i64 f.val] | 21 => ∃ gl, v = .slice (some ⟨gl, 0, none⟩) 1 1 ∧ Blk W' gl 64 #[.int .i64 f.col, .int .i64 f.row, .int .i64 f.val] | _ => True) (fun A B => Below A.heap.size A B) (fun _ _ => True) (by kernel_rfl) (by kernel_rfl) ?_ (fun h k => h.trans (k.mono h.size)) ⟨rfl, rfl, rfl, Nat.le_refl _, fun _ _ => rfl⟩ trivial (by kernel_rfl) ?_ ?_
          · intro i v W1 W2 hb h
            match i, h with
            | 0, h => exact h
            | 1, h => exact h
            | 2, h => exact h
            | 3, h => exact h
            | 4, h => exact h
            | 5, h => exact h
            | 6, h => exact h
            | 7, h => exact h
            | 8, h => exact h
            | 9, h => exact h
            | 10, h => exact h
            | 11, h => exact h
            | 12, h => exact h
            | 13, h => exact h
            | 14, h => exact h
            | 15, h => exact h
            | 16, h => exact h
            | 17, h => exact h
            | 18, h => exact h
            | 19, h => exact h
            | 20, h => exact h
            | 21, h =>
              obtain ⟨gl, rfl, h1⟩ := h
              exact ⟨gl, rfl, h1.keep hb⟩
            | i + 22, h => trivial
          · refine ⟨?_, ?_, ?_, ?_, ?_, ?_, ?_, ?_, ?_, ?_, ?_, ?_, ?_, ?_, ?_, ?_, ?_, ?_, ?_, ?_, ?_, ?_, trivial⟩
            · -- 0
              intro li a1 W2 hA K hK
              have e3 := hA.par 3 (by kernel_rfl)
              refine opStep none 0 rfl rfl (fun c hc => by cases hc) ?_
              go_simp
              exact hK _ _ rfl (Below.refl _ _) trivial
            · -- 1
              intro li a1 W2 hA K hK
              have e68 : a1.tmps.getD 68 undef = .pointer (some ⟨Bx, 2, none⟩) := hA.val 0 68 (by kernel_rfl) (by kernel_rfl)
              obtain ⟨_, _, q1⟩ := HBX.out W2 hA.st
              refine opStep none 0 rfl rfl (fun c hc => by cases hc) ?_
              go_simp
              exact hK _ _ rfl (Below.refl _ _) trivial
            · -- 2
              intro li a1 W2 hA K hK
              have e1 := hA.par 1 (by kernel_rfl)
              refine opStep none 0 rfl rfl (fun c hc => by cases hc) ?_
              go_simp
              exact hK _ _ rfl (Below.refl _ _) trivial
            · -- 3
              intro li a1 W2 hA K hK
              have e70 : a1.tmps.getD 70 undef = .pointer (some ⟨w.heap.size, 2, none⟩) := hA.val 2 70 (by kernel_rfl) (by kernel_rfl)
              obtain ⟨_, _, q1⟩ := HTB.out W2 hA.st
              refine opStep none 0 rfl rfl (fun c hc => by cases hc) ?_
              go_simp
              exact hK _ _ rfl (Below.refl _ _) trivial
            · -- 4
              intro li a1 W2 hA K hK
              have e7 := hA.par 7 (by kernel_rfl)
              refine opStep none 0 rfl rfl (fun c hc => by cases hc) ?_
              go_simp
              exact hK _ _ rfl (Below.refl _ _) trivial
            · -- 5
              intro li a1 W2 hA K hK
              have e71 : a1.tmps.getD 71 undef = .slice (some fa) fs.length c2 := hA.val 3 71 (by kernel_rfl) (by kernel_rfl)
              have e72 : a1.tmps.getD 72 undef = .int .i64 (k : Int) := hA.val 4 72 (by kernel_rfl) (by kernel_rfl)
              refine opStep none 0 rfl rfl (fun c hc => by cases hc) ?_
              go_simp
              exact hK _ _ (by first | rfl | exact congrArg (fun q => Value.pointer (some q)) (add_blk _ _)) (Below.refl _ _) trivial
            · -- 6
              intro li a1 W2 hA K hK
              have e73 : a1.tmps.getD 73 undef = .pointer (some (fa.add (k * 3))) := hA.val 5 73 (by kernel_rfl) (by kernel_rfl)
              refine opStep none 0 rfl rfl (fun c hc => by cases hc) ?_
              go_simp
              exact hK _ _ rfl (Below.refl _ _) trivial
            · -- 7
              intro li a1 W2 hA K hK
              have e74 : a1.tmps.getD 74 undef = .pointer (some ⟨(fa.add (k * 3)).block, (fa.add (k * 3)).off + 1, none⟩) := hA.val 6 74 (by kernel_rfl) (by kernel_rfl)
              have q1 := HC1.out W2 hA.st
              refine opStep none 0 rfl rfl (fun c hc => by cases hc) ?_
              go_simp
              exact hK _ _ rfl (Below.refl _ _) trivial
            · -- 8
              intro li a1 W2 hA K hK
              have e1 := hA.par 1 (by kernel_rfl)
              refine opStep none 0 rfl rfl (fun c hc => by cases hc) ?_
              go_simp
              exact hK _ _ rfl (Below.refl _ _) trivial
            · -- 9
              intro li a1 W2 hA K hK
              have e76 : a1.tmps.getD 76 undef = .pointer (some ⟨w.heap.size, 2, none⟩) := hA.val 8 76 (by kernel_rfl) (by kernel_rfl)
              obtain ⟨_, _, q1⟩ := HTB.out W2 hA.st
              refine opStep none 0 rfl rfl (fun c hc => by cases hc) ?_
              go_simp
              exact hK _ _ rfl (Below.refl _ _) trivial
            · -- 10
              intro li a1 W2 hA K hK
              have e7 := hA.par 7 (by kernel_rfl)
              refine opStep none 0 rfl rfl (fun c hc => by cases hc) ?_
              go_simp
              exact hK _ _ rfl (Below.refl _ _) trivial
            · -- 11
              intro li a1 W2 hA K hK
              have e77 : a1.tmps.getD 77 undef = .slice (some fa) fs.length c2 := hA.val 9 77 (by kernel_rfl) (by kernel_rfl)
              have e78 : a1.tmps.getD 78 undef = .int .i64 (k : Int) := hA.val 10 78 (by kernel_rfl) (by kernel_rfl)
              refine opStep none 0 rfl rfl (fun c hc => by cases hc) ?_
              go_simp
              exact hK _ _ (by first | rfl | exact congrArg (fun q => Value.pointer (some q)) (add_blk _ _)) (Below.refl _ _) trivial
            · -- 12
              intro li a1 W2 hA K hK
              have e79 : a1.tmps.getD 79 undef = .pointer (some (fa.add (k * 3))) := hA.val 11 79 (by kernel_rfl) (by kernel_rfl)
              refine opStep none 0 rfl rfl (fun c hc => by cases hc) ?_
              go_simp
              exact hK _ _ rfl (Below.refl _ _) trivial
            · -- 13
              intro li a1 W2 hA K hK
              have e80 : a1.tmps.getD 80 undef = .pointer (some (fa.add (k * 3))) := hA.val 12 80 (by kernel_rfl) (by kernel_rfl)
              have q1 := HC0.out W2 hA.st
              refine opStep none 0 rfl rfl (fun c hc => by cases hc) ?_
              go_simp
              exact hK _ _ rfl (Below.refl _ _) trivial
            · -- 14
              intro li a1 W2 hA K hK
              have e1 := hA.par 1 (by kernel_rfl)
              refine opStep none 0 rfl rfl (fun c hc => by cases hc) ?_
              go_simp
              exact hK _ _ rfl (Below.refl _ _) trivial
            · -- 15
              intro li a1 W2 hA K hK
              have e82 : a1.tmps.getD 82 undef = .pointer (some ⟨w.heap.size, 2, none⟩) := hA.val 14 82 (by kernel_rfl) (by kernel_rfl)
              obtain ⟨_, _, q1⟩ := HTB.out W2 hA.st
              refine opStep none 0 rfl rfl (fun c hc => by cases hc) ?_
              go_simp
              exact hK _ _ rfl (Below.refl _ _) trivial
            · -- 16
              intro li a1 W2 hA K hK
              have e7 := hA.par 7 (by kernel_rfl)
              refine opStep none 0 rfl rfl (fun c hc => by cases hc) ?_
              go_simp
              exact hK _ _ rfl (Below.refl _ _) trivial
            · -- 17
              intro li a1 W2 hA K hK
              have e83 : a1.tmps.getD 83 undef = .slice (some fa) fs.length c2 := hA.val 15 83 (by kernel_rfl) (by kernel_rfl)
              have e84 : a1.tmps.getD 84 undef = .int .i64 (k : Int) := hA.val 16 84 (by kernel_rfl) (by kernel_rfl)
              refine opStep none 0 rfl rfl (fun c hc => by cases hc) ?_
              go_simp
              exact hK _ _ (by first | rfl | exact congrArg (fun q => Value.pointer (some q)) (add_blk _ _)) (Below.refl _ _) trivial
            · -- 18
              intro li a1 W2 hA K hK
              have e85 : a1.tmps.getD 85 undef = .pointer (some (fa.add (k * 3))) := hA.val 17 85 (by kernel_rfl) (by kernel_rfl)
              refine opStep none 0 rfl rfl (fun c hc => by cases hc) ?_
              go_simp
              exact hK _ _ rfl (Below.refl _ _) trivial
            · -- 19
              intro li a1 W2 hA K hK
              have e86 : a1.tmps.getD 86 undef = .pointer (some ⟨(fa.add (k * 3)).block, (fa.add (k * 3)).off + 2, none⟩) := hA.val 18 86 (by kernel_rfl) (by kernel_rfl)
              have q1 := HC2.out W2 hA.st
              refine opStep none 0 rfl rfl (fun c hc => by cases hc) ?_
              go_simp
              exact hK _ _ rfl (Below.refl _ _) trivial
            · -- 20
              intro li a1 W2 hA K hK
              have e75 : a1.tmps.getD 75 undef = .int .i64 f.col := hA.val 7 75 (by kernel_rfl) (by kernel_rfl)
              have e81 : a1.tmps.getD 81 undef = .int .i64 f.row := hA.val 13 81 (by kernel_rfl) (by kernel_rfl)
              have e87 : a1.tmps.getD 87 undef = .int .i64 f.val := hA.val 19 87 (by kernel_rfl) (by kernel_rfl)
              refine opStep none 0 rfl rfl (fun c hc => by cases hc) ?_
              refine step_build3 rfl e75 e81 e87 (built_fix _ _ _) ?_
              exact hK _ _ rfl (Below.refl _ _) trivial
            · -- 21
              intro li a1 W2 hA K hK
              have e88 : a1.tmps.getD 88 undef = .agg #[.int .i64 f.col, .int .i64 f.row, .int .i64 f.val] := hA.val 20 88 (by kernel_rfl) (by kernel_rfl)
              have e88' := e88
              rw [Array.getD_eq_getD_getElem?] at e88'
              refine opStep none 0 rfl rfl (fun c hc => by cases hc) ?_
              go_simp
              exact hK _ _ ⟨_, rfl, Blk.new _ _ _⟩ ((Below.refl _ _).alloc (Nat.le_refl _) _) trivial
          · intro li a1 W2 hD
            have e69 : a1.tmps.getD 69 undef = vf := hD.val 1 69 (by kernel_rfl) (by kernel_rfl)
            obtain ⟨gl, e89, hgl⟩ := hD.val 21 89 (by kernel_rfl) (by kernel_rfl)
            have e3 := hD.par 3 (by kernel_rfl)
            have hst := hD.st
            have HF2 := hid (HF.out.at_ hst)
            have hs2 := HF2.out.below.size
            obtain ⟨v', w7, hrun, hr7, hg7, _, hf7⟩ := run_append_own_at (P := Try.prog) W2 _ 23 23 64 i0 (.agg #[.int .i64 0, .int .i64 0, .int .i64 0]) 3 24 Try.underlying23 hi0 hz0 hz1 hz2 rfl (by decide) vf k _ HF2.out.fx ⟨gl, 0, none⟩ 1 1 (fxCells (swapF f)) rfl (by intro q u hq; rw [add_blk]; obtain ⟨n0, n1, n2⟩ := hgl.c3; match q, hq with | 0, hq => injection hq with hq; subst hq; exact n0 | 1, hq => injection hq with hq; subst hq; exact n1 | 2, hq => injection hq with hq; subst hq; exact n2 | q + 3, hq => simp [fxCells] at hq) (by intro u hu; simp only [fxCells, List.mem_cons, List.not_mem_nil, or_false] at hu; rcases hu with rfl | rfl | rfl <;> rfl) (by simp only [maxLen]; omega) (by omega) (by omega)
            obtain ⟨g6, cap6, rfl⟩ := Go.ownsRow_succ hr7
            have HN := hid (HF2.out.next HFX.out hg7 hr7)
            have hbx7 := HF2.out.bx.row HF2.out.fx (by decide) hg7
            obtain ⟨z0, z1, z2⟩ := hbx7.c3
            have zf := hbx7.frozen 2
            have zl := hbx7.lt
            have hkp2 := hD.keeps (ds := [68, 69, 70, 71, 72, 73, 74, 75, 76, 77, 78, 79, 80, 81, 82, 83, 84, 85, 86, 87, 88, 89, 90, 91]) (by kernel_rfl)
            have hds := hD.size
            have hsz : a1.tmps.size = 142 := hD.size
            have hdd := hD.defers
            clear hst hr7 hg7 hf7 hgl hbx7
            refine tail_val (i := 22) (v := .slice (some ⟨g6, 0, none⟩) (k + 1) cap6) (W' := w7) none 0 rfl rfl rfl (fun c hc => by cases hc) (by simp [execOp, resolve, invoke, builtin, Act.eval, e69, e89, hrun, Result.andThen]) (by rw [hsz]; decide) ?_
            intro a3 s3 d3 f3 o3
            have hkp3 := keeps_then hkp2 o3 (by decide)
            have e3' : a3.tmps.getD 3 undef = .pointer (some ⟨Bx, 0, none⟩) := (o3 3 (by decide)).trans e3
            refine tail_val (i := 23) (v := .pointer (some ⟨Bx, 2, none⟩)) (W' := w7) none 0 rfl rfl rfl (fun c hc => by cases hc) (by go_simp) (by rw [s3, hsz]; decide) ?_
            intro a4 s4 d4 f4 o4
            have hkp4 := keeps_then hkp3 o4 (by decide)
            have e90' : a4.tmps.getD 90 undef = .slice (some ⟨g6, 0, none⟩) (k + 1) cap6 := (o4 90 (by decide)).trans f3
            refine tail_store (i := 24) (W' := w7.setCell ⟨Bx, 2, none⟩ (.slice (some ⟨g6, 0, none⟩) (k + 1) cap6)) none 0 rfl rfl rfl (fun c hc => by cases hc) (by go_simp) ?_
            have e := act_mix [68, 69, 70, 71, 72, 73, 74, 75, 76, 77, 78, 79, 80, 81, 82, 83, 84, 85, 86, 87, 88, 89, 90, 91] (s4.trans (s3.trans hds)) (d4.trans (d3.trans hdd)) (fun i _ hc => hkp4 i hc)
            generalize (fun i => a4.tmps.getD i undef) = g' at e
            refine wpListIn_nil ?_
            rw [e]
            clear e hD hkp2 hkp3 hkp4 s3 s4 d3 d4 f3 f4 o3 o4 e69 e89 e3 e3' e90' hds hdd hsz HF HF2 z0 z1 z2 zf zl
            simp only [mix, List.contains_cons, List.contains_nil, Nat.reduceAdd, Nat.reduceBEq, Bool.or_false, Bool.or_true, cond_true, cond_false]
            go_wp2
            go_roundw
            case rel => exact ⟨k + 1, _, by omega, by go_num, HN.out⟩
            case measure => first | (simp [intOf]; done) | (simp [intOf]; omega)
        · have hkF : decide ((k : Int) < (fs.length : Int)) = false := decide_eq_false (by omega)
          obtain rfl : k = fs.length := by omega
          have hfx := HF.out.fx
          rw [List.take_of_length_le (by rw [HFL.out]; exact Nat.le_refl _)] at hfx
          rw [← HFL.out] at hfx
          obtain ⟨AF, cF, e3, f1, f2, f3⟩ := own_rfixes hfx
          rw [HFL.out] at e3 f2
          subst e3
          obtain ⟨AX', cX', e1, r1, r2, r3, r4, r5⟩ := HF.out.rows.out
          injection e1 with e1 _ e1'
          subst e1 e1'
          have HTX := hid (show TIn AX cX X AF cF FS wr from ⟨r1, f1, r2, r3, by rw [HFL.out]; exact f2, f3, by
            have : (1000 : Nat) ≤ maxLen := by simp only [maxLen]; omega
            have := HXX.out
            omega⟩)
          have HBW := hid HF.out.below
          have HTW := hid HF.out.tb
          have HBXX := hid (show Blk wr Bx 25 #[.int .i64 b, .slice AX (colsOf cs) cX, .slice AF fs.length cF] from by rw [← HXL.out]; exact HF.out.bx)
          clear hfx f1 r1 r4 r5
          have XB0 := hid (HBXX.out)
          obtain ⟨s0, s1, s2⟩ := XB0.out.c3
          have Z0 := hid (Below.refl wr.heap.size wr)
          have K2 := hid (table_any b A c cs A2 c2 fs wr (HH.out.at_ HBW.out) (by omega) HCX.out (by omega))
          go_wp2_with fail
          refine K2.out.mono ?_
          rintro e w2 ⟨P1, p1, Q1, q1, rfl, hti, hb⟩
          have HB2 := hid (HBW.out.trans (hb.mono HBW.out.size))
          have HT2 := hid (HTW.out.keep hb)
          have Z2 := hid (Z0.out.trans (hb.mono Z0.out.size))
          have XB2 := hid (XB0.out.keep hb)
          have TI1 := hid hti
          clear hti
          clear hb K2 t0 t1 t2 s0 s1 s2
          obtain ⟨t0, t1, t2⟩ := HT2.out.c3
          obtain ⟨s0, s1, s2⟩ := XB2.out.c3
          have K3 := hid (best_gen b P1 p1 cs Q1 q1 fs w2 TI1.out HCK.out)
          go_wp2_with fail
          refine K3.out.mono ?_
          rintro e w3 ⟨A5, n5, c5, rfl, hb⟩
          have HB3 := hid (HB2.out.trans (hb.mono HB2.out.size))
          have HT3 := hid (HT2.out.keep hb)
          have Z3 := hid (Z2.out.trans (hb.mono Z2.out.size))
          have XB3 := hid (XB2.out.keep hb)
          clear hb K3 t0 t1 t2 s0 s1 s2
          obtain ⟨t0, t1, t2⟩ := HT3.out.c3
          obtain ⟨s0, s1, s2⟩ := XB3.out.c3
          have K4 := hid (table_any b AX cX X AF cF FS w3 (HTX.out.at_ Z3.out) (by rw [HXL.out]; omega) HXC.out (by rw [HFL.out]; omega))
          unfold GivesTable at K4
          rw [HXL.out, HFL.out] at K4
          go_wp2_with fail
          refine K4.out.mono ?_
          rintro e w4 ⟨P2, p2, Q2, q2, rfl, hti, hb⟩
          have HB4 := hid (HB3.out.trans (hb.mono HB3.out.size))
          have HT4 := hid (HT3.out.keep hb)
          have Z4 := hid (Z3.out.trans (hb.mono Z3.out.size))
          have XB4 := hid (XB3.out.keep hb)
          have TI2 := hid hti
          clear hti
          clear hb K4 t0 t1 t2 s0 s1 s2
          obtain ⟨t0, t1, t2⟩ := HT4.out.c3
          obtain ⟨s0, s1, s2⟩ := XB4.out.c3
          have K5 := hid (best_gen b P2 p2 X Q2 q2 FS w4 TI2.out HXK.out)
          rw [HBE.out.1, HBE.out.2, HXL.out, HFL.out] at K5
          go_wp2_with fail
          refine K5.out.mono ?_
          rintro e w5 ⟨A6, n6, c6, rfl, hb⟩
          have HB5 := hid (HB4.out.trans (hb.mono HB4.out.size))
          have HT5 := hid (HT4.out.keep hb)
          have Z5 := hid (Z4.out.trans (hb.mono Z4.out.size))
          have XB5 := hid (XB4.out.keep hb)
          clear hb K5 t0 t1 t2 s0 s1 s2
          obtain ⟨t0, t1, t2⟩ := HT5.out.c3
          obtain ⟨s0, s1, s2⟩ := XB5.out.c3
          have K6 := hid (table_any b A c cs A2 c2 fs w5 (HH.out.at_ HB5.out) (by omega) HCX.out (by omega))
          go_wp2_with fail
          refine K6.out.mono ?_
          rintro e w6 ⟨P3, p3, Q3, q3, rfl, hti, hb⟩
          have HB6 := hid (HB5.out.trans (hb.mono HB5.out.size))
          have HT6 := hid (HT5.out.keep hb)
          have Z6 := hid (Z5.out.trans (hb.mono Z5.out.size))
          have XB6 := hid (XB5.out.keep hb)
          have TI3 := hid hti
          clear hti
          clear hb K6 t0 t1 t2 s0 s1 s2
          obtain ⟨t0, t1, t2⟩ := HT6.out.c3
          obtain ⟨s0, s1, s2⟩ := XB6.out.c3
          have KW := ways_any b P3 p3 cs Q3 q3 fs w6 TI3.out
          rw [if_pos HCK.out] at KW
          have KW := hid KW
          have K7 := hid (KW.out)
          go_wp2_with fail
          refine K7.out.mono ?_
          rintro e w7 ⟨rfl, hb⟩
          have HB7 := hid (HB6.out.trans (hb.mono HB6.out.size))
          have HT7 := hid (HT6.out.keep hb)
          have Z7 := hid (Z6.out.trans (hb.mono Z6.out.size))
          have XB7 := hid (XB6.out.keep hb)
          clear hb K7 t0 t1 t2 KW s0 s1 s2
          obtain ⟨t0, t1, t2⟩ := HT7.out.c3
          obtain ⟨s0, s1, s2⟩ := XB7.out.c3
          have K8 := hid (table_any b AX cX X AF cF FS w7 (HTX.out.at_ Z7.out) (by rw [HXL.out]; omega) HXC.out (by rw [HFL.out]; omega))
          unfold GivesTable at K8
          rw [HXL.out, HFL.out] at K8
          go_wp2_with fail
          refine K8.out.mono ?_
          rintro e w8 ⟨P4, p4, Q4, q4, rfl, hti, hb⟩
          have HB8 := hid (HB7.out.trans (hb.mono HB7.out.size))
          have HT8 := hid (HT7.out.keep hb)
          have Z8 := hid (Z7.out.trans (hb.mono Z7.out.size))
          have XB8 := hid (XB7.out.keep hb)
          have TI4 := hid hti
          clear hti
          clear hb K8 t0 t1 t2 s0 s1 s2
          obtain ⟨t0, t1, t2⟩ := HT8.out.c3
          obtain ⟨s0, s1, s2⟩ := XB8.out.c3
          have KW := ways_any b P4 p4 X Q4 q4 FS w8 TI4.out
          rw [if_pos HXK.out, HWE.out, HXL.out, HFL.out] at KW
          have KW := hid KW
          have K9 := hid (KW.out)
          go_wp2_with fail
          refine K9.out.mono ?_
          rintro e w9 ⟨rfl, hb⟩
          have HB9 := hid (HB8.out.trans (hb.mono HB8.out.size))
          have HT9 := hid (HT8.out.keep hb)
          have Z9 := hid (Z8.out.trans (hb.mono Z8.out.size))
          have XB9 := hid (XB8.out.keep hb)
          clear hb K9 t0 t1 t2 KW s0 s1 s2
          obtain ⟨t0, t1, t2⟩ := HT9.out.c3
          obtain ⟨s0, s1, s2⟩ := XB9.out.c3
          have K10 := hid (awake_any w9)
          go_wp2_with fail
          refine K10.out.mono ?_
          rintro e w10 ⟨rfl, hb⟩
          have HB10 := hid (HB9.out.trans (hb.mono HB9.out.size))
          have HT10 := hid (HT9.out.keep hb)
          have Z10 := hid (Z9.out.trans (hb.mono Z9.out.size))
          have XB10 := hid (XB9.out.keep hb)
          clear hb K10 t0 t1 t2 s0 s1 s2
          obtain ⟨t0, t1, t2⟩ := HT10.out.c3
          obtain ⟨s0, s1, s2⟩ := XB10.out.c3
          clear t0 t1 t2 s0 s1 s2
          go_wp2
          go_ret
          exact ⟨rfl, HB10.out⟩
theorem turned_any (b : Int) (A : Option Addr) (c : Nat) (cs : List (List Int)) (A2 : Option Addr) (c2 : Nat) (fs : List Fx) (w : World) (h : TIn A c cs A2 c2 fs w) :
    Calls Try.prog 8 #[.agg #[.int .i64 b, .slice A cs.length c, .slice A2 fs.length c2]] w fun e w' => e = .returned (.bool true) ∧ Below w.heap.size w w' := by
  cases hr : readyB b cs fs
  · exact turned_not b A c cs A2 c2 fs w h hr
  · by_cases h4 : cs.length ≤ 4
    · exact turned_ok b A c cs A2 c2 fs w h hr h4
    · exact turned_big b A c cs A2 c2 fs w h hr (by omega)

open Go.ChangeShapes Go.WideShapes Go.ChangeAt in
set_option maxRecDepth 100000 in
theorem turned_lifted (os : Os) (started : os.Started) (H : Type) (enc : TypeId × Value → H) :
    ReturnsInHanded {} Try.checked os 8 .any (Rows.roundTurnedSpec.pre6 enc Try.prog Try.f8 Rows.roundTurnedRow.domain false) (Rows.roundTurnedSpec.post enc Try.prog Try.f8 false true false false) := by
  refine returnsInHanded_of_change (C := Try.checked) own started (by kernel_rfl) Try.func8
    (ChangeSpec.witness6 (enc := enc) (C := Try.checked) false ⟨#[], #[.agg #[.int .i64 0, .slice none 0 0, .slice none 0 0]], []⟩ 8 (by kernel_rfl) (by kernel_rfl) (by kernel_rfl) (by kernel_rfl)) ?_
  intro W base args ds gs before hval0 hW hcnd _
  have hval : ∀ (j : Nat) t v, Try.f8.params[j]? = some t → args[j]? = some v → Value.okWide Try.prog W .any base t v := hval0
  have hW' := hW
  obtain ⟨p, q, hA0, hV, rfl, hfz, hnd⟩ := hW
  have hA : DataW.TrodAll enc Try.prog W 0 (fun _ => true) true Try.f8.params.toList args.toList ds p := hA0
  rw [Try.params8] at hA hval
  obtain ⟨v0, vs0, d0, ds0, p0, q0, hargs, rfl, rfl, h0, r0⟩ := trodAll_cons hA
  obtain ⟨rfl, rfl, rfl⟩ := trodAll_nil r0
  obtain rfl : args = #[v0] := by cases args; simp_all
  obtain ⟨rfl, rfl⟩ := trodVars_none hV
  obtain ⟨b0, A, c, cs, A2, c2, fs, rfl, ht⟩ := open_table (hval 0 25 v0 rfl rfl) h0
  refine (turned_any b0 A c cs A2 c2 fs W ht).mono fun e W' ⟨he, hb⟩ => ⟨_, he, ?_⟩
  exact law_post laid_out rfl rfl (by kernel_rfl) hW' rfl hb

theorem turned_over : Rows.roundTurnedRow.holds Try.pinned (OpenSpec.ofChange Rows.roundTurnedSpec) :=
  OpenClaim.holds_of_wide 8 Try.f8 rfl rfl rfl rfl rfl rfl rfl ⟨rfl, rfl, rfl, rfl, rfl⟩ rfl rfl rfl rfl rfl (by kernel_rfl) Try.func8 (by kernel_rfl)
    (of_decide_eq_true (by kernel_rfl)) (by unfold Func.isWrapper; first | (rw [if_pos (by decide +kernel)]; kernel_rfl) | (rw [if_neg (by decide +kernel)]; exact ⟨rfl, rfl⟩))
    (fun os started H enc _ => turned_lifted os started H enc)
/-- the statement -/
theorem round_turned : Rows.RoundTurnedSaid := turned_over
#print axioms round_turned
end Go.Proofs.Ytgoianldiomdoaa
