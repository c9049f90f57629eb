-- made by a program of this session (its printer) out of what Lean prints of the given program
import Derived.Test.YtnpkhkhlofkbhaaPFrameRightx0
import Derived.Test.YtnpkhkhlofkbhaaPFrameRightx1
import Derived.Test.YtnpkhkhlofkbhaaPFrameRightx2
import Derived.Test.YtnpkhkhlofkbhaaPFrameRightx3
import Derived.Test.YtnpkhkhlofkbhaaPFrameRightx4
import Derived.Test.YtnpkhkhlofkbhaaPFrameRightx5
namespace Go.Proofs.Ytnpkhkhlofkbhaa.PFrameRight
open Go.RowKit Go.Proofs.YtnpkhkhlofkbhaaW.PrintWords Go.Proofs.YtnpkhkhlofkbhaaW.PrintLast Go.Proofs.YtnpkhkhlofkbhaaW.PrintMore
attribute [local go_sem] max2_int min2_int max_two min_two max_three min_three max_four min_four   -- for this text's walks alone
set_option linter.unusedVariables false
set_option linter.unusedSimpArgs false

/-! ### wristbandlaw12_FrameRight: function 14 -/
mutual
def wristbandlaw12_FrameRight.j0 : Nat → List Int → Bool → Int → Int → Int → List Int → Option (Bool)
  | 0, _, _, _, _, _, _ => none
  | k + 1, x1, x21, x279000, x279001, x279002, x279003 => if x21 = true then (some true) else ((frame_Write.f k x279000 x279001 x279002 x279003).bind fun bt280 => (if (x279003.length : Int) = 8 then (if bt280.2 = 0 then ((wristbandref12_Write.f k x279000 x279001 x279002 x279003).bind fun t284 => (if (strOfNums bt280.1).toList = (strOfNums t284).toList then (wristbandlaw12_FrameRight.j1 k x1 x279000 x279001 x279002 x279003) else (some false))) else (some false)) else (if bt280.2 = 1 then (if (bt280.1.length : Int) = 0 then (wristbandlaw12_FrameRight.j1 k x1 x279000 x279001 x279002 x279003) else (some false)) else (some false))))
def wristbandlaw12_FrameRight.j1 : Nat → List Int → Int → Int → Int → List Int → Option (Bool)
  | 0, _, _, _, _, _ => none
  | k + 1, x1, x279000, x279001, x279002, x279003 => (frame_Read.f k x1).bind fun bt287 => ((wristbandref12_Read.f k x1).bind fun bt295 => ((frame_Right.f x279000 x279001 x279002 x279003).bind fun t303 => (if (t303 == ((x279003.length : Int) == 8)) = true then ((wristbandref12_Same.f bt287.1 bt287.2.1 bt287.2.2.1 bt287.2.2.2.1 bt295.1 bt295.2.1 bt295.2.2.1 bt295.2.2.2.1).bind fun t304 => (if t304 = true then (if bt287.2.2.2.2 = bt295.2.2.2.2 then ((frame_Msg.f k x279000 x279001 x279002).bind fun t305 => ((wristbandref12_Msg.f k x279000 x279001 x279002).bind fun t308 => (some ((strOfNums t305).toList == (strOfNums t308).toList)))) else (some false)) else (some false))) else (some false))))
end
def wristbandlaw12_FrameRight.f (k : Nat) (a0_0 : Int) (a0_1 : Int) (a0_2 : Int) (l0_3 : List Int) (l1 : List Int) : Option (Bool) := (wristbandlaw12_awake.f k).bind fun t279 => (if t279 = true then (if (l0_3.length : Int) > 3000 then (wristbandlaw12_FrameRight.j0 k l1 true a0_0 a0_1 a0_2 l0_3) else (wristbandlaw12_FrameRight.j0 k l1 (decide ((l1.length : Int) > 3000)) a0_0 a0_1 a0_2 l0_3)) else (some false))
theorem wristbandlaw12_FrameRight.mono_l : ∀ k, (∀ y0 y1 y2 y3 y4 y5, LeO (wristbandlaw12_FrameRight.j0 k y0 y1 y2 y3 y4 y5) (wristbandlaw12_FrameRight.j0 (k + 1) y0 y1 y2 y3 y4 y5)) ∧ (∀ y0 y1 y2 y3 y4, LeO (wristbandlaw12_FrameRight.j1 k y0 y1 y2 y3 y4) (wristbandlaw12_FrameRight.j1 (k + 1) y0 y1 y2 y3 y4))
  | 0 => ⟨fun _ _ _ _ _ _ r h => by simp [wristbandlaw12_FrameRight.j0] at h, fun _ _ _ _ _ r h => by simp [wristbandlaw12_FrameRight.j1] at h⟩
  | k + 1 => by
    obtain ⟨ih0, ih1⟩ := wristbandlaw12_FrameRight.mono_l k
    refine ⟨?_, ?_⟩
    · intro y0 y1 y2 y3 y4 y5
      unfold wristbandlaw12_FrameRight.j0
      repeat' first
      | (with_reducible exact ih0 _ _ _ _ _ _)
      | (with_reducible exact ih1 _ _ _ _ _)
      | (with_reducible exact frame_Msg.mono _ _ _ _)
      | (with_reducible exact frame_Read.mono _ _)
      | (with_reducible exact frame_Write.mono _ _ _ _ _)
      | (with_reducible exact wristbandlaw12_awake.mono _)
      | (with_reducible exact wristbandref12_Msg.mono _ _ _ _)
      | (with_reducible exact wristbandref12_Read.mono _ _)
      | (with_reducible exact wristbandref12_Write.mono _ _ _ _ _)
      | (with_reducible exact LeO.refl _)
      | (with_reducible exact LeO.none _)
      | (with_reducible refine LeO.ite ?_ ?_)
      | (with_reducible refine LeO.bind ?_ (fun _ => ?_))
      | exact ih0 _ _ _ _ _ _
      | exact ih1 _ _ _ _ _
      | exact frame_Msg.mono _ _ _ _
      | exact frame_Read.mono _ _
      | exact frame_Write.mono _ _ _ _ _
      | exact wristbandlaw12_awake.mono _
      | exact wristbandref12_Msg.mono _ _ _ _
      | exact wristbandref12_Read.mono _ _
      | exact wristbandref12_Write.mono _ _ _ _ _
      | exact LeO.none _
      | refine LeO.ite ?_ ?_
      | refine LeO.bind ?_ (fun _ => ?_)
    · intro y0 y1 y2 y3 y4
      unfold wristbandlaw12_FrameRight.j1
      repeat' first
      | (with_reducible exact ih0 _ _ _ _ _ _)
      | (with_reducible exact ih1 _ _ _ _ _)
      | (with_reducible exact frame_Msg.mono _ _ _ _)
      | (with_reducible exact frame_Read.mono _ _)
      | (with_reducible exact frame_Write.mono _ _ _ _ _)
      | (with_reducible exact wristbandlaw12_awake.mono _)
      | (with_reducible exact wristbandref12_Msg.mono _ _ _ _)
      | (with_reducible exact wristbandref12_Read.mono _ _)
      | (with_reducible exact wristbandref12_Write.mono _ _ _ _ _)
      | (with_reducible exact LeO.refl _)
      | (with_reducible exact LeO.none _)
      | (with_reducible refine LeO.ite ?_ ?_)
      | (with_reducible refine LeO.bind ?_ (fun _ => ?_))
      | exact ih0 _ _ _ _ _ _
      | exact ih1 _ _ _ _ _
      | exact frame_Msg.mono _ _ _ _
      | exact frame_Read.mono _ _
      | exact frame_Write.mono _ _ _ _ _
      | exact wristbandlaw12_awake.mono _
      | exact wristbandref12_Msg.mono _ _ _ _
      | exact wristbandref12_Read.mono _ _
      | exact wristbandref12_Write.mono _ _ _ _ _
      | exact LeO.none _
      | refine LeO.ite ?_ ?_
      | refine LeO.bind ?_ (fun _ => ?_)
theorem wristbandlaw12_FrameRight.mono : ∀ a0 a1 a2 a3 a4 k, LeO (wristbandlaw12_FrameRight.f k a0 a1 a2 a3 a4) (wristbandlaw12_FrameRight.f (k + 1) a0 a1 a2 a3 a4) := by
  intro a0 a1 a2 a3 a4 k
  obtain ⟨ih0, ih1⟩ := wristbandlaw12_FrameRight.mono_l k
  unfold wristbandlaw12_FrameRight.f
  repeat' first
      | (with_reducible exact ih0 _ _ _ _ _ _)
      | (with_reducible exact ih1 _ _ _ _ _)
      | (with_reducible exact frame_Msg.mono _ _ _ _)
      | (with_reducible exact frame_Read.mono _ _)
      | (with_reducible exact frame_Write.mono _ _ _ _ _)
      | (with_reducible exact wristbandlaw12_awake.mono _)
      | (with_reducible exact wristbandref12_Msg.mono _ _ _ _)
      | (with_reducible exact wristbandref12_Read.mono _ _)
      | (with_reducible exact wristbandref12_Write.mono _ _ _ _ _)
      | (with_reducible exact LeO.refl _)
      | (with_reducible exact LeO.none _)
      | (with_reducible refine LeO.ite ?_ ?_)
      | (with_reducible refine LeO.bind ?_ (fun _ => ?_))
      | exact ih0 _ _ _ _ _ _
      | exact ih1 _ _ _ _ _
      | exact frame_Msg.mono _ _ _ _
      | exact frame_Read.mono _ _
      | exact frame_Write.mono _ _ _ _ _
      | exact wristbandlaw12_awake.mono _
      | exact wristbandref12_Msg.mono _ _ _ _
      | exact wristbandref12_Read.mono _ _
      | exact wristbandref12_Write.mono _ _ _ _ _
      | exact LeO.none _
      | refine LeO.ite ?_ ?_
      | refine LeO.bind ?_ (fun _ => ?_)
def wristbandlaw12_FrameRight.T7 : Bool × List (List Nat × List Nat) := (true, [([], []), ([0], [0]), ([1], [1]), ([2], [2]), ([3, 2], [2, 3]), ([2], [2]), ([5, 2, 2], [2, 5]), ([6, 2], [2, 6]), ([4, 7, 2], [2, 4, 7]), ([2, 8], [2, 8])])
def wristbandlaw12_FrameRight.B7 : List Nat := [0, 1, 3, 7, 15, 7, 39, 103, 255, 511]
theorem wristbandlaw12_FrameRight.tab7 : rtab .any (opsOf Try.f14 7) = wristbandlaw12_FrameRight.T7 := by kernel_rfl
theorem wristbandlaw12_FrameRight.bits7 : waitsOk wristbandlaw12_FrameRight.T7.2 wristbandlaw12_FrameRight.B7 = true := by kernel_rfl
def wristbandlaw12_FrameRight.T13 : Bool × List (List Nat × List Nat) := (true, [([], []), ([0], [0]), ([], []), ([2], [2]), ([3], [3]), ([4], [4]), ([1, 5], [1, 5]), ([6, 1], [6]), ([7], [7]), ([7], [7]), ([8, 9, 7, 7], [7, 8, 9]), ([7, 10], [7, 10]), ([11, 10], [11]), ([12], [12]), ([12], [12]), ([13, 14, 12], [12, 13, 14]), ([12, 15], [12, 15]), ([16, 12], [16]), ([17], [17]), ([18, 17], [17, 18]), ([17], [17]), ([20, 17], [17, 20]), ([17], [17]), ([22, 17], [17, 22]), ([19, 21, 23, 17, 17], [17, 19, 21, 23]), ([24, 17], [17, 24]), ([17], [17]), ([26, 17], [17, 26]), ([17], [17]), ([28, 17], [17, 28]), ([17], [17]), ([30, 17], [17, 30]), ([27, 29, 31, 24, 17], [17, 27, 29, 31]), ([32, 17], [17, 32]), ([25, 33, 17], [17, 25, 33]), ([17, 34], [17, 34]), ([35, 32, 0, 1, 2, 3, 4, 5, 6, 7, 8, 9, 10, 11, 12, 13, 14, 15, 16, 17, 18, 19, 20, 21, 22, 23, 24, 25, 26, 27, 28, 29, 30, 31, 32, 33, 34, 35], [35])])
def wristbandlaw12_FrameRight.B13 : List Nat := [0, 1, 0, 4, 12, 28, 63, 127, 255, 255, 1023, 2047, 4095, 8191, 8191, 32767, 65535, 131071, 262143, 524287, 262143, 1310719, 262143, 4456447, 16777215, 33554431, 262143, 67371007, 262143, 268697599, 262143, 1074003967, 4261412863, 8556380159, 17179869183, 34359738367, 68719476735]
theorem wristbandlaw12_FrameRight.tab13 : rtab .any (opsOf Try.f14 13) = wristbandlaw12_FrameRight.T13 := by kernel_rfl
theorem wristbandlaw12_FrameRight.bits13 : waitsOk wristbandlaw12_FrameRight.T13.2 wristbandlaw12_FrameRight.B13 = true := by kernel_rfl
set_option maxHeartbeats 8000000 in
set_option maxRecDepth 100000 in
theorem wristbandlaw12_FrameRight.calls (k : Nat) (a0_0 : Int) (a0_1 : Int) (a0_2 : Int) (A0_3 : Option Addr) (c0_3 : Nat) (l0_3 : List Int) (A1 : Option Addr) (c1 : Nat) (l1 : List Int) (r : Bool) (w : World) (hr0_3 : Kd.C (Kd.int .u8) w A0_3 l0_3.length l0_3) (hc0_3 : l0_3.length ≤ c0_3) (hr1 : Kd.C (Kd.int .u8) w A1 l1.length l1) (hc1 : l1.length ≤ c1) (h : wristbandlaw12_FrameRight.f k a0_0 a0_1 a0_2 l0_3 l1 = some r) (hT_ : r = true) :
    Calls Try.prog 14 #[.agg #[.int .u64 a0_0, .int .u64 a0_1, .int .u64 a0_2, .slice A0_3 l0_3.length c0_3], .slice A1 l1.length c1] w fun e w' => e = .returned (.bool r) ∧ Below w.heap.size w w' := by
  have hu91 := Try.underlying91
  have HR0_3 := Aside0.mk hr0_3
  have HC0_3 := Aside0.mk hc0_3
  clear hr0_3 hc0_3
  have HR1 := Aside0.mk hr1
  have HC1 := Aside0.mk hc1
  clear hr1 hc1
  have HB := Aside0.mk (Below.refl w.heap.size w)
  have HR_ := Aside0.mk hT_
  clear hT_
  have H : ((wristbandlaw12_awake.f k).bind fun t279 => (if t279 = true then (if (l0_3.length : Int) > 3000 then (wristbandlaw12_FrameRight.j0 k l1 true a0_0 a0_1 a0_2 l0_3) else (wristbandlaw12_FrameRight.j0 k l1 (decide ((l1.length : Int) > 3000)) a0_0 a0_1 a0_2 l0_3)) else (some false))) = some r := h
  clear h
  replace H := Option.bind_eq_some_iff.mp H
  obtain ⟨t279, A30, H⟩ := H
  replace H : (if t279 = true then (if (l0_3.length : Int) > 3000 then (wristbandlaw12_FrameRight.j0 k l1 true a0_0 a0_1 a0_2 l0_3) else (wristbandlaw12_FrameRight.j0 k l1 (decide ((l1.length : Int) > 3000)) a0_0 a0_1 a0_2 l0_3)) else (some false)) = some r := H
  have A3 := Aside0.mk A30
  clear A30
  by_cases c4 : t279 = true
  · subst c4
    have H1 : (if (l0_3.length : Int) > 3000 then (wristbandlaw12_FrameRight.j0 k l1 true a0_0 a0_1 a0_2 l0_3) else (wristbandlaw12_FrameRight.j0 k l1 (decide ((l1.length : Int) > 3000)) a0_0 a0_1 a0_2 l0_3)) = some r := by rw [if_pos rfl] at H; exact H
    clear H
    have H := H1
    clear H1
    have HC5 := Aside0.mk H
    clear H
    go_enter Try.func14, Try.ntmps14
    go_upto_region 3 with (first | ((with_reducible refine gate_dst (N := 2) rfl ?_); (try (refine gate_guard (by rfl) ?_; dsimp only)); refine box_event ?hg (N := 2) ?hd (cs := #[.int .u64 a0_0, .int .u64 a0_1, .int .u64 a0_2, .slice A0_3 l0_3.length c0_3]) (t := 91) ?hr ?_; (case hd => rfl); (case hg => rfl); (case hr => first | (go_simp; done) | (go_simp; rfl)); intro gb278 hg w6 hbox hb; have n0_ := Aside0.mk (below_step (by repeat (first | (with_reducible first | exact HB.out | apply below_alloc | apply pw_below_drewN | apply below_drew1) | exact HB.out)) hb); have n1_ := Aside0.mk (hbox); have n2_ := Aside0.mk ((by rw [hg]; exact (below_size (by repeat (first | (with_reducible first | exact HB.out | apply below_alloc | apply pw_below_drewN | apply below_drew1) | exact HB.out))) : w.heap.size ≤ gb278)); have n3_ := Aside0.mk ((by rw [hg]; exact (below_size (by repeat (first | (with_reducible first | exact HB.out | apply below_alloc | apply pw_below_drewN | apply below_drew1) | exact HB.out))) : w.heap.size ≤ gb278)); clear HB; have HB := n0_; have BK278 := n1_; have GW278 := n2_; have GE278 := n3_; clear n0_ n1_ n2_ n3_; clear hb hbox hg) | ((with_reducible refine gate_callee (f := 69) rfl ?_); refine goesL_ (some 11) rfl rfl Try.func69 (by kernel_rfl) rfl #[] rfl (by (try simp only [List.map_toArray, List.map_cons, List.map_nil]); first | done | rfl | (simp only [List.length_drop, List.length_take]; rfl)) ?_; (with_reducible refine (wristbandlaw12_awake.calls k  true _ A3.out).mono ?_); rintro e w7 ⟨rfl, hb⟩; refine ⟨_, rfl, ?_⟩; have n0_ := Aside0.mk (blk_below (g := gb278) (o := .cells #[.int .u64 a0_0, .int .u64 a0_1, .int .u64 a0_2, .slice A0_3 l0_3.length c0_3] 91 (0, 0)) (by (with_reducible repeat (first | refine blk_drewN ?_ _ | refine blk_drew ?_ | refine blk_alloc ?_ _)); exact BK278.out) hb); have n1_ := Aside0.mk (below_step (by repeat (first | (with_reducible first | exact HB.out | apply below_alloc | apply pw_below_drewN | apply below_drew1 | refine below_set ?_ GE278.out) | exact HB.out)) hb); clear BK278; clear HB; have BK278 := n0_; have HB := n1_; clear n0_ n1_; (try clear hb); (try clear hb2); (try clear hk); (try clear hi)))
    (try simp only [Act.put, List.setIfInBounds_toArray, List.set_cons_zero, List.set_cons_succ])
    go_cut [21] (fun v21 wc => ∃ (kq : Nat) (x21_4 : Bool), v21 = .bool x21_4 ∧ Aside0 (wristbandlaw12_FrameRight.j0 kq l1 x21_4 a0_0 a0_1 a0_2 l0_3 = some r) ∧ Aside0 (kq ≤ k) ∧ Aside0 (wc.heap[gb278]? = some (.cells #[.int .u64 a0_0, .int .u64 a0_1, .int .u64 a0_2, (.slice A0_3 l0_3.length c0_3)] 91 (0, 0))) ∧ Aside0 (Below w.heap.size w wc))
    case first =>
      have H := HC5.out
      clear HC5
      by_cases c8 : (l0_3.length : Int) > 3000
      · rw [if_pos c8] at H
        have c8b0 : decide (3000 < (l0_3.length : Int)) = true := decide_eq_true c8
        have c8b1 : decide (3000 < l0_3.length) = true := decide_eq_true (by omega)
        clear c8
        (first | rw [c8b0] | (simp only [i64_w, i32_w]; rw [c8b0]) | skip)
        have H' := Aside0.mk H
        clear H
        have hcz9_0 : w7.cell? ⟨gb278, 0, none⟩ = some (.int .u64 a0_0) := (blk_cell BK278.out 0).trans rfl
        have hcz9_1 : w7.cell? ⟨gb278, 1, none⟩ = some (.int .u64 a0_1) := (blk_cell BK278.out 1).trans rfl
        have hcz9_2 : w7.cell? ⟨gb278, 2, none⟩ = some (.int .u64 a0_2) := (blk_cell BK278.out 2).trans rfl
        have hcz9_3 : w7.cell? ⟨gb278, 3, none⟩ = some (.slice A0_3 l0_3.length c0_3) := (blk_cell BK278.out 3).trans rfl
        have hfz9_0 := blk_frozen BK278.out 0
        have hfz9_1 := blk_frozen BK278.out 1
        have hfz9_2 := blk_frozen BK278.out 2
        have hfz9_3 := blk_frozen BK278.out 3
        go_wp2
        go_meet
        case rel => exact ⟨_, (true), (by first | rfl | (simp; done) | (simp [*]; done)), H', ⟨by first | omega | exact Nat.le_refl _⟩, ⟨by (with_reducible repeat (first | refine blk_drewN ?_ _ | refine blk_drew ?_ | refine blk_alloc ?_ _)); exact BK278.out⟩, ⟨by repeat (first | (with_reducible first | exact HB.out | apply below_alloc | apply pw_below_drewN | apply below_drew1 | refine below_set ?_ GE278.out) | exact HB.out)⟩⟩
      · rw [if_neg c8] at H
        have c8b0 : decide (3000 < (l0_3.length : Int)) = false := decide_eq_false c8
        have c8b1 : decide (3000 < l0_3.length) = false := decide_eq_false (by omega)
        clear c8
        (first | rw [c8b0] | (simp only [i64_w, i32_w]; rw [c8b0]) | skip)
        have H' := Aside0.mk H
        clear H
        have hcz10_0 : w7.cell? ⟨gb278, 0, none⟩ = some (.int .u64 a0_0) := (blk_cell BK278.out 0).trans rfl
        have hcz10_1 : w7.cell? ⟨gb278, 1, none⟩ = some (.int .u64 a0_1) := (blk_cell BK278.out 1).trans rfl
        have hcz10_2 : w7.cell? ⟨gb278, 2, none⟩ = some (.int .u64 a0_2) := (blk_cell BK278.out 2).trans rfl
        have hcz10_3 : w7.cell? ⟨gb278, 3, none⟩ = some (.slice A0_3 l0_3.length c0_3) := (blk_cell BK278.out 3).trans rfl
        have hfz10_0 := blk_frozen BK278.out 0
        have hfz10_1 := blk_frozen BK278.out 1
        have hfz10_2 := blk_frozen BK278.out 2
        have hfz10_3 := blk_frozen BK278.out 3
        go_wp2
        go_meet
        case rel => exact ⟨_, (decide ((l1.length : Int) > 3000)), (by first | rfl | (simp; done) | (simp [*]; done)), H', ⟨by first | omega | exact Nat.le_refl _⟩, ⟨by (with_reducible repeat (first | refine blk_drewN ?_ _ | refine blk_drew ?_ | refine blk_alloc ?_ _)); exact BK278.out⟩, ⟨by repeat (first | (with_reducible first | exact HB.out | apply below_alloc | apply pw_below_drewN | apply below_drew1 | refine below_set ?_ GE278.out) | exact HB.out)⟩⟩
    case rest =>
      clear HC5
      try clear c1
      try clear p2
      try clear c4
      try clear c6
      try clear c8
      try clear c8b0
      try clear c8b1
      try clear hcz10_0
      try clear hcz10_1
      try clear hcz10_2
      try clear hcz10_3
      try clear hcz9_0
      try clear hcz9_1
      try clear hcz9_2
      try clear hcz9_3
      try clear hfz10_0
      try clear hfz10_1
      try clear hfz10_2
      try clear hfz10_3
      try clear hfz9_0
      try clear hfz9_1
      try clear hfz9_2
      try clear hfz9_3
      obtain ⟨kq, x21_4, rfl, HA, HJ4, BK278, HB⟩ := hcut
      cases kq with
      | zero => exact absurd HA.out (by simp [wristbandlaw12_FrameRight.j0])
      | succ kj4 =>
        have H := HA.out
        clear HA
        simp only [wristbandlaw12_FrameRight.j0] at H
        by_cases c11 : x21_4 = true
        · subst c11
          have H1 : (some true) = some r := by rw [if_pos rfl] at H; exact H
          clear H
          have H := H1
          clear H1
          obtain rfl := Option.some.inj H
          go_wp2
          go_ret
          exact ⟨by first | rfl | (simp [errW_none, errW_some] <;> rfl) | (simp [*, errW_none, errW_some] <;> rfl), by repeat (first | (with_reducible first | exact HB.out | apply below_alloc | apply pw_below_drewN | apply below_drew1 | refine below_set ?_ GE278.out) | exact HB.out)⟩
        · replace c11 := Bool.eq_false_iff.mpr c11
          subst c11
          have H1 : ((frame_Write.f kj4 a0_0 a0_1 a0_2 l0_3).bind fun bt280 => (if (l0_3.length : Int) = 8 then (if bt280.2 = 0 then ((wristbandref12_Write.f kj4 a0_0 a0_1 a0_2 l0_3).bind fun t284 => (if (strOfNums bt280.1).toList = (strOfNums t284).toList then (wristbandlaw12_FrameRight.j1 kj4 l1 a0_0 a0_1 a0_2 l0_3) else (some false))) else (some false)) else (if bt280.2 = 1 then (if (bt280.1.length : Int) = 0 then (wristbandlaw12_FrameRight.j1 kj4 l1 a0_0 a0_1 a0_2 l0_3) else (some false)) else (some false)))) = some r := by rw [if_neg (show ¬ (false = true) by decide)] at H; exact H
          clear H
          have H := H1
          clear H1
          replace H := Option.bind_eq_some_iff.mp H
          obtain ⟨⟨t280, t283⟩, A120, H⟩ := H
          replace H : (if (l0_3.length : Int) = 8 then (if t283 = 0 then ((wristbandref12_Write.f kj4 a0_0 a0_1 a0_2 l0_3).bind fun t284 => (if (strOfNums t280).toList = (strOfNums t284).toList then (wristbandlaw12_FrameRight.j1 kj4 l1 a0_0 a0_1 a0_2 l0_3) else (some false))) else (some false)) else (if t283 = 1 then (if (t280.length : Int) = 0 then (wristbandlaw12_FrameRight.j1 kj4 l1 a0_0 a0_1 a0_2 l0_3) else (some false)) else (some false))) = some r := H
          have A12 := Aside0.mk A120
          clear A120
          have HC13 := Aside0.mk H
          clear H
          have hcz14_0 : wc.cell? ⟨gb278, 0, none⟩ = some (.int .u64 a0_0) := (blk_cell BK278.out 0).trans rfl
          have hcz14_1 : wc.cell? ⟨gb278, 1, none⟩ = some (.int .u64 a0_1) := (blk_cell BK278.out 1).trans rfl
          have hcz14_2 : wc.cell? ⟨gb278, 2, none⟩ = some (.int .u64 a0_2) := (blk_cell BK278.out 2).trans rfl
          have hcz14_3 : wc.cell? ⟨gb278, 3, none⟩ = some (.slice A0_3 l0_3.length c0_3) := (blk_cell BK278.out 3).trans rfl
          have hfz14_0 := blk_frozen BK278.out 0
          have hfz14_1 := blk_frozen BK278.out 1
          have hfz14_2 := blk_frozen BK278.out 2
          have hfz14_3 := blk_frozen BK278.out 3
          go_upto_if 30 with (first | ((with_reducible refine gate_callee (f := 70) rfl ?_); refine goesL_ (some 24) rfl rfl Try.func70 (by kernel_rfl) rfl #[.agg #[.int .u64 a0_0, .int .u64 a0_1, .int .u64 a0_2, .slice A0_3 l0_3.length c0_3]] rfl (by (try simp only [List.map_toArray, List.map_cons, List.map_nil]); first | done | rfl | (simp only [List.length_drop, List.length_take]; rfl)) ?_; (with_reducible refine (frame_Write.calls kj4 a0_0 a0_1 a0_2 _ _ l0_3 t280 t283 _ ?side1 ?side2 A12.out).mono ?_); (case side1 => repeat (first | exact (Kd.C_below HR0_3.out HB.out) | (with_reducible refine Kd.C_alloc ?_ _) | (with_reducible refine Kd.C_drewN ?_ _) | (with_reducible refine Kd.C_drew ?_))); (case side2 => exact HC0_3.out); rintro e w15 ⟨v281, rfl, ho0, hb⟩; refine ⟨_, rfl, ?_⟩; have n0_ := Aside0.mk (Kd.R_lower ho0 (below_size (by repeat (first | (with_reducible first | exact HB.out | apply below_alloc | apply pw_below_drewN | apply below_drew1 | refine below_set ?_ GE278.out) | exact HB.out)))); have n1_ := Aside0.mk (blk_below (g := gb278) (o := .cells #[.int .u64 a0_0, .int .u64 a0_1, .int .u64 a0_2, .slice A0_3 l0_3.length c0_3] 91 (0, 0)) (by (with_reducible repeat (first | refine blk_drewN ?_ _ | refine blk_drew ?_ | refine blk_alloc ?_ _)); exact BK278.out) hb); have n2_ := Aside0.mk (below_step (by repeat (first | (with_reducible first | exact HB.out | apply below_alloc | apply pw_below_drewN | apply below_drew1 | refine below_set ?_ GE278.out) | exact HB.out)) hb); clear BK278; clear HB; have HO282 := n0_; have BK278 := n1_; have HB := n2_; clear n0_ n1_ n2_; (try clear hb); (try clear hb2); (try clear hk); (try clear hi); (try clear ho0); have hcz16_0 : w15.cell? ⟨gb278, 0, none⟩ = some (.int .u64 a0_0) := (blk_cell BK278.out 0).trans rfl; have hcz16_1 : w15.cell? ⟨gb278, 1, none⟩ = some (.int .u64 a0_1) := (blk_cell BK278.out 1).trans rfl; have hcz16_2 : w15.cell? ⟨gb278, 2, none⟩ = some (.int .u64 a0_2) := (blk_cell BK278.out 2).trans rfl; have hcz16_3 : w15.cell? ⟨gb278, 3, none⟩ = some (.slice A0_3 l0_3.length c0_3) := (blk_cell BK278.out 3).trans rfl; have hfz16_0 := blk_frozen BK278.out 0; have hfz16_1 := blk_frozen BK278.out 1; have hfz16_2 := blk_frozen BK278.out 2; have hfz16_3 := blk_frozen BK278.out 3))
          (try simp only [Act.put, List.setIfInBounds_toArray, List.set_cons_zero, List.set_cons_succ])
          go_cut [] (fun wc => ∃ (kq : Nat), Aside0 (wristbandlaw12_FrameRight.j1 kq l1 a0_0 a0_1 a0_2 l0_3 = some r) ∧ Aside0 (kq ≤ kj4) ∧ Aside0 (wc.heap[gb278]? = some (.cells #[.int .u64 a0_0, .int .u64 a0_1, .int .u64 a0_2, (.slice A0_3 l0_3.length c0_3)] 91 (0, 0))) ∧ Aside0 (Below w.heap.size w wc))
          case first =>
            have H := HC13.out
            clear HC13
            by_cases c17 : (l0_3.length : Int) = 8
            · rw [if_pos c17] at H
              have c17b0 : ((l0_3.length : Int) == 8) = true := beq_iff_eq.mpr c17
              have c17b1 : ((l0_3.length : Int) != 8) = false := bne_eq_false_iff_eq.mpr c17
              clear c17
              (first | rw [c17b0] | (simp only [i64_w, i32_w]; rw [c17b0]) | skip)
              by_cases c18 : t283 = 0
              · rw [if_pos c18] at H
                have c18b0 : (t283 == 0) = true := beq_iff_eq.mpr c18
                have c18b1 : (t283 != 0) = false := bne_eq_false_iff_eq.mpr c18
                clear c18
                replace H := Option.bind_eq_some_iff.mp H
                obtain ⟨t284, A190, H⟩ := H
                replace H : (if (strOfNums t280).toList = (strOfNums t284).toList then (wristbandlaw12_FrameRight.j1 kj4 l1 a0_0 a0_1 a0_2 l0_3) else (some false)) = some r := H
                have A19 := Aside0.mk A190
                clear A190
                by_cases c20 : (strOfNums t280).toList = (strOfNums t284).toList
                · rw [if_pos c20] at H
                  have c20b0 : ((strOfNums t280).toList == (strOfNums t284).toList) = true := beq_iff_eq.mpr c20
                  have c20b1 : ((strOfNums t280).toList != (strOfNums t284).toList) = false := bne_eq_false_iff_eq.mpr c20
                  clear c20
                  have H' := Aside0.mk H
                  clear H
                  try go_wp2
                  have n0_ := Aside0.mk (Kd.R_drew HO282.out)
                  have n1_ := Aside0.mk (blk_drew BK278.out)
                  have n2_ := Aside0.mk (below_drew1 HB.out)
                  clear HO282
                  clear BK278
                  clear HB
                  have HO282 := n0_
                  have BK278 := n1_
                  have HB := n2_
                  clear n0_ n1_ n2_
                  refine start_ (n := 10) (S := fun w' => True) (ds := []) #[false, false, false, false, false, false, false, false, false, false] (by kernel_rfl) rfl rfl trivial (fun hHeld => ?_); refine with_tabW wristbandlaw12_FrameRight.tab7 wristbandlaw12_FrameRight.bits7 (fun HT_ HW_ => ?_)
                  generalize w15.drew = w21 at HO282 BK278 HB hHeld ⊢
                  refine pure_ (i := 0) (N := some 31) (v := ?_) (a' := ?_) #[true, false, false, false, false, false, false, false, false, false] rfl rfl (any_of HT_.out (by kernel_rfl)) (fun _ _ _ h => h) (Or.inl ⟨by rfl, ?_⟩) ?_ ?_
                  rotate_left
                  · intro w'
                    go_simp
                    with_reducible rfl
                  rotate_left
                  · simp only [Act.put, List.setIfInBounds_toArray, List.set_cons_zero, List.set_cons_succ, i64_w, i32_w]
                    rfl
                  refine inv_at [1, 2, 3, 4, 5, 6, 7, 8, 9] (fun a0_ b a w' => ∃ (v285 : Value), a = putSel a0_ b [(1, 32, .bool (t283 != 0)), (2, 33, .bool (t283 != 0)), (3, 34, v281), (4, 35, .string (strOfNums t280)), (5, 36, .agg #[.int .u64 a0_0, .int .u64 a0_1, .int .u64 a0_2, .slice A0_3 l0_3.length c0_3]), (6, 37, v285), (7, 38, .string (strOfNums t284)), (8, 39, .bool ((strOfNums t280).toList != (strOfNums t284).toList)), (9, 40, .bool ((strOfNums t280).toList != (strOfNums t284).toList))] ∧ (Kd.R (Kd.int .u8) 5 w' w.heap.size (fun _ => True) v281 t280) ∧ (w'.heap[gb278]? = some (.cells #[.int .u64 a0_0, .int .u64 a0_1, .int .u64 a0_2, .slice A0_3 l0_3.length c0_3] 91 (0, 0))) ∧ (Below w.heap.size w w') ∧ (b 6 = true → Kd.R (Kd.int .u8) 5 w' w.heap.size (fun k_ => some k_ ≠ (v281 : Value).ownBlock) v285 t284)) HT_.out HW_.out (by kernel_rfl) (by kernel_rfl) ?_ ?_ ?_
                  · exact ⟨.bool false, by simp only [putSel, Bool.false_eq_true, if_false], HO282.out, BK278.out, HB.out, fun h_ => absurd h_ (by decide)⟩
                  · skip
                    clear BK278 HB HO282
                    refine steps_cons ?_ ?_
                    · rintro b a w' ⟨v285, ha, hI_⟩ hb_ hon hoff
                      refine ⟨_, rfl, fun K hK => ?_⟩
                      have e31 : a.tmps[31]? = some (.int .i64 t283) := by rw [ha]; exact (putSel_off rfl).trans rfl
                      replace ha := Aside0.mk ha; replace hI_ := Aside0.mk hI_
                      refine value_ (w1 := w') (v := .bool (t283 != 0)) (by rfl) rfl ?_ ?_
                      · go_simp
                        (try simp only [i64_w])
                        try first | rfl | (simp [bne]; done)
                      refine hK.out _ _ ⟨v285, (by rw [ha.out]; exact putSel_upk 0 hb_ rfl rfl rfl), hI_.out⟩
                    refine steps_cons ?_ ?_
                    · rintro b a w' ⟨v285, ha, hI_⟩ hb_ hon hoff
                      refine ⟨_, rfl, fun K hK => ?_⟩
                      have e32 : a.tmps[32]? = some (.bool (t283 != 0)) := by rw [ha]; exact putSel_on (e := (1, 32, .bool (t283 != 0))) 0 rfl rfl (hon 1 (by kernel_rfl)) rfl
                      replace ha := Aside0.mk ha; replace hI_ := Aside0.mk hI_
                      refine value_ (w1 := w') (v := .bool (t283 != 0)) (by rfl) rfl ?_ ?_
                      · go_simp
                        (try simp only [i64_w])
                        try first | rfl | (simp [bne]; done)
                      refine hK.out _ _ ⟨v285, (by rw [ha.out]; exact putSel_upk 1 hb_ rfl rfl rfl), hI_.out⟩
                    refine steps_cons ?_ ?_
                    · rintro b a w' ⟨v285, ha, hI_⟩ hb_ hon hoff
                      refine ⟨_, rfl, fun K hK => ?_⟩
                      have e5 : a.tmps[5]? = some (v281) := by rw [ha]; exact (putSel_off rfl).trans rfl
                      have e33 : a.tmps[33]? = some (.bool (t283 != 0)) := by rw [ha]; exact putSel_on (e := (2, 33, .bool (t283 != 0))) 1 rfl rfl (hon 2 (by kernel_rfl)) rfl
                      replace ha := Aside0.mk ha; replace hI_ := Aside0.mk hI_
                      refine value_ (w1 := w') (v := v281) (wanted_on rfl rfl rfl (e33.trans (by first | rfl | (simp [*]; done)))) rfl ?_ ?_
                      · go_simp
                        (try simp only [i64_w])
                        try first | rfl | (simp [bne]; done)
                      refine hK.out _ _ ⟨v285, (by rw [ha.out]; exact putSel_upk 2 hb_ rfl rfl rfl), hI_.out⟩
                    refine steps_cons ?_ ?_
                    · rintro b a w' ⟨v285, ha, Q_HO282, Q_BK278, Q_HB, Q_HO286⟩ hb_ hon hoff
                      refine ⟨_, rfl, fun K hK => ?_⟩
                      have e34 : a.tmps[34]? = some (v281) := by rw [ha]; exact putSel_on (e := (3, 34, v281)) 2 rfl rfl (hon 3 (by kernel_rfl)) rfl
                      have e33 : a.tmps[33]? = some (.bool (t283 != 0)) := by rw [ha]; exact putSel_on (e := (2, 33, .bool (t283 != 0))) 1 rfl rfl (hon 2 (by kernel_rfl)) rfl
                      replace ha := Aside0.mk ha
                      have HO282 := Aside0.mk Q_HO282
                      have BK278 := Aside0.mk Q_BK278
                      have HB := Aside0.mk Q_HB
                      refine str_step (src := 22) (dst := 9) (x := .tmp 34) ?hw ?ho ?hx (v := v281) (s := strOfNums t280) (by obtain ⟨A_, c_, rfl⟩ := Kd.R_slice HO282.out; exact Kd.C_string (P := Try.prog) (A := A_) (c := c_) Try.underlying22 Try.underlying5 Try.underlying9 (Kd.R_reads' (by (with_reducible repeat (first | apply Kd.R_alloc | apply Kd.R_drewN | apply Kd.R_drew)); exact HO282.out)).2.2) ?_
                      case ho => rfl
                      case hw => first | rfl | (simp [Region.wanted, yielded, *]; done)
                      case hx => first | rfl | (simp only [Act.eval, Array.getD_eq_getD_getElem?, Option.getD_some, e34]; done)
                      intro w22 hb
                      have n0_ := Aside0.mk (Kd.R_below (by (with_reducible repeat (first | apply Kd.R_alloc | apply Kd.R_drewN | apply Kd.R_drew)); exact HO282.out) hb)
                      have n1_ := Aside0.mk (blk_below (g := gb278) (o := .cells #[.int .u64 a0_0, .int .u64 a0_1, .int .u64 a0_2, .slice A0_3 l0_3.length c0_3] 91 (0, 0)) (by (with_reducible repeat (first | refine blk_drewN ?_ _ | refine blk_drew ?_ | refine blk_alloc ?_ _)); exact BK278.out) hb)
                      have n2_ := Aside0.mk (below_step (by repeat (first | (with_reducible first | exact HB.out | apply below_alloc | apply pw_below_drewN | apply below_drew1 | refine below_set ?_ GE278.out) | exact HB.out)) hb)
                      have z_HO286 := fun (h0_ : b 6 = true) => (show Kd.R (Kd.int .u8) 5 w22 w.heap.size (fun k_ => some k_ ≠ (v281 : Value).ownBlock) v285 t284 from by first | exact (Kd.R_below (by (with_reducible repeat (first | apply Kd.R_alloc | apply Kd.R_drewN | apply Kd.R_drew)); exact (Q_HO286 h0_)) hb) | exact Kd.R_mono (Kd.R_below (by (with_reducible repeat (first | apply Kd.R_alloc | apply Kd.R_drewN | apply Kd.R_drew)); exact (Q_HO286 h0_)) hb) (fun _ h_ => by first | trivial | exact h_ | exact h_.1))
                      clear HO282
                      clear BK278
                      clear HB
                      have HO282 := n0_
                      have BK278 := n1_
                      have HB := n2_
                      clear n0_ n1_ n2_
                      (try clear hb)
                      refine hK.out _ _ ⟨v285, (by rw [ha.out]; exact putSel_upk 3 hb_ rfl rfl rfl), (by (with_reducible repeat (first | apply Kd.R_alloc | apply Kd.R_drewN | apply Kd.R_drew)); exact HO282.out), (by (with_reducible repeat (first | refine blk_drewN ?_ _ | refine blk_drew ?_ | refine blk_alloc ?_ _)); exact BK278.out), (by repeat (first | (with_reducible first | exact HB.out | apply below_alloc | apply pw_below_drewN | apply below_drew1 | refine below_set ?_ GE278.out) | exact HB.out)), z_HO286⟩
                    refine steps_cons ?_ ?_
                    · rintro b a w' ⟨v285, ha, Q_HO282, Q_BK278, Q_HB, Q_HO286⟩ hb_ hon hoff
                      refine ⟨_, rfl, fun K hK => ?_⟩
                      have e2 : a.tmps[2]? = some (.pointer (some ⟨gb278, 0, none⟩)) := by rw [ha]; exact (putSel_off rfl).trans rfl
                      have e33 : a.tmps[33]? = some (.bool (t283 != 0)) := by rw [ha]; exact putSel_on (e := (2, 33, .bool (t283 != 0))) 1 rfl rfl (hon 2 (by kernel_rfl)) rfl
                      replace ha := Aside0.mk ha
                      have HO282 := Aside0.mk Q_HO282
                      have BK278 := Aside0.mk Q_BK278
                      have HB := Aside0.mk Q_HB
                      have hc0_ : w'.cell? ⟨gb278, 0, none⟩ = some (.int .u64 a0_0) := (blk_cell BK278.out 0).trans rfl
                      have hc1_ : w'.cell? ⟨gb278, 1, none⟩ = some (.int .u64 a0_1) := (blk_cell BK278.out 1).trans rfl
                      have hc2_ : w'.cell? ⟨gb278, 2, none⟩ = some (.int .u64 a0_2) := (blk_cell BK278.out 2).trans rfl
                      have hc3_ : w'.cell? ⟨gb278, 3, none⟩ = some (.slice A0_3 l0_3.length c0_3) := (blk_cell BK278.out 3).trans rfl
                      refine value_ (w1 := w') (v := .agg #[.int .u64 a0_0, .int .u64 a0_1, .int .u64 a0_2, .slice A0_3 l0_3.length c0_3]) (wanted_on rfl rfl rfl (e33.trans (by first | rfl | (simp [*]; done)))) rfl ?_ ?_
                      · go_simp
                        (try simp only [i64_w])
                        try first | rfl | (simp [bne]; done)
                      refine hK.out _ _ ⟨v285, (by rw [ha.out]; exact putSel_upk 4 hb_ rfl rfl rfl), Q_HO282, Q_BK278, Q_HB, fun h0_ => absurd ((hoff 6 (by kernel_rfl)).symm.trans h0_) (by decide)⟩
                    refine steps_cons ?_ ?_
                    · rintro b a w' ⟨v285, ha, Q_HO282, Q_BK278, Q_HB, Q_HO286⟩ hb_ hon hoff
                      refine ⟨_, rfl, fun K hK => ?_⟩
                      have e36 : a.tmps[36]? = some (.agg #[.int .u64 a0_0, .int .u64 a0_1, .int .u64 a0_2, .slice A0_3 l0_3.length c0_3]) := by rw [ha]; exact putSel_on (e := (5, 36, .agg #[.int .u64 a0_0, .int .u64 a0_1, .int .u64 a0_2, .slice A0_3 l0_3.length c0_3])) 4 rfl rfl (hon 5 (by kernel_rfl)) rfl
                      have e33 : a.tmps[33]? = some (.bool (t283 != 0)) := by rw [ha]; exact putSel_on (e := (2, 33, .bool (t283 != 0))) 1 rfl rfl (hon 2 (by kernel_rfl)) rfl
                      replace ha := Aside0.mk ha
                      have HO282 := Aside0.mk Q_HO282
                      have BK278 := Aside0.mk Q_BK278
                      have HB := Aside0.mk Q_HB
                      refine goes_ Try.func71 (by kernel_rfl) rfl #[.agg #[.int .u64 a0_0, .int .u64 a0_1, .int .u64 a0_2, .slice A0_3 l0_3.length c0_3]] (by first | rfl | (simp [Region.wanted, yielded, *]; done)) rfl rfl (by (try simp only [List.map_toArray, List.map_cons, List.map_nil]); first | done | rfl | (simp only [Act.eval, Array.getD_eq_getD_getElem?, Option.getD_some, e36]; done) | (simp only [List.length_drop, List.length_take]; rfl)) ?_
                      with_reducible refine (wristbandref12_Write.calls kj4 a0_0 a0_1 a0_2 _ _ l0_3 t284 _ ?side1 ?side2 A19.out).mono ?_
                      (case side1 => repeat (first | exact (Kd.C_below HR0_3.out HB.out) | (with_reducible refine Kd.C_alloc ?_ _) | (with_reducible refine Kd.C_drewN ?_ _) | (with_reducible refine Kd.C_drew ?_)))
                      (case side2 => exact HC0_3.out)
                      rintro e w22 ⟨v285, rfl, ho0, hb⟩
                      refine ⟨_, rfl, ?_⟩
                      have n0_ := Aside0.mk (Kd.R_elder' (by (with_reducible repeat (first | apply Kd.R_alloc | apply Kd.R_drewN | apply Kd.R_drew)); exact HO282.out) (Kd.R_base ho0) hb)
                      have n1_ := Aside0.mk (Kd.R_lower (Kd.R_new' ho0 (Kd.R_lt (by (with_reducible repeat (first | apply Kd.R_alloc | apply Kd.R_drewN | apply Kd.R_drew)); exact HO282.out))) (below_size (by repeat (first | (with_reducible first | exact HB.out | apply below_alloc | apply pw_below_drewN | apply below_drew1 | refine below_set ?_ GE278.out) | exact HB.out))))
                      have n2_ := Aside0.mk (blk_below (g := gb278) (o := .cells #[.int .u64 a0_0, .int .u64 a0_1, .int .u64 a0_2, .slice A0_3 l0_3.length c0_3] 91 (0, 0)) (by (with_reducible repeat (first | refine blk_drewN ?_ _ | refine blk_drew ?_ | refine blk_alloc ?_ _)); exact BK278.out) hb)
                      have n3_ := Aside0.mk (below_step (by repeat (first | (with_reducible first | exact HB.out | apply below_alloc | apply pw_below_drewN | apply below_drew1 | refine below_set ?_ GE278.out) | exact HB.out)) hb)
                      clear HO282
                      clear BK278
                      clear HB
                      have HO282 := n0_
                      have HO286 := n1_
                      have BK278 := n2_
                      have HB := n3_
                      clear n0_ n1_ n2_ n3_
                      (try clear hb)
                      (try clear hb2)
                      (try clear hk)
                      (try clear hi)
                      (try clear ho0)
                      refine hK.out _ _ ⟨v285, (by rw [ha.out]; exact putSel_upk 5 hb_ rfl rfl rfl), (by (with_reducible repeat (first | apply Kd.R_alloc | apply Kd.R_drewN | apply Kd.R_drew)); first | exact Kd.R_mono HO282.out (fun _ hk => hk.2) | exact Kd.R_mono (HO282.out) (fun _ hk => by first | trivial | exact hk | exact hk.1 | ((repeat' apply And.intro) <;> first | exact hk.2 | exact hk.1.2 | exact hk.1.1.2))), (by (with_reducible repeat (first | refine blk_drewN ?_ _ | refine blk_drew ?_ | refine blk_alloc ?_ _)); exact BK278.out), (by repeat (first | (with_reducible first | exact HB.out | apply below_alloc | apply pw_below_drewN | apply below_drew1 | refine below_set ?_ GE278.out) | exact HB.out)), fun _ => (by (with_reducible repeat (first | apply Kd.R_alloc | apply Kd.R_drewN | apply Kd.R_drew)); exact Kd.R_mono HO286.out (fun _ hk => hk.2))⟩
                    refine steps_cons ?_ ?_
                    · rintro b a w' ⟨v285, ha, Q_HO282, Q_BK278, Q_HB, Q_HO286⟩ hb_ hon hoff
                      refine ⟨_, rfl, fun K hK => ?_⟩
                      have e37 : a.tmps[37]? = some (v285) := by rw [ha]; exact putSel_on (e := (6, 37, v285)) 5 rfl rfl (hon 6 (by kernel_rfl)) rfl
                      have e33 : a.tmps[33]? = some (.bool (t283 != 0)) := by rw [ha]; exact putSel_on (e := (2, 33, .bool (t283 != 0))) 1 rfl rfl (hon 2 (by kernel_rfl)) rfl
                      replace ha := Aside0.mk ha
                      have HO282 := Aside0.mk Q_HO282
                      have BK278 := Aside0.mk Q_BK278
                      have HB := Aside0.mk Q_HB
                      have HO286 := Aside0.mk (Q_HO286 (hon 6 (by kernel_rfl)))
                      refine str_step (src := 22) (dst := 9) (x := .tmp 37) ?hw ?ho ?hx (v := v285) (s := strOfNums t284) (by obtain ⟨A_, c_, rfl⟩ := Kd.R_slice HO286.out; exact Kd.C_string (P := Try.prog) (A := A_) (c := c_) Try.underlying22 Try.underlying5 Try.underlying9 (Kd.R_reads' (by (with_reducible repeat (first | apply Kd.R_alloc | apply Kd.R_drewN | apply Kd.R_drew)); exact HO286.out)).2.2) ?_
                      case ho => rfl
                      case hw => first | rfl | (simp [Region.wanted, yielded, *]; done)
                      case hx => first | rfl | (simp only [Act.eval, Array.getD_eq_getD_getElem?, Option.getD_some, e37]; done)
                      intro w24 hb
                      have n0_ := Aside0.mk (Kd.R_below (by (with_reducible repeat (first | apply Kd.R_alloc | apply Kd.R_drewN | apply Kd.R_drew)); exact HO282.out) hb)
                      have n1_ := Aside0.mk (Kd.R_below (by (with_reducible repeat (first | apply Kd.R_alloc | apply Kd.R_drewN | apply Kd.R_drew)); exact HO286.out) hb)
                      have n2_ := Aside0.mk (blk_below (g := gb278) (o := .cells #[.int .u64 a0_0, .int .u64 a0_1, .int .u64 a0_2, .slice A0_3 l0_3.length c0_3] 91 (0, 0)) (by (with_reducible repeat (first | refine blk_drewN ?_ _ | refine blk_drew ?_ | refine blk_alloc ?_ _)); exact BK278.out) hb)
                      have n3_ := Aside0.mk (below_step (by repeat (first | (with_reducible first | exact HB.out | apply below_alloc | apply pw_below_drewN | apply below_drew1 | refine below_set ?_ GE278.out) | exact HB.out)) hb)
                      clear HO282
                      clear HO286
                      clear BK278
                      clear HB
                      have HO282 := n0_
                      have HO286 := n1_
                      have BK278 := n2_
                      have HB := n3_
                      clear n0_ n1_ n2_ n3_
                      (try clear hb)
                      refine hK.out _ _ ⟨v285, (by rw [ha.out]; exact putSel_upk 6 hb_ rfl rfl rfl), (by (with_reducible repeat (first | apply Kd.R_alloc | apply Kd.R_drewN | apply Kd.R_drew)); first | exact HO282.out | exact Kd.R_mono (HO282.out) (fun _ hk => by first | trivial | exact hk | exact hk.1 | ((repeat' apply And.intro) <;> first | exact hk.2 | exact hk.1.2 | exact hk.1.1.2))), (by (with_reducible repeat (first | refine blk_drewN ?_ _ | refine blk_drew ?_ | refine blk_alloc ?_ _)); exact BK278.out), (by repeat (first | (with_reducible first | exact HB.out | apply below_alloc | apply pw_below_drewN | apply below_drew1 | refine below_set ?_ GE278.out) | exact HB.out)), fun _ => (by (with_reducible repeat (first | apply Kd.R_alloc | apply Kd.R_drewN | apply Kd.R_drew)); exact HO286.out)⟩
                    refine steps_cons ?_ ?_
                    · rintro b a w' ⟨v285, ha, hI_⟩ hb_ hon hoff
                      refine ⟨_, rfl, fun K hK => ?_⟩
                      have e35 : a.tmps[35]? = some (.string (strOfNums t280)) := by rw [ha]; exact putSel_on (e := (4, 35, .string (strOfNums t280))) 3 rfl rfl (hon 4 (by kernel_rfl)) rfl
                      have e38 : a.tmps[38]? = some (.string (strOfNums t284)) := by rw [ha]; exact putSel_on (e := (7, 38, .string (strOfNums t284))) 6 rfl rfl (hon 7 (by kernel_rfl)) rfl
                      have e33 : a.tmps[33]? = some (.bool (t283 != 0)) := by rw [ha]; exact putSel_on (e := (2, 33, .bool (t283 != 0))) 1 rfl rfl (hon 2 (by kernel_rfl)) rfl
                      replace ha := Aside0.mk ha; replace hI_ := Aside0.mk hI_
                      refine value_ (w1 := w') (v := .bool ((strOfNums t280).toList != (strOfNums t284).toList)) (wanted_on rfl rfl rfl (e33.trans (by first | rfl | (simp [*]; done)))) rfl ?_ ?_
                      · go_simp
                        (try simp only [i64_w])
                        try first | rfl | (simp [bne]; done)
                      refine hK.out _ _ ⟨v285, (by rw [ha.out]; exact putSel_upk 7 hb_ rfl rfl rfl), hI_.out⟩
                    refine steps_cons ?_ ?_
                    · rintro b a w' ⟨v285, ha, hI_⟩ hb_ hon hoff
                      refine ⟨_, rfl, fun K hK => ?_⟩
                      have e33 : a.tmps[33]? = some (.bool (t283 != 0)) := by rw [ha]; exact putSel_on (e := (2, 33, .bool (t283 != 0))) 1 rfl rfl (hon 2 (by kernel_rfl)) rfl
                      have e39 : a.tmps[39]? = some (.bool ((strOfNums t280).toList != (strOfNums t284).toList)) := by rw [ha]; exact putSel_on (e := (8, 39, .bool ((strOfNums t280).toList != (strOfNums t284).toList))) 7 rfl rfl (hon 8 (by kernel_rfl)) rfl
                      replace ha := Aside0.mk ha; replace hI_ := Aside0.mk hI_
                      refine value_ (w1 := w') (v := .bool ((strOfNums t280).toList != (strOfNums t284).toList)) (by rfl) rfl ?_ ?_
                      · go_simp
                        (try simp only [i64_w])
                        try first | rfl | (simp [bne]; done)
                      refine hK.out _ _ ⟨v285, (by rw [ha.out]; exact putSel_upk 8 hb_ rfl rfl rfl), hI_.out⟩
                    exact steps_nil
                  rintro b a w25 hall ⟨v285, ha, Q_HO282, Q_BK278, Q_HB, Q_HO286⟩
                  clear BK278 HB HO282
                  have hb1_ := hall 1 (by kernel_rfl)
                  have hb2_ := hall 2 (by kernel_rfl)
                  have hb3_ := hall 3 (by kernel_rfl)
                  have hb4_ := hall 4 (by kernel_rfl)
                  have hb5_ := hall 5 (by kernel_rfl)
                  have hb6_ := hall 6 (by kernel_rfl)
                  have hb7_ := hall 7 (by kernel_rfl)
                  have hb8_ := hall 8 (by kernel_rfl)
                  have hb9_ := hall 9 (by kernel_rfl)
                  subst ha
                  simp only [putSel, hb1_, hb2_, hb3_, hb4_, hb5_, hb6_, hb7_, hb8_, hb9_, if_true, Act.put, List.setIfInBounds_toArray, List.set_cons_zero, List.set_cons_succ]; (try simp only [c20b0, c20b1])
                  have HO282 := Aside0.mk Q_HO282
                  clear Q_HO282
                  have BK278 := Aside0.mk Q_BK278
                  clear Q_BK278
                  have HB := Aside0.mk Q_HB
                  clear Q_HB
                  have HO286 := Aside0.mk (Q_HO286 hb6_)
                  clear Q_HO286
                  clear hall hb1_ hb2_ hb3_ hb4_ hb5_ hb6_ hb7_ hb8_ hb9_
                  try go_wp2
                  go_meet
                  case rel => exact ⟨_, H', ⟨by have := HJ4.out; first | omega | exact Nat.le_refl _⟩, ⟨by (with_reducible repeat (first | refine blk_drewN ?_ _ | refine blk_drew ?_ | refine blk_alloc ?_ _)); exact BK278.out⟩, ⟨by repeat (first | (with_reducible first | exact HB.out | apply below_alloc | apply pw_below_drewN | apply below_drew1 | refine below_set ?_ GE278.out) | exact HB.out)⟩⟩
                · rw [if_neg c20] at H
                  have c20b0 : ((strOfNums t280).toList == (strOfNums t284).toList) = false := beq_eq_false_iff_ne.mpr c20
                  have c20b1 : ((strOfNums t280).toList != (strOfNums t284).toList) = true := bne_iff_ne.mpr c20
                  exact absurd (Option.some.inj H) (by rw [HR_.out]; decide)
              · rw [if_neg c18] at H
                have c18b0 : (t283 == 0) = false := beq_eq_false_iff_ne.mpr c18
                have c18b1 : (t283 != 0) = true := bne_iff_ne.mpr c18
                exact absurd (Option.some.inj H) (by rw [HR_.out]; decide)
            · rw [if_neg c17] at H
              have c17b0 : ((l0_3.length : Int) == 8) = false := beq_eq_false_iff_ne.mpr c17
              have c17b1 : ((l0_3.length : Int) != 8) = true := bne_iff_ne.mpr c17
              (first | rw [c17b0] | (simp only [i64_w, i32_w]; rw [c17b0]) | skip)
              by_cases c26 : t283 = 1
              · rw [if_pos c26] at H
                have c26b0 : (t283 == 1) = true := beq_iff_eq.mpr c26
                have c26b1 : (t283 != 1) = false := bne_eq_false_iff_eq.mpr c26
                clear c26
                by_cases c27 : (t280.length : Int) = 0
                · rw [if_pos c27] at H
                  have c27b0 : ((t280.length : Int) == 0) = true := beq_iff_eq.mpr c27
                  have c27b1 : ((t280.length : Int) != 0) = false := bne_eq_false_iff_eq.mpr c27
                  clear c27
                  have H' := Aside0.mk H
                  clear H
                  obtain ⟨Ao28, co28, eo28⟩ := Kd.R_slice HO282.out
                  subst eo28
                  go_wp2
                  go_meet
                  case rel => exact ⟨_, H', ⟨by have := HJ4.out; first | omega | exact Nat.le_refl _⟩, ⟨by (with_reducible repeat (first | refine blk_drewN ?_ _ | refine blk_drew ?_ | refine blk_alloc ?_ _)); exact BK278.out⟩, ⟨by repeat (first | (with_reducible first | exact HB.out | apply below_alloc | apply pw_below_drewN | apply below_drew1 | refine below_set ?_ GE278.out) | exact HB.out)⟩⟩
                · rw [if_neg c27] at H
                  have c27b0 : ((t280.length : Int) == 0) = false := beq_eq_false_iff_ne.mpr c27
                  have c27b1 : ((t280.length : Int) != 0) = true := bne_iff_ne.mpr c27
                  have c27b2 : ¬ (t280 = []) := fun h_ => c27 (by rw [h_]; rfl)
                  exact absurd (Option.some.inj H) (by rw [HR_.out]; decide)
              · rw [if_neg c26] at H
                have c26b0 : (t283 == 1) = false := beq_eq_false_iff_ne.mpr c26
                have c26b1 : (t283 != 1) = true := bne_iff_ne.mpr c26
                exact absurd (Option.some.inj H) (by rw [HR_.out]; decide)
          case rest =>
            clear HC13
            try clear c1
            try clear c2
            try clear p2
            try clear c3
            try clear c4
            try clear c6
            try clear c7
            try clear c8
            try clear c8b0
            try clear c8b1
            try clear c11
            try clear c14
            try clear c17
            try clear c17b0
            try clear c17b1
            try clear c18
            try clear c18b0
            try clear c18b1
            try clear c20
            try clear c20b0
            try clear c20b1
            try clear c26
            try clear c26b0
            try clear c26b1
            try clear c27
            try clear c27b0
            try clear c27b1
            try clear c27b2
            try clear hcz10_0
            try clear hcz10_1
            try clear hcz10_2
            try clear hcz10_3
            try clear hcz14_0
            try clear hcz14_1
            try clear hcz14_2
            try clear hcz14_3
            try clear hcz16_0
            try clear hcz16_1
            try clear hcz16_2
            try clear hcz16_3
            try clear hcz9_0
            try clear hcz9_1
            try clear hcz9_2
            try clear hcz9_3
            try clear hfz10_0
            try clear hfz10_1
            try clear hfz10_2
            try clear hfz10_3
            try clear hfz14_0
            try clear hfz14_1
            try clear hfz14_2
            try clear hfz14_3
            try clear hfz16_0
            try clear hfz16_1
            try clear hfz16_2
            try clear hfz16_3
            try clear hfz9_0
            try clear hfz9_1
            try clear hfz9_2
            try clear hfz9_3
            try clear p2
            obtain ⟨kq, HA, HJ12, BK278, HB⟩ := hcut
            cases kq with
            | zero => exact absurd HA.out (by simp [wristbandlaw12_FrameRight.j1])
            | succ kj12 =>
              have H := HA.out
              clear HA
              simp only [wristbandlaw12_FrameRight.j1] at H
              replace H := Option.bind_eq_some_iff.mp H
              obtain ⟨⟨t287, t288, t289, t290, t293⟩, A290, H⟩ := H
              replace H : ((wristbandref12_Read.f kj12 l1).bind fun bt295 => ((frame_Right.f a0_0 a0_1 a0_2 l0_3).bind fun t303 => (if (t303 == ((l0_3.length : Int) == 8)) = true then ((wristbandref12_Same.f t287 t288 t289 t290 bt295.1 bt295.2.1 bt295.2.2.1 bt295.2.2.2.1).bind fun t304 => (if t304 = true then (if t293 = bt295.2.2.2.2 then ((frame_Msg.f kj12 a0_0 a0_1 a0_2).bind fun t305 => ((wristbandref12_Msg.f kj12 a0_0 a0_1 a0_2).bind fun t308 => (some ((strOfNums t305).toList == (strOfNums t308).toList)))) else (some false)) else (some false))) else (some false)))) = some r := H
              have A29 := Aside0.mk A290
              clear A290
              replace H := Option.bind_eq_some_iff.mp H
              obtain ⟨⟨t295, t296, t297, t298, t301⟩, A300, H⟩ := H
              replace H : ((frame_Right.f a0_0 a0_1 a0_2 l0_3).bind fun t303 => (if (t303 == ((l0_3.length : Int) == 8)) = true then ((wristbandref12_Same.f t287 t288 t289 t290 t295 t296 t297 t298).bind fun t304 => (if t304 = true then (if t293 = t301 then ((frame_Msg.f kj12 a0_0 a0_1 a0_2).bind fun t305 => ((wristbandref12_Msg.f kj12 a0_0 a0_1 a0_2).bind fun t308 => (some ((strOfNums t305).toList == (strOfNums t308).toList)))) else (some false)) else (some false))) else (some false))) = some r := H
              have A30 := Aside0.mk A300
              clear A300
              replace H := Option.bind_eq_some_iff.mp H
              obtain ⟨t303, A310, H⟩ := H
              replace H : (if (t303 == ((l0_3.length : Int) == 8)) = true then ((wristbandref12_Same.f t287 t288 t289 t290 t295 t296 t297 t298).bind fun t304 => (if t304 = true then (if t293 = t301 then ((frame_Msg.f kj12 a0_0 a0_1 a0_2).bind fun t305 => ((wristbandref12_Msg.f kj12 a0_0 a0_1 a0_2).bind fun t308 => (some ((strOfNums t305).toList == (strOfNums t308).toList)))) else (some false)) else (some false))) else (some false)) = some r := H
              have A31 := Aside0.mk A310
              clear A310
              by_cases c32 : (t303 == ((l0_3.length : Int) == 8)) = true
              · rw [if_pos c32] at H
                have c32b0 : (t303 == ((l0_3.length : Int) == 8)) = true := c32
                (try (have c32b1 : decide (t303 = ((l0_3.length : Int) == 8)) = true := by simpa using c32))
                (try (have c32b2 : (t303 == ((l0_3.length : Int) == 8)) = true := by simpa using c32))
                clear c32
                replace H := Option.bind_eq_some_iff.mp H
                obtain ⟨t304, A330, H⟩ := H
                replace H : (if t304 = true then (if t293 = t301 then ((frame_Msg.f kj12 a0_0 a0_1 a0_2).bind fun t305 => ((wristbandref12_Msg.f kj12 a0_0 a0_1 a0_2).bind fun t308 => (some ((strOfNums t305).toList == (strOfNums t308).toList)))) else (some false)) else (some false)) = some r := H
                have A33 := Aside0.mk A330
                clear A330
                by_cases c34 : t304 = true
                · subst c34
                  have H1 : (if t293 = t301 then ((frame_Msg.f kj12 a0_0 a0_1 a0_2).bind fun t305 => ((wristbandref12_Msg.f kj12 a0_0 a0_1 a0_2).bind fun t308 => (some ((strOfNums t305).toList == (strOfNums t308).toList)))) else (some false)) = some r := by rw [if_pos rfl] at H; exact H
                  clear H
                  have H := H1
                  clear H1
                  by_cases c35 : t293 = t301
                  · rw [if_pos c35] at H
                    have c35b0 : (t293 == t301) = true := beq_iff_eq.mpr c35
                    have c35b1 : (t293 != t301) = false := bne_eq_false_iff_eq.mpr c35
                    clear c35
                    replace H := Option.bind_eq_some_iff.mp H
                    obtain ⟨t305, A360, H⟩ := H
                    replace H : ((wristbandref12_Msg.f kj12 a0_0 a0_1 a0_2).bind fun t308 => (some ((strOfNums t305).toList == (strOfNums t308).toList))) = some r := H
                    have A36 := Aside0.mk A360
                    clear A360
                    replace H := Option.bind_eq_some_iff.mp H
                    obtain ⟨t308, A370, H⟩ := H
                    replace H : (some ((strOfNums t305).toList == (strOfNums t308).toList)) = some r := H
                    have A37 := Aside0.mk A370
                    clear A370
                    obtain rfl := Option.some.inj H
                    try go_wp2_with (first | ((with_reducible refine gate_callee (f := 72) rfl ?_); refine goesL_ (some 50) rfl rfl Try.func72 (by kernel_rfl) rfl #[.slice A1 l1.length c1] rfl (by (try simp only [List.map_toArray, List.map_cons, List.map_nil]); first | done | rfl | (simp only [List.length_drop, List.length_take]; rfl)) ?_; (with_reducible refine (frame_Read.calls kj12 _ _ l1 t287 t288 t289 t290 t293 _ ?side1 ?side2 A29.out).mono ?_); (case side1 => repeat (first | exact (Kd.C_below HR1.out HB.out) | (with_reducible refine Kd.C_alloc ?_ _) | (with_reducible refine Kd.C_drewN ?_ _) | (with_reducible refine Kd.C_drew ?_))); (case side2 => exact HC1.out); rintro e w38 ⟨v291, rfl, ho0, hb⟩; refine ⟨_, rfl, ?_⟩; have n0_ := Aside0.mk (Kd.R_lower ho0 (below_size (by repeat (first | (with_reducible first | exact HB.out | apply below_alloc | apply pw_below_drewN | apply below_drew1 | refine below_set ?_ GE278.out) | exact HB.out)))); have n1_ := Aside0.mk (blk_below (g := gb278) (o := .cells #[.int .u64 a0_0, .int .u64 a0_1, .int .u64 a0_2, .slice A0_3 l0_3.length c0_3] 91 (0, 0)) (by (with_reducible repeat (first | refine blk_drewN ?_ _ | refine blk_drew ?_ | refine blk_alloc ?_ _)); exact BK278.out) hb); have n2_ := Aside0.mk (below_step (by repeat (first | (with_reducible first | exact HB.out | apply below_alloc | apply pw_below_drewN | apply below_drew1 | refine below_set ?_ GE278.out) | exact HB.out)) hb); clear BK278; clear HB; have HO292 := n0_; have BK278 := n1_; have HB := n2_; clear n0_ n1_ n2_; (try clear hb); (try clear hb2); (try clear hk); (try clear hi); (try clear ho0)) | ((with_reducible refine gate_dst (N := 7) rfl ?_); (try (refine gate_guard (by rfl) ?_; dsimp only)); refine box_event ?hg (N := 7) ?hd (cs := #[.int .u64 0, .int .u64 0, .int .u64 0, .slice none 0 0]) (t := 91) ?hr ?_; (case hd => rfl); (case hg => rfl); (case hr => first | (go_simp; done) | (go_simp; rfl)); intro gb294 hg w39 hbox hb; have n0_ := Aside0.mk (Kd.R_below (by (with_reducible repeat (first | apply Kd.R_alloc | apply Kd.R_drewN | apply Kd.R_drew)); exact HO292.out) hb); have n1_ := Aside0.mk (blk_below (g := gb278) (o := .cells #[.int .u64 a0_0, .int .u64 a0_1, .int .u64 a0_2, .slice A0_3 l0_3.length c0_3] 91 (0, 0)) (by (with_reducible repeat (first | refine blk_drewN ?_ _ | refine blk_drew ?_ | refine blk_alloc ?_ _)); exact BK278.out) hb); have n2_ := Aside0.mk (below_step (by repeat (first | (with_reducible first | exact HB.out | apply below_alloc | apply pw_below_drewN | apply below_drew1 | refine below_set ?_ GE278.out) | exact HB.out)) hb); have n3_ := Aside0.mk (hbox); have n4_ := Aside0.mk ((by rw [hg]; exact (below_size (by repeat (first | (with_reducible first | exact HB.out | apply below_alloc | apply pw_below_drewN | apply below_drew1 | refine below_set ?_ GE278.out) | exact HB.out))) : w.heap.size ≤ gb294)); have n5_ := Aside0.mk ((by rw [hg]; exact (below_size (by repeat (first | (with_reducible first | exact HB.out | apply below_alloc | apply pw_below_drewN | apply below_drew1 | refine below_set ?_ GE278.out) | exact HB.out))) : w.heap.size ≤ gb294)); have n6_ := Aside0.mk ((by rw [hg]; exact Nat.ne_of_lt (blk_lt (g := gb278) (o := .cells #[.int .u64 a0_0, .int .u64 a0_1, .int .u64 a0_2, .slice A0_3 l0_3.length c0_3] 91 (0, 0)) (by (with_reducible repeat (first | refine blk_drewN ?_ _ | refine blk_drew ?_ | refine blk_alloc ?_ _)); exact BK278.out)) : gb278 ≠ gb294)); have n7_ := Aside0.mk ((by rw [hg]; exact Nat.ne_of_gt (blk_lt (g := gb278) (o := .cells #[.int .u64 a0_0, .int .u64 a0_1, .int .u64 a0_2, .slice A0_3 l0_3.length c0_3] 91 (0, 0)) (by (with_reducible repeat (first | refine blk_drewN ?_ _ | refine blk_drew ?_ | refine blk_alloc ?_ _)); exact BK278.out)) : gb294 ≠ gb278)); clear HO292; clear BK278; clear HB; have HO292 := n0_; have BK278 := n1_; have HB := n2_; have BK294 := n3_; have GW294 := n4_; have GE294 := n5_; have NB278_294 := n6_; have NB294_278 := n7_; clear n0_ n1_ n2_ n3_ n4_ n5_ n6_ n7_; clear hb hbox hg; have hnb40 := NB294_278.out; have hnc40 := NB278_294.out; have hcz41_0 : w39.cell? ⟨gb294, 0, none⟩ = some (.int .u64 0) := (blk_cell BK294.out 0).trans rfl; have hcz41_1 : w39.cell? ⟨gb294, 1, none⟩ = some (.int .u64 0) := (blk_cell BK294.out 1).trans rfl; have hcz41_2 : w39.cell? ⟨gb294, 2, none⟩ = some (.int .u64 0) := (blk_cell BK294.out 2).trans rfl; have hcz41_3 : w39.cell? ⟨gb294, 3, none⟩ = some (.slice none 0 0) := (blk_cell BK294.out 3).trans rfl; have hfz41_0 := blk_frozen BK294.out 0; have hfz41_1 := blk_frozen BK294.out 1; have hfz41_2 := blk_frozen BK294.out 2; have hfz41_3 := blk_frozen BK294.out 3; obtain ⟨Ao42, co42, eo42⟩ := Kd.R_slice HO292.out; subst eo42) | ((with_reducible refine gate_callee (f := 73) rfl ?_); refine goesL_ (some 55) rfl rfl Try.func73 (by kernel_rfl) rfl #[.slice A1 l1.length c1] rfl (by (try simp only [List.map_toArray, List.map_cons, List.map_nil]); first | done | rfl | (simp only [List.length_drop, List.length_take]; rfl)) ?_; (with_reducible refine (wristbandref12_Read.calls kj12 _ _ l1 t295 t296 t297 t298 t301 _ ?side1 ?side2 A30.out).mono ?_); (case side1 => exact Kd.C_below HR1.out (by repeat (first | (with_reducible first | exact HB.out | apply below_alloc | apply pw_below_drewN | apply below_drew1 | refine below_set ?_ GE278.out | refine below_set ?_ GE294.out) | exact HB.out))); (case side2 => exact HC1.out); rintro e w43 ⟨v299, rfl, ho0, hb⟩; refine ⟨_, rfl, ?_⟩; have n0_ := Aside0.mk (Kd.R_elder' (by (with_reducible repeat (first | apply Kd.R_alloc | apply Kd.R_drewN | apply Kd.R_drew)); exact (Kd.R_mono (Kd.R_far (p := ⟨gb294, 3, none⟩) (Kd.R_far (p := ⟨gb294, 2, none⟩) (Kd.R_far (p := ⟨gb294, 1, none⟩) (Kd.R_far (p := ⟨gb294, 0, none⟩) (Kd.R_types HO292.out BK294.out (by decide)) (fun _ hk => hk.2) (.int .u64 t287)) (fun _ hk => hk.2) (.int .u64 t288)) (fun _ hk => hk.2) (.int .u64 t289)) (fun _ hk => hk.2) (.slice Ao42 t290.length co42)) (fun _ h_ => h_.1))) (Kd.R_base ho0) hb); have n1_ := Aside0.mk (Kd.R_lower (Kd.R_new' ho0 (Kd.R_lt (by (with_reducible repeat (first | apply Kd.R_alloc | apply Kd.R_drewN | apply Kd.R_drew)); exact (Kd.R_mono (Kd.R_far (p := ⟨gb294, 3, none⟩) (Kd.R_far (p := ⟨gb294, 2, none⟩) (Kd.R_far (p := ⟨gb294, 1, none⟩) (Kd.R_far (p := ⟨gb294, 0, none⟩) (Kd.R_types HO292.out BK294.out (by decide)) (fun _ hk => hk.2) (.int .u64 t287)) (fun _ hk => hk.2) (.int .u64 t288)) (fun _ hk => hk.2) (.int .u64 t289)) (fun _ hk => hk.2) (.slice Ao42 t290.length co42)) (fun _ h_ => h_.1))))) (below_size (by repeat (first | (with_reducible first | exact HB.out | apply below_alloc | apply pw_below_drewN | apply below_drew1 | refine below_set ?_ GE278.out | refine below_set ?_ GE294.out) | exact HB.out)))); have n2_ := Aside0.mk (blk_below (g := gb278) (o := .cells #[.int .u64 a0_0, .int .u64 a0_1, .int .u64 a0_2, .slice A0_3 l0_3.length c0_3] 91 (0, 0)) (by (with_reducible repeat (first | refine blk_drewN ?_ _ | refine blk_drew ?_ | refine blk_alloc ?_ _)); refine blk_far ?_ NB278_294.out _; (with_reducible repeat (first | refine blk_drewN ?_ _ | refine blk_drew ?_ | refine blk_alloc ?_ _)); refine blk_far ?_ NB278_294.out _; (with_reducible repeat (first | refine blk_drewN ?_ _ | refine blk_drew ?_ | refine blk_alloc ?_ _)); refine blk_far ?_ NB278_294.out _; (with_reducible repeat (first | refine blk_drewN ?_ _ | refine blk_drew ?_ | refine blk_alloc ?_ _)); refine blk_far ?_ NB278_294.out _; (with_reducible repeat (first | refine blk_drewN ?_ _ | refine blk_drew ?_ | refine blk_alloc ?_ _)); exact BK278.out) hb); have n3_ := Aside0.mk (blk_below (g := gb294) (o := .cells #[.int .u64 t287, .int .u64 t288, .int .u64 t289, .slice Ao42 t290.length co42] 91 (0, 0)) (by (with_reducible repeat (first | refine blk_drewN ?_ _ | refine blk_drew ?_ | refine blk_alloc ?_ _)); refine blk_put (cs := #[.int .u64 t287, .int .u64 t288, .int .u64 t289, .slice none 0 0]) ?_ 3 _ rfl; (with_reducible repeat (first | refine blk_drewN ?_ _ | refine blk_drew ?_ | refine blk_alloc ?_ _)); refine blk_put (cs := #[.int .u64 t287, .int .u64 t288, .int .u64 0, .slice none 0 0]) ?_ 2 _ rfl; (with_reducible repeat (first | refine blk_drewN ?_ _ | refine blk_drew ?_ | refine blk_alloc ?_ _)); refine blk_put (cs := #[.int .u64 t287, .int .u64 0, .int .u64 0, .slice none 0 0]) ?_ 1 _ rfl; (with_reducible repeat (first | refine blk_drewN ?_ _ | refine blk_drew ?_ | refine blk_alloc ?_ _)); refine blk_put (cs := #[.int .u64 0, .int .u64 0, .int .u64 0, .slice none 0 0]) ?_ 0 _ rfl; (with_reducible repeat (first | refine blk_drewN ?_ _ | refine blk_drew ?_ | refine blk_alloc ?_ _)); exact BK294.out) hb); have n4_ := Aside0.mk (below_step (by repeat (first | (with_reducible first | exact HB.out | apply below_alloc | apply pw_below_drewN | apply below_drew1 | refine below_set ?_ GE278.out | refine below_set ?_ GE294.out) | exact HB.out)) hb); clear HO292; clear BK278; clear BK294; clear HB; have HO292 := n0_; have HO300 := n1_; have BK278 := n2_; have BK294 := n3_; have HB := n4_; clear n0_ n1_ n2_ n3_ n4_; (try clear hb); (try clear hb2); (try clear hk); (try clear hi); (try clear ho0)) | ((with_reducible refine gate_dst (N := 9) rfl ?_); (try (refine gate_guard (by rfl) ?_; dsimp only)); refine box_event ?hg (N := 9) ?hd (cs := #[.int .u64 0, .int .u64 0, .int .u64 0, .slice none 0 0]) (t := 91) ?hr ?_; (case hd => rfl); (case hg => rfl); (case hr => first | (go_simp; done) | (go_simp; rfl)); intro gb302 hg w44 hbox hb; have n0_ := Aside0.mk (Kd.R_below (by (with_reducible repeat (first | apply Kd.R_alloc | apply Kd.R_drewN | apply Kd.R_drew)); exact HO292.out) hb); have n1_ := Aside0.mk (Kd.R_below (by (with_reducible repeat (first | apply Kd.R_alloc | apply Kd.R_drewN | apply Kd.R_drew)); exact HO300.out) hb); have n2_ := Aside0.mk (blk_below (g := gb278) (o := .cells #[.int .u64 a0_0, .int .u64 a0_1, .int .u64 a0_2, .slice A0_3 l0_3.length c0_3] 91 (0, 0)) (by (with_reducible repeat (first | refine blk_drewN ?_ _ | refine blk_drew ?_ | refine blk_alloc ?_ _)); exact BK278.out) hb); have n3_ := Aside0.mk (blk_below (g := gb294) (o := .cells #[.int .u64 t287, .int .u64 t288, .int .u64 t289, .slice Ao42 t290.length co42] 91 (0, 0)) (by (with_reducible repeat (first | refine blk_drewN ?_ _ | refine blk_drew ?_ | refine blk_alloc ?_ _)); exact BK294.out) hb); have n4_ := Aside0.mk (below_step (by repeat (first | (with_reducible first | exact HB.out | apply below_alloc | apply pw_below_drewN | apply below_drew1 | refine below_set ?_ GE278.out | refine below_set ?_ GE294.out) | exact HB.out)) hb); have n5_ := Aside0.mk (hbox); have n6_ := Aside0.mk ((by rw [hg]; exact (below_size (by repeat (first | (with_reducible first | exact HB.out | apply below_alloc | apply pw_below_drewN | apply below_drew1 | refine below_set ?_ GE278.out | refine below_set ?_ GE294.out) | exact HB.out))) : w.heap.size ≤ gb302)); have n7_ := Aside0.mk ((by rw [hg]; exact (below_size (by repeat (first | (with_reducible first | exact HB.out | apply below_alloc | apply pw_below_drewN | apply below_drew1 | refine below_set ?_ GE278.out | refine below_set ?_ GE294.out) | exact HB.out))) : w.heap.size ≤ gb302)); have n8_ := Aside0.mk ((by rw [hg]; exact Nat.ne_of_lt (blk_lt (g := gb278) (o := .cells #[.int .u64 a0_0, .int .u64 a0_1, .int .u64 a0_2, .slice A0_3 l0_3.length c0_3] 91 (0, 0)) (by (with_reducible repeat (first | refine blk_drewN ?_ _ | refine blk_drew ?_ | refine blk_alloc ?_ _)); exact BK278.out)) : gb278 ≠ gb302)); have n9_ := Aside0.mk ((by rw [hg]; exact Nat.ne_of_gt (blk_lt (g := gb278) (o := .cells #[.int .u64 a0_0, .int .u64 a0_1, .int .u64 a0_2, .slice A0_3 l0_3.length c0_3] 91 (0, 0)) (by (with_reducible repeat (first | refine blk_drewN ?_ _ | refine blk_drew ?_ | refine blk_alloc ?_ _)); exact BK278.out)) : gb302 ≠ gb278)); have n10_ := Aside0.mk ((by rw [hg]; exact Nat.ne_of_lt (blk_lt (g := gb294) (o := .cells #[.int .u64 t287, .int .u64 t288, .int .u64 t289, .slice Ao42 t290.length co42] 91 (0, 0)) (by (with_reducible repeat (first | refine blk_drewN ?_ _ | refine blk_drew ?_ | refine blk_alloc ?_ _)); exact BK294.out)) : gb294 ≠ gb302)); have n11_ := Aside0.mk ((by rw [hg]; exact Nat.ne_of_gt (blk_lt (g := gb294) (o := .cells #[.int .u64 t287, .int .u64 t288, .int .u64 t289, .slice Ao42 t290.length co42] 91 (0, 0)) (by (with_reducible repeat (first | refine blk_drewN ?_ _ | refine blk_drew ?_ | refine blk_alloc ?_ _)); exact BK294.out)) : gb302 ≠ gb294)); clear HO292; clear HO300; clear BK278; clear BK294; clear HB; have HO292 := n0_; have HO300 := n1_; have BK278 := n2_; have BK294 := n3_; have HB := n4_; have BK302 := n5_; have GW302 := n6_; have GE302 := n7_; have NB278_302 := n8_; have NB302_278 := n9_; have NB294_302 := n10_; have NB302_294 := n11_; clear n0_ n1_ n2_ n3_ n4_ n5_ n6_ n7_ n8_ n9_ n10_ n11_; clear hb hbox hg; have hnb45 := NB302_278.out; have hnc45 := NB278_302.out; have hnb46 := NB302_294.out; have hnc46 := NB294_302.out; have hcz47_0 : w44.cell? ⟨gb302, 0, none⟩ = some (.int .u64 0) := (blk_cell BK302.out 0).trans rfl; have hcz47_1 : w44.cell? ⟨gb302, 1, none⟩ = some (.int .u64 0) := (blk_cell BK302.out 1).trans rfl; have hcz47_2 : w44.cell? ⟨gb302, 2, none⟩ = some (.int .u64 0) := (blk_cell BK302.out 2).trans rfl; have hcz47_3 : w44.cell? ⟨gb302, 3, none⟩ = some (.slice none 0 0) := (blk_cell BK302.out 3).trans rfl; have hfz47_0 := blk_frozen BK302.out 0; have hfz47_1 := blk_frozen BK302.out 1; have hfz47_2 := blk_frozen BK302.out 2; have hfz47_3 := blk_frozen BK302.out 3; obtain ⟨Ao48, co48, eo48⟩ := Kd.R_slice HO300.out; subst eo48))
                    have n0_ : Aside0 (Kd.R (Kd.int .u8) 5 ((((w44.setCell ⟨gb302, 0, none⟩ (.int .u64 t295)).setCell ⟨gb302, 1, none⟩ (.int .u64 t296)).setCell ⟨gb302, 2, none⟩ (.int .u64 t297)).setCell ⟨gb302, 3, none⟩ (.slice Ao48 t298.length co48)) w.heap.size (fun k_ => some k_ ≠ (.slice Ao48 t298.length co48 : Value).ownBlock) (.slice Ao42 t290.length co42) t290) := ⟨by (with_reducible repeat (first | apply Kd.R_alloc | apply Kd.R_drewN | apply Kd.R_drew)); exact Kd.R_mono (Kd.R_far (p := ⟨gb302, 3, none⟩) (Kd.R_far (p := ⟨gb302, 2, none⟩) (Kd.R_far (p := ⟨gb302, 1, none⟩) (Kd.R_far (p := ⟨gb302, 0, none⟩) (Kd.R_types HO292.out BK302.out (by decide)) (fun _ hk => hk.2) (.int .u64 t295)) (fun _ hk => hk.2) (.int .u64 t296)) (fun _ hk => hk.2) (.int .u64 t297)) (fun _ hk => hk.2) (.slice Ao48 t298.length co48)) (fun _ hk => hk.1.2)⟩
                    have n1_ : Aside0 (Kd.R (Kd.int .u8) 5 ((((w44.setCell ⟨gb302, 0, none⟩ (.int .u64 t295)).setCell ⟨gb302, 1, none⟩ (.int .u64 t296)).setCell ⟨gb302, 2, none⟩ (.int .u64 t297)).setCell ⟨gb302, 3, none⟩ (.slice Ao48 t298.length co48)) w.heap.size (fun k_ => some k_ ≠ (.slice Ao42 t290.length co42 : Value).ownBlock) (.slice Ao48 t298.length co48) t298) := ⟨by (with_reducible repeat (first | apply Kd.R_alloc | apply Kd.R_drewN | apply Kd.R_drew)); exact Kd.R_mono (Kd.R_far (p := ⟨gb302, 3, none⟩) (Kd.R_far (p := ⟨gb302, 2, none⟩) (Kd.R_far (p := ⟨gb302, 1, none⟩) (Kd.R_far (p := ⟨gb302, 0, none⟩) (Kd.R_types HO300.out BK302.out (by decide)) (fun _ hk => hk.2) (.int .u64 t295)) (fun _ hk => hk.2) (.int .u64 t296)) (fun _ hk => hk.2) (.int .u64 t297)) (fun _ hk => hk.2) (.slice Ao48 t298.length co48)) (fun _ hk => hk.1.2)⟩
                    have n2_ : Aside0 (((((w44.setCell ⟨gb302, 0, none⟩ (.int .u64 t295)).setCell ⟨gb302, 1, none⟩ (.int .u64 t296)).setCell ⟨gb302, 2, none⟩ (.int .u64 t297)).setCell ⟨gb302, 3, none⟩ (.slice Ao48 t298.length co48)).heap[gb278]? = some (.cells #[.int .u64 a0_0, .int .u64 a0_1, .int .u64 a0_2, .slice A0_3 l0_3.length c0_3] 91 (0, 0))) := ⟨by (with_reducible repeat (first | refine blk_drewN ?_ _ | refine blk_drew ?_ | refine blk_alloc ?_ _)); refine blk_far ?_ NB278_302.out _; (with_reducible repeat (first | refine blk_drewN ?_ _ | refine blk_drew ?_ | refine blk_alloc ?_ _)); refine blk_far ?_ NB278_302.out _; (with_reducible repeat (first | refine blk_drewN ?_ _ | refine blk_drew ?_ | refine blk_alloc ?_ _)); refine blk_far ?_ NB278_302.out _; (with_reducible repeat (first | refine blk_drewN ?_ _ | refine blk_drew ?_ | refine blk_alloc ?_ _)); refine blk_far ?_ NB278_302.out _; (with_reducible repeat (first | refine blk_drewN ?_ _ | refine blk_drew ?_ | refine blk_alloc ?_ _)); exact BK278.out⟩
                    have n3_ : Aside0 (((((w44.setCell ⟨gb302, 0, none⟩ (.int .u64 t295)).setCell ⟨gb302, 1, none⟩ (.int .u64 t296)).setCell ⟨gb302, 2, none⟩ (.int .u64 t297)).setCell ⟨gb302, 3, none⟩ (.slice Ao48 t298.length co48)).heap[gb294]? = some (.cells #[.int .u64 t287, .int .u64 t288, .int .u64 t289, .slice Ao42 t290.length co42] 91 (0, 0))) := ⟨by (with_reducible repeat (first | refine blk_drewN ?_ _ | refine blk_drew ?_ | refine blk_alloc ?_ _)); refine blk_far ?_ NB294_302.out _; (with_reducible repeat (first | refine blk_drewN ?_ _ | refine blk_drew ?_ | refine blk_alloc ?_ _)); refine blk_far ?_ NB294_302.out _; (with_reducible repeat (first | refine blk_drewN ?_ _ | refine blk_drew ?_ | refine blk_alloc ?_ _)); refine blk_far ?_ NB294_302.out _; (with_reducible repeat (first | refine blk_drewN ?_ _ | refine blk_drew ?_ | refine blk_alloc ?_ _)); refine blk_far ?_ NB294_302.out _; (with_reducible repeat (first | refine blk_drewN ?_ _ | refine blk_drew ?_ | refine blk_alloc ?_ _)); exact BK294.out⟩
                    have n4_ : Aside0 (((((w44.setCell ⟨gb302, 0, none⟩ (.int .u64 t295)).setCell ⟨gb302, 1, none⟩ (.int .u64 t296)).setCell ⟨gb302, 2, none⟩ (.int .u64 t297)).setCell ⟨gb302, 3, none⟩ (.slice Ao48 t298.length co48)).heap[gb302]? = some (.cells #[.int .u64 t295, .int .u64 t296, .int .u64 t297, .slice Ao48 t298.length co48] 91 (0, 0))) := ⟨by (with_reducible repeat (first | refine blk_drewN ?_ _ | refine blk_drew ?_ | refine blk_alloc ?_ _)); refine blk_put (cs := #[.int .u64 t295, .int .u64 t296, .int .u64 t297, .slice none 0 0]) ?_ 3 _ rfl; (with_reducible repeat (first | refine blk_drewN ?_ _ | refine blk_drew ?_ | refine blk_alloc ?_ _)); refine blk_put (cs := #[.int .u64 t295, .int .u64 t296, .int .u64 0, .slice none 0 0]) ?_ 2 _ rfl; (with_reducible repeat (first | refine blk_drewN ?_ _ | refine blk_drew ?_ | refine blk_alloc ?_ _)); refine blk_put (cs := #[.int .u64 t295, .int .u64 0, .int .u64 0, .slice none 0 0]) ?_ 1 _ rfl; (with_reducible repeat (first | refine blk_drewN ?_ _ | refine blk_drew ?_ | refine blk_alloc ?_ _)); refine blk_put (cs := #[.int .u64 0, .int .u64 0, .int .u64 0, .slice none 0 0]) ?_ 0 _ rfl; (with_reducible repeat (first | refine blk_drewN ?_ _ | refine blk_drew ?_ | refine blk_alloc ?_ _)); exact BK302.out⟩
                    have n5_ : Aside0 (Below w.heap.size w ((((w44.setCell ⟨gb302, 0, none⟩ (.int .u64 t295)).setCell ⟨gb302, 1, none⟩ (.int .u64 t296)).setCell ⟨gb302, 2, none⟩ (.int .u64 t297)).setCell ⟨gb302, 3, none⟩ (.slice Ao48 t298.length co48))) := ⟨by repeat (first | (with_reducible first | exact HB.out | apply below_alloc | apply pw_below_drewN | apply below_drew1 | refine below_set ?_ GE278.out | refine below_set ?_ GE294.out | refine below_set ?_ GE302.out) | exact HB.out)⟩
                    (try clear HO292)
                    (try clear HO300)
                    (try clear BK278)
                    (try clear BK294)
                    (try clear BK302)
                    (try clear HB)
                    generalize ((((w44.setCell ⟨gb302, 0, none⟩ (.int .u64 t295)).setCell ⟨gb302, 1, none⟩ (.int .u64 t296)).setCell ⟨gb302, 2, none⟩ (.int .u64 t297)).setCell ⟨gb302, 3, none⟩ (.slice Ao48 t298.length co48)) = w49 at n0_ n1_ n2_ n3_ n4_ n5_ ⊢
                    have HO292 := n0_
                    have HO300 := n1_
                    have BK278 := n2_
                    have BK294 := n3_
                    have BK302 := n4_
                    have HB := n5_
                    clear n0_ n1_ n2_ n3_ n4_ n5_
                    have n0_ := Aside0.mk (Kd.R_drew HO292.out)
                    have n1_ := Aside0.mk (Kd.R_drew HO300.out)
                    have n2_ := Aside0.mk (blk_drew BK278.out)
                    have n3_ := Aside0.mk (blk_drew BK294.out)
                    have n4_ := Aside0.mk (blk_drew BK302.out)
                    have n5_ := Aside0.mk (below_drew1 HB.out)
                    clear HO292
                    clear HO300
                    clear BK278
                    clear BK294
                    clear BK302
                    clear HB
                    have HO292 := n0_
                    have HO300 := n1_
                    have BK278 := n2_
                    have BK294 := n3_
                    have BK302 := n4_
                    have HB := n5_
                    clear n0_ n1_ n2_ n3_ n4_ n5_
                    refine start_ (n := 37) (S := fun w' => True) (ds := []) #[false, false, false, false, false, false, false, false, false, false, false, false, false, false, false, false, false, false, false, false, false, false, false, false, false, false, false, false, false, false, false, false, false, false, false, false, false] (by kernel_rfl) rfl rfl trivial (fun hHeld => ?_); refine with_tabW wristbandlaw12_FrameRight.tab13 wristbandlaw12_FrameRight.bits13 (fun HT_ HW_ => ?_)
                    generalize w49.drew = w50 at HO292 HO300 BK278 BK294 BK302 HB hHeld ⊢
                    refine pure_ (i := 2) (N := some 60) (v := ?_) (a' := ?_) #[false, false, true, false, false, false, false, false, false, false, false, false, false, false, false, false, false, false, false, false, false, false, false, false, false, false, false, false, false, false, false, false, false, false, false, false, false] rfl rfl (any_of HT_.out (by kernel_rfl)) (fun _ _ _ h => h) (Or.inl ⟨by rfl, ?_⟩) ?_ ?_
                    rotate_left
                    · intro w'
                      go_simp
                      with_reducible rfl
                    rotate_left
                    · simp only [Act.put, List.setIfInBounds_toArray, List.set_cons_zero, List.set_cons_succ, i64_w, i32_w]
                      rfl
                    refine inv_at [0, 1, 3, 4, 5, 6, 7, 8, 9, 10, 11, 12, 13, 14, 15, 16, 17, 18, 19, 20, 21, 22, 23, 24, 25, 26, 27, 28, 29, 30, 31, 32, 33, 34, 35, 36] (fun a0_ b a w' => ∃ (v306 : Value) (v309 : Value), a = putSel a0_ b [(0, 58, .agg #[.int .u64 a0_0, .int .u64 a0_1, .int .u64 a0_2, .slice A0_3 l0_3.length c0_3]), (1, 59, .bool t303), (3, 61, .slice A0_3 l0_3.length c0_3), (4, 62, .int .i64 (l0_3.length : Int)), (5, 63, .bool ((l0_3.length : Int) == 8)), (6, 64, .bool (t303 == ((l0_3.length : Int) == 8))), (7, 65, .bool (t303 == ((l0_3.length : Int) == 8))), (8, 66, .agg #[.int .u64 t287, .int .u64 t288, .int .u64 t289, .slice Ao42 t290.length co42]), (9, 67, .agg #[.int .u64 t295, .int .u64 t296, .int .u64 t297, .slice Ao48 t298.length co48]), (10, 68, .bool true), (11, 69, .bool true), (12, 70, .bool true), (13, 71, .int .i64 t293), (14, 72, .int .i64 t301), (15, 73, .bool (t293 == t301)), (16, 74, .bool (t293 == t301)), (17, 75, .bool (t293 == t301)), (18, 76, .pointer (some ⟨gb278, 0, none⟩)), (19, 77, .int .u64 a0_0), (20, 78, .pointer (some ⟨gb278, 1, none⟩)), (21, 79, .int .u64 a0_1), (22, 80, .pointer (some ⟨gb278, 2, none⟩)), (23, 81, .int .u64 a0_2), (24, 82, v306), (25, 83, .string (strOfNums t305)), (26, 84, .pointer (some ⟨gb278, 0, none⟩)), (27, 85, .int .u64 a0_0), (28, 86, .pointer (some ⟨gb278, 1, none⟩)), (29, 87, .int .u64 a0_1), (30, 88, .pointer (some ⟨gb278, 2, none⟩)), (31, 89, .int .u64 a0_2), (32, 90, v309), (33, 91, .string (strOfNums t308)), (34, 92, .bool ((strOfNums t305).toList == (strOfNums t308).toList)), (35, 93, .bool ((strOfNums t305).toList == (strOfNums t308).toList)), (36, 4, .bool ((strOfNums t305).toList == (strOfNums t308).toList))] ∧ (Kd.R (Kd.int .u8) 5 w' w.heap.size (fun k_ => some k_ ≠ (.slice Ao48 t298.length co48 : Value).ownBlock) (.slice Ao42 t290.length co42) t290) ∧ (Kd.R (Kd.int .u8) 5 w' w.heap.size (fun k_ => some k_ ≠ (.slice Ao42 t290.length co42 : Value).ownBlock) (.slice Ao48 t298.length co48) t298) ∧ (w'.heap[gb278]? = some (.cells #[.int .u64 a0_0, .int .u64 a0_1, .int .u64 a0_2, .slice A0_3 l0_3.length c0_3] 91 (0, 0))) ∧ (w'.heap[gb294]? = some (.cells #[.int .u64 t287, .int .u64 t288, .int .u64 t289, .slice Ao42 t290.length co42] 91 (0, 0))) ∧ (w'.heap[gb302]? = some (.cells #[.int .u64 t295, .int .u64 t296, .int .u64 t297, .slice Ao48 t298.length co48] 91 (0, 0))) ∧ (Below w.heap.size w w') ∧ (b 24 = true → Kd.R (Kd.int .u8) 5 w' w.heap.size (fun k_ => some k_ ≠ (.slice Ao42 t290.length co42 : Value).ownBlock ∧ some k_ ≠ (.slice Ao48 t298.length co48 : Value).ownBlock) v306 t305) ∧ (b 32 = true → Kd.R (Kd.int .u8) 5 w' w.heap.size (fun k_ => some k_ ≠ (.slice Ao42 t290.length co42 : Value).ownBlock ∧ some k_ ≠ (.slice Ao48 t298.length co48 : Value).ownBlock) v309 t308)) HT_.out HW_.out (by kernel_rfl) (by kernel_rfl) ?_ ?_ ?_
                    · exact ⟨.bool false, .bool false, by simp only [putSel, Bool.false_eq_true, if_false], HO292.out, HO300.out, BK278.out, BK294.out, BK302.out, HB.out, fun h_ => absurd h_ (by decide), fun h_ => absurd h_ (by decide)⟩
                    · skip
                      clear BK278 BK294 BK302 HB HO292 HO300
                      refine steps_cons ?_ ?_
                      · rintro b a w' ⟨v306, v309, ha, Q_HO292, Q_HO300, Q_BK278, Q_BK294, Q_BK302, Q_HB, Q_HO307, Q_HO310⟩ hb_ hon hoff
                        refine ⟨_, rfl, fun K hK => ?_⟩
                        have e2 : a.tmps[2]? = some (.pointer (some ⟨gb278, 0, none⟩)) := by rw [ha]; exact (putSel_off rfl).trans rfl
                        replace ha := Aside0.mk ha
                        have HO292 := Aside0.mk Q_HO292
                        have HO300 := Aside0.mk Q_HO300
                        have BK278 := Aside0.mk Q_BK278
                        have BK294 := Aside0.mk Q_BK294
                        have BK302 := Aside0.mk Q_BK302
                        have HB := Aside0.mk Q_HB
                        have hc0_ : w'.cell? ⟨gb278, 0, none⟩ = some (.int .u64 a0_0) := (blk_cell BK278.out 0).trans rfl
                        have hc1_ : w'.cell? ⟨gb278, 1, none⟩ = some (.int .u64 a0_1) := (blk_cell BK278.out 1).trans rfl
                        have hc2_ : w'.cell? ⟨gb278, 2, none⟩ = some (.int .u64 a0_2) := (blk_cell BK278.out 2).trans rfl
                        have hc3_ : w'.cell? ⟨gb278, 3, none⟩ = some (.slice A0_3 l0_3.length c0_3) := (blk_cell BK278.out 3).trans rfl
                        refine value_ (w1 := w') (v := .agg #[.int .u64 a0_0, .int .u64 a0_1, .int .u64 a0_2, .slice A0_3 l0_3.length c0_3]) (by rfl) rfl ?_ ?_
                        · go_simp
                          (try simp only [i64_w])
                          try first | rfl | (simp [bne]; done)
                        refine hK.out _ _ ⟨v306, v309, (by rw [ha.out]; exact putSel_upk 0 hb_ rfl rfl rfl), Q_HO292, Q_HO300, Q_BK278, Q_BK294, Q_BK302, Q_HB, fun h0_ => absurd ((hoff 24 (by kernel_rfl)).symm.trans h0_) (by decide), fun h0_ => absurd ((hoff 32 (by kernel_rfl)).symm.trans h0_) (by decide)⟩
                      refine steps_cons ?_ ?_
                      · rintro b a w' ⟨v306, v309, ha, Q_HO292, Q_HO300, Q_BK278, Q_BK294, Q_BK302, Q_HB, Q_HO307, Q_HO310⟩ hb_ hon hoff
                        refine ⟨_, rfl, fun K hK => ?_⟩
                        have e58 : a.tmps[58]? = some (.agg #[.int .u64 a0_0, .int .u64 a0_1, .int .u64 a0_2, .slice A0_3 l0_3.length c0_3]) := by rw [ha]; exact putSel_on (e := (0, 58, .agg #[.int .u64 a0_0, .int .u64 a0_1, .int .u64 a0_2, .slice A0_3 l0_3.length c0_3])) 0 rfl rfl (hon 0 (by kernel_rfl)) rfl
                        replace ha := Aside0.mk ha
                        have HO292 := Aside0.mk Q_HO292
                        have HO300 := Aside0.mk Q_HO300
                        have BK278 := Aside0.mk Q_BK278
                        have BK294 := Aside0.mk Q_BK294
                        have BK302 := Aside0.mk Q_BK302
                        have HB := Aside0.mk Q_HB
                        refine goes_ Try.func74 (by kernel_rfl) rfl #[.agg #[.int .u64 a0_0, .int .u64 a0_1, .int .u64 a0_2, .slice A0_3 l0_3.length c0_3]] (by first | rfl | (simp [Region.wanted, yielded, *]; done)) rfl rfl (by (try simp only [List.map_toArray, List.map_cons, List.map_nil]); first | done | rfl | (simp only [Act.eval, Array.getD_eq_getD_getElem?, Option.getD_some, e58]; done) | (simp only [List.length_drop, List.length_take]; rfl)) ?_
                        with_reducible refine (frame_Right.calls a0_0 a0_1 a0_2 _ _ l0_3 t303 _ ?side1 ?side2 A31.out).mono ?_
                        (case side1 => repeat (first | exact (Kd.C_below HR0_3.out HB.out) | (with_reducible refine Kd.C_alloc ?_ _) | (with_reducible refine Kd.C_drewN ?_ _) | (with_reducible refine Kd.C_drew ?_)))
                        (case side2 => exact HC0_3.out)
                        rintro e w51 ⟨rfl, hb⟩
                        refine ⟨_, rfl, ?_⟩
                        have n0_ := Aside0.mk (Kd.R_below (by (with_reducible repeat (first | apply Kd.R_alloc | apply Kd.R_drewN | apply Kd.R_drew)); exact HO292.out) hb)
                        have n1_ := Aside0.mk (Kd.R_below (by (with_reducible repeat (first | apply Kd.R_alloc | apply Kd.R_drewN | apply Kd.R_drew)); exact HO300.out) hb)
                        have n2_ := Aside0.mk (blk_below (g := gb278) (o := .cells #[.int .u64 a0_0, .int .u64 a0_1, .int .u64 a0_2, .slice A0_3 l0_3.length c0_3] 91 (0, 0)) (by (with_reducible repeat (first | refine blk_drewN ?_ _ | refine blk_drew ?_ | refine blk_alloc ?_ _)); exact BK278.out) hb)
                        have n3_ := Aside0.mk (blk_below (g := gb294) (o := .cells #[.int .u64 t287, .int .u64 t288, .int .u64 t289, .slice Ao42 t290.length co42] 91 (0, 0)) (by (with_reducible repeat (first | refine blk_drewN ?_ _ | refine blk_drew ?_ | refine blk_alloc ?_ _)); exact BK294.out) hb)
                        have n4_ := Aside0.mk (blk_below (g := gb302) (o := .cells #[.int .u64 t295, .int .u64 t296, .int .u64 t297, .slice Ao48 t298.length co48] 91 (0, 0)) (by (with_reducible repeat (first | refine blk_drewN ?_ _ | refine blk_drew ?_ | refine blk_alloc ?_ _)); exact BK302.out) hb)
                        have n5_ := Aside0.mk (below_step (by repeat (first | (with_reducible first | exact HB.out | apply below_alloc | apply pw_below_drewN | apply below_drew1 | refine below_set ?_ GE278.out | refine below_set ?_ GE294.out | refine below_set ?_ GE302.out) | exact HB.out)) hb)
                        clear HO292
                        clear HO300
                        clear BK278
                        clear BK294
                        clear BK302
                        clear HB
                        have HO292 := n0_
                        have HO300 := n1_
                        have BK278 := n2_
                        have BK294 := n3_
                        have BK302 := n4_
                        have HB := n5_
                        clear n0_ n1_ n2_ n3_ n4_ n5_
                        (try clear hb)
                        (try clear hb2)
                        (try clear hk)
                        (try clear hi)
                        refine hK.out _ _ ⟨v306, v309, (by rw [ha.out]; exact putSel_upk 1 hb_ rfl rfl rfl), (by (with_reducible repeat (first | apply Kd.R_alloc | apply Kd.R_drewN | apply Kd.R_drew)); exact HO292.out), (by (with_reducible repeat (first | apply Kd.R_alloc | apply Kd.R_drewN | apply Kd.R_drew)); exact HO300.out), (by (with_reducible repeat (first | refine blk_drewN ?_ _ | refine blk_drew ?_ | refine blk_alloc ?_ _)); exact BK278.out), (by (with_reducible repeat (first | refine blk_drewN ?_ _ | refine blk_drew ?_ | refine blk_alloc ?_ _)); exact BK294.out), (by (with_reducible repeat (first | refine blk_drewN ?_ _ | refine blk_drew ?_ | refine blk_alloc ?_ _)); exact BK302.out), (by repeat (first | (with_reducible first | exact HB.out | apply below_alloc | apply pw_below_drewN | apply below_drew1 | refine below_set ?_ GE278.out | refine below_set ?_ GE294.out | refine below_set ?_ GE302.out) | exact HB.out)), fun h0_ => absurd ((hoff 24 (by kernel_rfl)).symm.trans h0_) (by decide), fun h0_ => absurd ((hoff 32 (by kernel_rfl)).symm.trans h0_) (by decide)⟩
                      refine steps_cons ?_ ?_
                      · rintro b a w' ⟨v306, v309, ha, Q_HO292, Q_HO300, Q_BK278, Q_BK294, Q_BK302, Q_HB, Q_HO307, Q_HO310⟩ hb_ hon hoff
                        refine ⟨_, rfl, fun K hK => ?_⟩
                        have e60 : a.tmps[60]? = some (.pointer (some ⟨gb278, 3, none⟩)) := by rw [ha]; exact (putSel_off rfl).trans rfl
                        replace ha := Aside0.mk ha
                        have HO292 := Aside0.mk Q_HO292
                        have HO300 := Aside0.mk Q_HO300
                        have BK278 := Aside0.mk Q_BK278
                        have BK294 := Aside0.mk Q_BK294
                        have BK302 := Aside0.mk Q_BK302
                        have HB := Aside0.mk Q_HB
                        have hc0_ : w'.cell? ⟨gb278, 0, none⟩ = some (.int .u64 a0_0) := (blk_cell BK278.out 0).trans rfl
                        have hc1_ : w'.cell? ⟨gb278, 1, none⟩ = some (.int .u64 a0_1) := (blk_cell BK278.out 1).trans rfl
                        have hc2_ : w'.cell? ⟨gb278, 2, none⟩ = some (.int .u64 a0_2) := (blk_cell BK278.out 2).trans rfl
                        have hc3_ : w'.cell? ⟨gb278, 3, none⟩ = some (.slice A0_3 l0_3.length c0_3) := (blk_cell BK278.out 3).trans rfl
                        refine value_ (w1 := w') (v := .slice A0_3 l0_3.length c0_3) (by rfl) rfl ?_ ?_
                        · go_simp
                          (try simp only [i64_w])
                          try first | rfl | (simp [bne]; done)
                        refine hK.out _ _ ⟨v306, v309, (by rw [ha.out]; exact putSel_upk 2 hb_ rfl rfl rfl), Q_HO292, Q_HO300, Q_BK278, Q_BK294, Q_BK302, Q_HB, fun h0_ => absurd ((hoff 24 (by kernel_rfl)).symm.trans h0_) (by decide), fun h0_ => absurd ((hoff 32 (by kernel_rfl)).symm.trans h0_) (by decide)⟩
                      refine steps_cons ?_ ?_
                      · rintro b a w' ⟨v306, v309, ha, hI_⟩ hb_ hon hoff
                        refine ⟨_, rfl, fun K hK => ?_⟩
                        have e61 : a.tmps[61]? = some (.slice A0_3 l0_3.length c0_3) := by rw [ha]; exact putSel_on (e := (3, 61, .slice A0_3 l0_3.length c0_3)) 2 rfl rfl (hon 3 (by kernel_rfl)) rfl
                        replace ha := Aside0.mk ha; replace hI_ := Aside0.mk hI_
                        refine value_ (w1 := w') (v := .int .i64 (l0_3.length : Int)) (by rfl) rfl ?_ ?_
                        · go_simp
                          (try simp only [i64_w])
                          try first | rfl | (simp [bne]; done)
                        refine hK.out _ _ ⟨v306, v309, (by rw [ha.out]; exact putSel_upk 3 hb_ rfl rfl rfl), hI_.out⟩
                      refine steps_cons ?_ ?_
                      · rintro b a w' ⟨v306, v309, ha, hI_⟩ hb_ hon hoff
                        refine ⟨_, rfl, fun K hK => ?_⟩
                        have e62 : a.tmps[62]? = some (.int .i64 (l0_3.length : Int)) := by rw [ha]; exact putSel_on (e := (4, 62, .int .i64 (l0_3.length : Int))) 3 rfl rfl (hon 4 (by kernel_rfl)) rfl
                        replace ha := Aside0.mk ha; replace hI_ := Aside0.mk hI_
                        refine value_ (w1 := w') (v := .bool ((l0_3.length : Int) == 8)) (by rfl) rfl ?_ ?_
                        · go_simp
                          (try simp only [i64_w])
                          try first | rfl | (simp [bne]; done)
                        refine hK.out _ _ ⟨v306, v309, (by rw [ha.out]; exact putSel_upk 4 hb_ rfl rfl rfl), hI_.out⟩
                      refine steps_cons ?_ ?_
                      · rintro b a w' ⟨v306, v309, ha, hI_⟩ hb_ hon hoff
                        refine ⟨_, rfl, fun K hK => ?_⟩
                        have e59 : a.tmps[59]? = some (.bool t303) := by rw [ha]; exact putSel_on (e := (1, 59, .bool t303)) 1 rfl rfl (hon 1 (by kernel_rfl)) rfl
                        have e63 : a.tmps[63]? = some (.bool ((l0_3.length : Int) == 8)) := by rw [ha]; exact putSel_on (e := (5, 63, .bool ((l0_3.length : Int) == 8))) 4 rfl rfl (hon 5 (by kernel_rfl)) rfl
                        replace ha := Aside0.mk ha; replace hI_ := Aside0.mk hI_
                        refine value_ (w1 := w') (v := .bool (t303 == ((l0_3.length : Int) == 8))) (by rfl) rfl ?_ ?_
                        · go_simp
                          (try simp only [i64_w])
                          try first | rfl | (simp [bne]; done)
                        refine hK.out _ _ ⟨v306, v309, (by rw [ha.out]; exact putSel_upk 5 hb_ rfl rfl rfl), hI_.out⟩
                      refine steps_cons ?_ ?_
                      · rintro b a w' ⟨v306, v309, ha, hI_⟩ hb_ hon hoff
                        refine ⟨_, rfl, fun K hK => ?_⟩
                        have e64 : a.tmps[64]? = some (.bool (t303 == ((l0_3.length : Int) == 8))) := by rw [ha]; exact putSel_on (e := (6, 64, .bool (t303 == ((l0_3.length : Int) == 8)))) 5 rfl rfl (hon 6 (by kernel_rfl)) rfl
                        replace ha := Aside0.mk ha; replace hI_ := Aside0.mk hI_
                        refine value_ (w1 := w') (v := .bool (t303 == ((l0_3.length : Int) == 8))) (by rfl) rfl ?_ ?_
                        · go_simp
                          (try simp only [i64_w])
                          try first | rfl | (simp [bne]; done)
                        refine hK.out _ _ ⟨v306, v309, (by rw [ha.out]; exact putSel_upk 6 hb_ rfl rfl rfl), hI_.out⟩
                      refine steps_cons ?_ ?_
                      · rintro b a w' ⟨v306, v309, ha, Q_HO292, Q_HO300, Q_BK278, Q_BK294, Q_BK302, Q_HB, Q_HO307, Q_HO310⟩ hb_ hon hoff
                        refine ⟨_, rfl, fun K hK => ?_⟩
                        have e7 : a.tmps[7]? = some (.pointer (some ⟨gb294, 0, none⟩)) := by rw [ha]; exact (putSel_off rfl).trans rfl
                        have e65 : a.tmps[65]? = some (.bool (t303 == ((l0_3.length : Int) == 8))) := by rw [ha]; exact putSel_on (e := (7, 65, .bool (t303 == ((l0_3.length : Int) == 8)))) 6 rfl rfl (hon 7 (by kernel_rfl)) rfl
                        replace ha := Aside0.mk ha
                        have HO292 := Aside0.mk Q_HO292
                        have HO300 := Aside0.mk Q_HO300
                        have BK278 := Aside0.mk Q_BK278
                        have BK294 := Aside0.mk Q_BK294
                        have BK302 := Aside0.mk Q_BK302
                        have HB := Aside0.mk Q_HB
                        have hc0_ : w'.cell? ⟨gb294, 0, none⟩ = some (.int .u64 t287) := (blk_cell BK294.out 0).trans rfl
                        have hc1_ : w'.cell? ⟨gb294, 1, none⟩ = some (.int .u64 t288) := (blk_cell BK294.out 1).trans rfl
                        have hc2_ : w'.cell? ⟨gb294, 2, none⟩ = some (.int .u64 t289) := (blk_cell BK294.out 2).trans rfl
                        have hc3_ : w'.cell? ⟨gb294, 3, none⟩ = some (.slice Ao42 t290.length co42) := (blk_cell BK294.out 3).trans rfl
                        refine value_ (w1 := w') (v := .agg #[.int .u64 t287, .int .u64 t288, .int .u64 t289, .slice Ao42 t290.length co42]) (wanted_on rfl rfl rfl (e65.trans (by first | rfl | (simp [*]; done)))) rfl ?_ ?_
                        · go_simp
                          (try simp only [i64_w])
                          try first | rfl | (simp [bne]; done)
                        refine hK.out _ _ ⟨v306, v309, (by rw [ha.out]; exact putSel_upk 7 hb_ rfl rfl rfl), Q_HO292, Q_HO300, Q_BK278, Q_BK294, Q_BK302, Q_HB, fun h0_ => absurd ((hoff 24 (by kernel_rfl)).symm.trans h0_) (by decide), fun h0_ => absurd ((hoff 32 (by kernel_rfl)).symm.trans h0_) (by decide)⟩
                      refine steps_cons ?_ ?_
                      · rintro b a w' ⟨v306, v309, ha, Q_HO292, Q_HO300, Q_BK278, Q_BK294, Q_BK302, Q_HB, Q_HO307, Q_HO310⟩ hb_ hon hoff
                        refine ⟨_, rfl, fun K hK => ?_⟩
                        have e9 : a.tmps[9]? = some (.pointer (some ⟨gb302, 0, none⟩)) := by rw [ha]; exact (putSel_off rfl).trans rfl
                        have e65 : a.tmps[65]? = some (.bool (t303 == ((l0_3.length : Int) == 8))) := by rw [ha]; exact putSel_on (e := (7, 65, .bool (t303 == ((l0_3.length : Int) == 8)))) 6 rfl rfl (hon 7 (by kernel_rfl)) rfl
                        replace ha := Aside0.mk ha
                        have HO292 := Aside0.mk Q_HO292
                        have HO300 := Aside0.mk Q_HO300
                        have BK278 := Aside0.mk Q_BK278
                        have BK294 := Aside0.mk Q_BK294
                        have BK302 := Aside0.mk Q_BK302
                        have HB := Aside0.mk Q_HB
                        have hc0_ : w'.cell? ⟨gb302, 0, none⟩ = some (.int .u64 t295) := (blk_cell BK302.out 0).trans rfl
                        have hc1_ : w'.cell? ⟨gb302, 1, none⟩ = some (.int .u64 t296) := (blk_cell BK302.out 1).trans rfl
                        have hc2_ : w'.cell? ⟨gb302, 2, none⟩ = some (.int .u64 t297) := (blk_cell BK302.out 2).trans rfl
                        have hc3_ : w'.cell? ⟨gb302, 3, none⟩ = some (.slice Ao48 t298.length co48) := (blk_cell BK302.out 3).trans rfl
                        refine value_ (w1 := w') (v := .agg #[.int .u64 t295, .int .u64 t296, .int .u64 t297, .slice Ao48 t298.length co48]) (wanted_on rfl rfl rfl (e65.trans (by first | rfl | (simp [*]; done)))) rfl ?_ ?_
                        · go_simp
                          (try simp only [i64_w])
                          try first | rfl | (simp [bne]; done)
                        refine hK.out _ _ ⟨v306, v309, (by rw [ha.out]; exact putSel_upk 8 hb_ rfl rfl rfl), Q_HO292, Q_HO300, Q_BK278, Q_BK294, Q_BK302, Q_HB, fun h0_ => absurd ((hoff 24 (by kernel_rfl)).symm.trans h0_) (by decide), fun h0_ => absurd ((hoff 32 (by kernel_rfl)).symm.trans h0_) (by decide)⟩
                      refine steps_cons ?_ ?_
                      · rintro b a w' ⟨v306, v309, ha, Q_HO292, Q_HO300, Q_BK278, Q_BK294, Q_BK302, Q_HB, Q_HO307, Q_HO310⟩ hb_ hon hoff
                        refine ⟨_, rfl, fun K hK => ?_⟩
                        have e66 : a.tmps[66]? = some (.agg #[.int .u64 t287, .int .u64 t288, .int .u64 t289, .slice Ao42 t290.length co42]) := by rw [ha]; exact putSel_on (e := (8, 66, .agg #[.int .u64 t287, .int .u64 t288, .int .u64 t289, .slice Ao42 t290.length co42])) 7 rfl rfl (hon 8 (by kernel_rfl)) rfl
                        have e67 : a.tmps[67]? = some (.agg #[.int .u64 t295, .int .u64 t296, .int .u64 t297, .slice Ao48 t298.length co48]) := by rw [ha]; exact putSel_on (e := (9, 67, .agg #[.int .u64 t295, .int .u64 t296, .int .u64 t297, .slice Ao48 t298.length co48])) 8 rfl rfl (hon 9 (by kernel_rfl)) rfl
                        have e65 : a.tmps[65]? = some (.bool (t303 == ((l0_3.length : Int) == 8))) := by rw [ha]; exact putSel_on (e := (7, 65, .bool (t303 == ((l0_3.length : Int) == 8)))) 6 rfl rfl (hon 7 (by kernel_rfl)) rfl
                        replace ha := Aside0.mk ha
                        have HO292 := Aside0.mk Q_HO292
                        have HO300 := Aside0.mk Q_HO300
                        have BK278 := Aside0.mk Q_BK278
                        have BK294 := Aside0.mk Q_BK294
                        have BK302 := Aside0.mk Q_BK302
                        have HB := Aside0.mk Q_HB
                        refine goes_ Try.func75 (by kernel_rfl) rfl #[.agg #[.int .u64 t287, .int .u64 t288, .int .u64 t289, .slice Ao42 t290.length co42], .agg #[.int .u64 t295, .int .u64 t296, .int .u64 t297, .slice Ao48 t298.length co48]] (by first | rfl | (simp [Region.wanted, yielded, *]; done)) rfl rfl (by (try simp only [List.map_toArray, List.map_cons, List.map_nil]); first | done | rfl | (simp only [Act.eval, Array.getD_eq_getD_getElem?, Option.getD_some, e66, e67]; done) | (simp only [List.length_drop, List.length_take]; rfl)) ?_
                        with_reducible refine (wristbandref12_Same.calls t287 t288 t289 _ _ t290 t295 t296 t297 _ _ t298 true _ ?side1 ?side2 ?side3 ?side4 A33.out).mono ?_
                        (case side1 => repeat (first | exact (Kd.R_reads' HO292.out).2.2 | (with_reducible refine Kd.C_alloc ?_ _) | (with_reducible refine Kd.C_drewN ?_ _) | (with_reducible refine Kd.C_drew ?_)))
                        (case side2 => exact (Kd.R_reads' HO292.out).2.1)
                        (case side3 => repeat (first | exact (Kd.R_reads' HO300.out).2.2 | (with_reducible refine Kd.C_alloc ?_ _) | (with_reducible refine Kd.C_drewN ?_ _) | (with_reducible refine Kd.C_drew ?_)))
                        (case side4 => exact (Kd.R_reads' HO300.out).2.1)
                        rintro e w53 ⟨rfl, hb⟩
                        refine ⟨_, rfl, ?_⟩
                        have n0_ := Aside0.mk (Kd.R_below (by (with_reducible repeat (first | apply Kd.R_alloc | apply Kd.R_drewN | apply Kd.R_drew)); exact HO292.out) hb)
                        have n1_ := Aside0.mk (Kd.R_below (by (with_reducible repeat (first | apply Kd.R_alloc | apply Kd.R_drewN | apply Kd.R_drew)); exact HO300.out) hb)
                        have n2_ := Aside0.mk (blk_below (g := gb278) (o := .cells #[.int .u64 a0_0, .int .u64 a0_1, .int .u64 a0_2, .slice A0_3 l0_3.length c0_3] 91 (0, 0)) (by (with_reducible repeat (first | refine blk_drewN ?_ _ | refine blk_drew ?_ | refine blk_alloc ?_ _)); exact BK278.out) hb)
                        have n3_ := Aside0.mk (blk_below (g := gb294) (o := .cells #[.int .u64 t287, .int .u64 t288, .int .u64 t289, .slice Ao42 t290.length co42] 91 (0, 0)) (by (with_reducible repeat (first | refine blk_drewN ?_ _ | refine blk_drew ?_ | refine blk_alloc ?_ _)); exact BK294.out) hb)
                        have n4_ := Aside0.mk (blk_below (g := gb302) (o := .cells #[.int .u64 t295, .int .u64 t296, .int .u64 t297, .slice Ao48 t298.length co48] 91 (0, 0)) (by (with_reducible repeat (first | refine blk_drewN ?_ _ | refine blk_drew ?_ | refine blk_alloc ?_ _)); exact BK302.out) hb)
                        have n5_ := Aside0.mk (below_step (by repeat (first | (with_reducible first | exact HB.out | apply below_alloc | apply pw_below_drewN | apply below_drew1 | refine below_set ?_ GE278.out | refine below_set ?_ GE294.out | refine below_set ?_ GE302.out) | exact HB.out)) hb)
                        clear HO292
                        clear HO300
                        clear BK278
                        clear BK294
                        clear BK302
                        clear HB
                        have HO292 := n0_
                        have HO300 := n1_
                        have BK278 := n2_
                        have BK294 := n3_
                        have BK302 := n4_
                        have HB := n5_
                        clear n0_ n1_ n2_ n3_ n4_ n5_
                        (try clear hb)
                        (try clear hb2)
                        (try clear hk)
                        (try clear hi)
                        refine hK.out _ _ ⟨v306, v309, (by rw [ha.out]; exact putSel_upk 9 hb_ rfl rfl rfl), (by (with_reducible repeat (first | apply Kd.R_alloc | apply Kd.R_drewN | apply Kd.R_drew)); exact HO292.out), (by (with_reducible repeat (first | apply Kd.R_alloc | apply Kd.R_drewN | apply Kd.R_drew)); exact HO300.out), (by (with_reducible repeat (first | refine blk_drewN ?_ _ | refine blk_drew ?_ | refine blk_alloc ?_ _)); exact BK278.out), (by (with_reducible repeat (first | refine blk_drewN ?_ _ | refine blk_drew ?_ | refine blk_alloc ?_ _)); exact BK294.out), (by (with_reducible repeat (first | refine blk_drewN ?_ _ | refine blk_drew ?_ | refine blk_alloc ?_ _)); exact BK302.out), (by repeat (first | (with_reducible first | exact HB.out | apply below_alloc | apply pw_below_drewN | apply below_drew1 | refine below_set ?_ GE278.out | refine below_set ?_ GE294.out | refine below_set ?_ GE302.out) | exact HB.out)), fun h0_ => absurd ((hoff 24 (by kernel_rfl)).symm.trans h0_) (by decide), fun h0_ => absurd ((hoff 32 (by kernel_rfl)).symm.trans h0_) (by decide)⟩
                      refine steps_cons ?_ ?_
                      · rintro b a w' ⟨v306, v309, ha, hI_⟩ hb_ hon hoff
                        refine ⟨_, rfl, fun K hK => ?_⟩
                        have e65 : a.tmps[65]? = some (.bool (t303 == ((l0_3.length : Int) == 8))) := by rw [ha]; exact putSel_on (e := (7, 65, .bool (t303 == ((l0_3.length : Int) == 8)))) 6 rfl rfl (hon 7 (by kernel_rfl)) rfl
                        have e68 : a.tmps[68]? = some (.bool true) := by rw [ha]; exact putSel_on (e := (10, 68, .bool true)) 9 rfl rfl (hon 10 (by kernel_rfl)) rfl
                        replace ha := Aside0.mk ha; replace hI_ := Aside0.mk hI_
                        refine value_ (w1 := w') (v := .bool true) (by rfl) rfl ?_ ?_
                        · go_simp
                          (try simp only [i64_w])
                          try first | rfl | (simp [bne]; done)
                        refine hK.out _ _ ⟨v306, v309, (by rw [ha.out]; exact putSel_upk 10 hb_ rfl rfl rfl), hI_.out⟩
                      refine steps_cons ?_ ?_
                      · rintro b a w' ⟨v306, v309, ha, hI_⟩ hb_ hon hoff
                        refine ⟨_, rfl, fun K hK => ?_⟩
                        have e69 : a.tmps[69]? = some (.bool true) := by rw [ha]; exact putSel_on (e := (11, 69, .bool true)) 10 rfl rfl (hon 11 (by kernel_rfl)) rfl
                        replace ha := Aside0.mk ha; replace hI_ := Aside0.mk hI_
                        refine value_ (w1 := w') (v := .bool true) (by rfl) rfl ?_ ?_
                        · go_simp
                          (try simp only [i64_w])
                          try first | rfl | (simp [bne]; done)
                        refine hK.out _ _ ⟨v306, v309, (by rw [ha.out]; exact putSel_upk 11 hb_ rfl rfl rfl), hI_.out⟩
                      refine steps_cons ?_ ?_
                      · rintro b a w' ⟨v306, v309, ha, hI_⟩ hb_ hon hoff
                        refine ⟨_, rfl, fun K hK => ?_⟩
                        have e8 : a.tmps[8]? = some (.int .i64 t293) := by rw [ha]; exact (putSel_off rfl).trans rfl
                        have e70 : a.tmps[70]? = some (.bool true) := by rw [ha]; exact putSel_on (e := (12, 70, .bool true)) 11 rfl rfl (hon 12 (by kernel_rfl)) rfl
                        replace ha := Aside0.mk ha; replace hI_ := Aside0.mk hI_
                        refine value_ (w1 := w') (v := .int .i64 t293) (wanted_on rfl rfl rfl (e70.trans (by first | rfl | (simp [*]; done)))) rfl ?_ ?_
                        · go_simp
                          (try simp only [i64_w])
                          try first | rfl | (simp [bne]; done)
                        refine hK.out _ _ ⟨v306, v309, (by rw [ha.out]; exact putSel_upk 12 hb_ rfl rfl rfl), hI_.out⟩
                      refine steps_cons ?_ ?_
                      · rintro b a w' ⟨v306, v309, ha, hI_⟩ hb_ hon hoff
                        refine ⟨_, rfl, fun K hK => ?_⟩
                        have e10 : a.tmps[10]? = some (.int .i64 t301) := by rw [ha]; exact (putSel_off rfl).trans rfl
                        have e70 : a.tmps[70]? = some (.bool true) := by rw [ha]; exact putSel_on (e := (12, 70, .bool true)) 11 rfl rfl (hon 12 (by kernel_rfl)) rfl
                        replace ha := Aside0.mk ha; replace hI_ := Aside0.mk hI_
                        refine value_ (w1 := w') (v := .int .i64 t301) (wanted_on rfl rfl rfl (e70.trans (by first | rfl | (simp [*]; done)))) rfl ?_ ?_
                        · go_simp
                          (try simp only [i64_w])
                          try first | rfl | (simp [bne]; done)
                        refine hK.out _ _ ⟨v306, v309, (by rw [ha.out]; exact putSel_upk 13 hb_ rfl rfl rfl), hI_.out⟩
                      refine steps_cons ?_ ?_
                      · rintro b a w' ⟨v306, v309, ha, hI_⟩ hb_ hon hoff
                        refine ⟨_, rfl, fun K hK => ?_⟩
                        have e71 : a.tmps[71]? = some (.int .i64 t293) := by rw [ha]; exact putSel_on (e := (13, 71, .int .i64 t293)) 12 rfl rfl (hon 13 (by kernel_rfl)) rfl
                        have e72 : a.tmps[72]? = some (.int .i64 t301) := by rw [ha]; exact putSel_on (e := (14, 72, .int .i64 t301)) 13 rfl rfl (hon 14 (by kernel_rfl)) rfl
                        have e70 : a.tmps[70]? = some (.bool true) := by rw [ha]; exact putSel_on (e := (12, 70, .bool true)) 11 rfl rfl (hon 12 (by kernel_rfl)) rfl
                        replace ha := Aside0.mk ha; replace hI_ := Aside0.mk hI_
                        refine value_ (w1 := w') (v := .bool (t293 == t301)) (wanted_on rfl rfl rfl (e70.trans (by first | rfl | (simp [*]; done)))) rfl ?_ ?_
                        · go_simp
                          (try simp only [i64_w])
                          try first | rfl | (simp [bne]; done)
                        refine hK.out _ _ ⟨v306, v309, (by rw [ha.out]; exact putSel_upk 14 hb_ rfl rfl rfl), hI_.out⟩
                      refine steps_cons ?_ ?_
                      · rintro b a w' ⟨v306, v309, ha, hI_⟩ hb_ hon hoff
                        refine ⟨_, rfl, fun K hK => ?_⟩
                        have e70 : a.tmps[70]? = some (.bool true) := by rw [ha]; exact putSel_on (e := (12, 70, .bool true)) 11 rfl rfl (hon 12 (by kernel_rfl)) rfl
                        have e73 : a.tmps[73]? = some (.bool (t293 == t301)) := by rw [ha]; exact putSel_on (e := (15, 73, .bool (t293 == t301))) 14 rfl rfl (hon 15 (by kernel_rfl)) rfl
                        replace ha := Aside0.mk ha; replace hI_ := Aside0.mk hI_
                        refine value_ (w1 := w') (v := .bool (t293 == t301)) (by rfl) rfl ?_ ?_
                        · go_simp
                          (try simp only [i64_w])
                          try first | rfl | (simp [bne]; done)
                        refine hK.out _ _ ⟨v306, v309, (by rw [ha.out]; exact putSel_upk 15 hb_ rfl rfl rfl), hI_.out⟩
                      refine steps_cons ?_ ?_
                      · rintro b a w' ⟨v306, v309, ha, hI_⟩ hb_ hon hoff
                        refine ⟨_, rfl, fun K hK => ?_⟩
                        have e74 : a.tmps[74]? = some (.bool (t293 == t301)) := by rw [ha]; exact putSel_on (e := (16, 74, .bool (t293 == t301))) 15 rfl rfl (hon 16 (by kernel_rfl)) rfl
                        replace ha := Aside0.mk ha; replace hI_ := Aside0.mk hI_
                        refine value_ (w1 := w') (v := .bool (t293 == t301)) (by rfl) rfl ?_ ?_
                        · go_simp
                          (try simp only [i64_w])
                          try first | rfl | (simp [bne]; done)
                        refine hK.out _ _ ⟨v306, v309, (by rw [ha.out]; exact putSel_upk 16 hb_ rfl rfl rfl), hI_.out⟩
                      refine steps_cons ?_ ?_
                      · rintro b a w' ⟨v306, v309, ha, hI_⟩ hb_ hon hoff
                        refine ⟨_, rfl, fun K hK => ?_⟩
                        have e2 : a.tmps[2]? = some (.pointer (some ⟨gb278, 0, none⟩)) := by rw [ha]; exact (putSel_off rfl).trans rfl
                        have e75 : a.tmps[75]? = some (.bool (t293 == t301)) := by rw [ha]; exact putSel_on (e := (17, 75, .bool (t293 == t301))) 16 rfl rfl (hon 17 (by kernel_rfl)) rfl
                        replace ha := Aside0.mk ha; replace hI_ := Aside0.mk hI_
                        refine value_ (w1 := w') (v := .pointer (some ⟨gb278, 0, none⟩)) (wanted_on rfl rfl rfl (e75.trans (by first | rfl | (simp [*]; done)))) rfl ?_ ?_
                        · go_simp
                          (try simp only [i64_w])
                          try first | rfl | (simp [bne]; done)
                        refine hK.out _ _ ⟨v306, v309, (by rw [ha.out]; exact putSel_upk 17 hb_ rfl rfl rfl), hI_.out⟩
                      refine steps_cons ?_ ?_
                      · rintro b a w' ⟨v306, v309, ha, Q_HO292, Q_HO300, Q_BK278, Q_BK294, Q_BK302, Q_HB, Q_HO307, Q_HO310⟩ hb_ hon hoff
                        refine ⟨_, rfl, fun K hK => ?_⟩
                        have e76 : a.tmps[76]? = some (.pointer (some ⟨gb278, 0, none⟩)) := by rw [ha]; exact putSel_on (e := (18, 76, .pointer (some ⟨gb278, 0, none⟩))) 17 rfl rfl (hon 18 (by kernel_rfl)) rfl
                        have e75 : a.tmps[75]? = some (.bool (t293 == t301)) := by rw [ha]; exact putSel_on (e := (17, 75, .bool (t293 == t301))) 16 rfl rfl (hon 17 (by kernel_rfl)) rfl
                        replace ha := Aside0.mk ha
                        have HO292 := Aside0.mk Q_HO292
                        have HO300 := Aside0.mk Q_HO300
                        have BK278 := Aside0.mk Q_BK278
                        have BK294 := Aside0.mk Q_BK294
                        have BK302 := Aside0.mk Q_BK302
                        have HB := Aside0.mk Q_HB
                        have hc0_ : w'.cell? ⟨gb278, 0, none⟩ = some (.int .u64 a0_0) := (blk_cell BK278.out 0).trans rfl
                        have hc1_ : w'.cell? ⟨gb278, 1, none⟩ = some (.int .u64 a0_1) := (blk_cell BK278.out 1).trans rfl
                        have hc2_ : w'.cell? ⟨gb278, 2, none⟩ = some (.int .u64 a0_2) := (blk_cell BK278.out 2).trans rfl
                        have hc3_ : w'.cell? ⟨gb278, 3, none⟩ = some (.slice A0_3 l0_3.length c0_3) := (blk_cell BK278.out 3).trans rfl
                        refine value_ (w1 := w') (v := .int .u64 a0_0) (wanted_on rfl rfl rfl (e75.trans (by first | rfl | (simp [*]; done)))) rfl ?_ ?_
                        · go_simp
                          (try simp only [i64_w])
                          try first | rfl | (simp [bne]; done)
                        refine hK.out _ _ ⟨v306, v309, (by rw [ha.out]; exact putSel_upk 18 hb_ rfl rfl rfl), Q_HO292, Q_HO300, Q_BK278, Q_BK294, Q_BK302, Q_HB, fun h0_ => absurd ((hoff 24 (by kernel_rfl)).symm.trans h0_) (by decide), fun h0_ => absurd ((hoff 32 (by kernel_rfl)).symm.trans h0_) (by decide)⟩
                      refine steps_cons ?_ ?_
                      · rintro b a w' ⟨v306, v309, ha, hI_⟩ hb_ hon hoff
                        refine ⟨_, rfl, fun K hK => ?_⟩
                        have e2 : a.tmps[2]? = some (.pointer (some ⟨gb278, 0, none⟩)) := by rw [ha]; exact (putSel_off rfl).trans rfl
                        have e75 : a.tmps[75]? = some (.bool (t293 == t301)) := by rw [ha]; exact putSel_on (e := (17, 75, .bool (t293 == t301))) 16 rfl rfl (hon 17 (by kernel_rfl)) rfl
                        replace ha := Aside0.mk ha; replace hI_ := Aside0.mk hI_
                        refine value_ (w1 := w') (v := .pointer (some ⟨gb278, 1, none⟩)) (wanted_on rfl rfl rfl (e75.trans (by first | rfl | (simp [*]; done)))) rfl ?_ ?_
                        · go_simp
                          (try simp only [i64_w])
                          try first | rfl | (simp [bne]; done)
                        refine hK.out _ _ ⟨v306, v309, (by rw [ha.out]; exact putSel_upk 19 hb_ rfl rfl rfl), hI_.out⟩
                      refine steps_cons ?_ ?_
                      · rintro b a w' ⟨v306, v309, ha, Q_HO292, Q_HO300, Q_BK278, Q_BK294, Q_BK302, Q_HB, Q_HO307, Q_HO310⟩ hb_ hon hoff
                        refine ⟨_, rfl, fun K hK => ?_⟩
                        have e78 : a.tmps[78]? = some (.pointer (some ⟨gb278, 1, none⟩)) := by rw [ha]; exact putSel_on (e := (20, 78, .pointer (some ⟨gb278, 1, none⟩))) 19 rfl rfl (hon 20 (by kernel_rfl)) rfl
                        have e75 : a.tmps[75]? = some (.bool (t293 == t301)) := by rw [ha]; exact putSel_on (e := (17, 75, .bool (t293 == t301))) 16 rfl rfl (hon 17 (by kernel_rfl)) rfl
                        replace ha := Aside0.mk ha
                        have HO292 := Aside0.mk Q_HO292
                        have HO300 := Aside0.mk Q_HO300
                        have BK278 := Aside0.mk Q_BK278
                        have BK294 := Aside0.mk Q_BK294
                        have BK302 := Aside0.mk Q_BK302
                        have HB := Aside0.mk Q_HB
                        have hc0_ : w'.cell? ⟨gb278, 0, none⟩ = some (.int .u64 a0_0) := (blk_cell BK278.out 0).trans rfl
                        have hc1_ : w'.cell? ⟨gb278, 1, none⟩ = some (.int .u64 a0_1) := (blk_cell BK278.out 1).trans rfl
                        have hc2_ : w'.cell? ⟨gb278, 2, none⟩ = some (.int .u64 a0_2) := (blk_cell BK278.out 2).trans rfl
                        have hc3_ : w'.cell? ⟨gb278, 3, none⟩ = some (.slice A0_3 l0_3.length c0_3) := (blk_cell BK278.out 3).trans rfl
                        refine value_ (w1 := w') (v := .int .u64 a0_1) (wanted_on rfl rfl rfl (e75.trans (by first | rfl | (simp [*]; done)))) rfl ?_ ?_
                        · go_simp
                          (try simp only [i64_w])
                          try first | rfl | (simp [bne]; done)
                        refine hK.out _ _ ⟨v306, v309, (by rw [ha.out]; exact putSel_upk 20 hb_ rfl rfl rfl), Q_HO292, Q_HO300, Q_BK278, Q_BK294, Q_BK302, Q_HB, fun h0_ => absurd ((hoff 24 (by kernel_rfl)).symm.trans h0_) (by decide), fun h0_ => absurd ((hoff 32 (by kernel_rfl)).symm.trans h0_) (by decide)⟩
                      refine steps_cons ?_ ?_
                      · rintro b a w' ⟨v306, v309, ha, hI_⟩ hb_ hon hoff
                        refine ⟨_, rfl, fun K hK => ?_⟩
                        have e2 : a.tmps[2]? = some (.pointer (some ⟨gb278, 0, none⟩)) := by rw [ha]; exact (putSel_off rfl).trans rfl
                        have e75 : a.tmps[75]? = some (.bool (t293 == t301)) := by rw [ha]; exact putSel_on (e := (17, 75, .bool (t293 == t301))) 16 rfl rfl (hon 17 (by kernel_rfl)) rfl
                        replace ha := Aside0.mk ha; replace hI_ := Aside0.mk hI_
                        refine value_ (w1 := w') (v := .pointer (some ⟨gb278, 2, none⟩)) (wanted_on rfl rfl rfl (e75.trans (by first | rfl | (simp [*]; done)))) rfl ?_ ?_
                        · go_simp
                          (try simp only [i64_w])
                          try first | rfl | (simp [bne]; done)
                        refine hK.out _ _ ⟨v306, v309, (by rw [ha.out]; exact putSel_upk 21 hb_ rfl rfl rfl), hI_.out⟩
                      refine steps_cons ?_ ?_
                      · rintro b a w' ⟨v306, v309, ha, Q_HO292, Q_HO300, Q_BK278, Q_BK294, Q_BK302, Q_HB, Q_HO307, Q_HO310⟩ hb_ hon hoff
                        refine ⟨_, rfl, fun K hK => ?_⟩
                        have e80 : a.tmps[80]? = some (.pointer (some ⟨gb278, 2, none⟩)) := by rw [ha]; exact putSel_on (e := (22, 80, .pointer (some ⟨gb278, 2, none⟩))) 21 rfl rfl (hon 22 (by kernel_rfl)) rfl
                        have e75 : a.tmps[75]? = some (.bool (t293 == t301)) := by rw [ha]; exact putSel_on (e := (17, 75, .bool (t293 == t301))) 16 rfl rfl (hon 17 (by kernel_rfl)) rfl
                        replace ha := Aside0.mk ha
                        have HO292 := Aside0.mk Q_HO292
                        have HO300 := Aside0.mk Q_HO300
                        have BK278 := Aside0.mk Q_BK278
                        have BK294 := Aside0.mk Q_BK294
                        have BK302 := Aside0.mk Q_BK302
                        have HB := Aside0.mk Q_HB
                        have hc0_ : w'.cell? ⟨gb278, 0, none⟩ = some (.int .u64 a0_0) := (blk_cell BK278.out 0).trans rfl
                        have hc1_ : w'.cell? ⟨gb278, 1, none⟩ = some (.int .u64 a0_1) := (blk_cell BK278.out 1).trans rfl
                        have hc2_ : w'.cell? ⟨gb278, 2, none⟩ = some (.int .u64 a0_2) := (blk_cell BK278.out 2).trans rfl
                        have hc3_ : w'.cell? ⟨gb278, 3, none⟩ = some (.slice A0_3 l0_3.length c0_3) := (blk_cell BK278.out 3).trans rfl
                        refine value_ (w1 := w') (v := .int .u64 a0_2) (wanted_on rfl rfl rfl (e75.trans (by first | rfl | (simp [*]; done)))) rfl ?_ ?_
                        · go_simp
                          (try simp only [i64_w])
                          try first | rfl | (simp [bne]; done)
                        refine hK.out _ _ ⟨v306, v309, (by rw [ha.out]; exact putSel_upk 22 hb_ rfl rfl rfl), Q_HO292, Q_HO300, Q_BK278, Q_BK294, Q_BK302, Q_HB, fun h0_ => absurd ((hoff 24 (by kernel_rfl)).symm.trans h0_) (by decide), fun h0_ => absurd ((hoff 32 (by kernel_rfl)).symm.trans h0_) (by decide)⟩
                      refine steps_cons ?_ ?_
                      · rintro b a w' ⟨v306, v309, ha, Q_HO292, Q_HO300, Q_BK278, Q_BK294, Q_BK302, Q_HB, Q_HO307, Q_HO310⟩ hb_ hon hoff
                        refine ⟨_, rfl, fun K hK => ?_⟩
                        have e77 : a.tmps[77]? = some (.int .u64 a0_0) := by rw [ha]; exact putSel_on (e := (19, 77, .int .u64 a0_0)) 18 rfl rfl (hon 19 (by kernel_rfl)) rfl
                        have e79 : a.tmps[79]? = some (.int .u64 a0_1) := by rw [ha]; exact putSel_on (e := (21, 79, .int .u64 a0_1)) 20 rfl rfl (hon 21 (by kernel_rfl)) rfl
                        have e81 : a.tmps[81]? = some (.int .u64 a0_2) := by rw [ha]; exact putSel_on (e := (23, 81, .int .u64 a0_2)) 22 rfl rfl (hon 23 (by kernel_rfl)) rfl
                        have e75 : a.tmps[75]? = some (.bool (t293 == t301)) := by rw [ha]; exact putSel_on (e := (17, 75, .bool (t293 == t301))) 16 rfl rfl (hon 17 (by kernel_rfl)) rfl
                        replace ha := Aside0.mk ha
                        have HO292 := Aside0.mk Q_HO292
                        have HO300 := Aside0.mk Q_HO300
                        have BK278 := Aside0.mk Q_BK278
                        have BK294 := Aside0.mk Q_BK294
                        have BK302 := Aside0.mk Q_BK302
                        have HB := Aside0.mk Q_HB
                        refine goes_ Try.func76 (by kernel_rfl) rfl #[.int .u64 a0_0, .int .u64 a0_1, .int .u64 a0_2] (by first | rfl | (simp [Region.wanted, yielded, *]; done)) rfl rfl (by (try simp only [List.map_toArray, List.map_cons, List.map_nil]); first | done | rfl | (simp only [Act.eval, Array.getD_eq_getD_getElem?, Option.getD_some, e77, e79, e81]; done) | (simp only [List.length_drop, List.length_take]; rfl)) ?_
                        with_reducible refine (frame_Msg.calls kj12 a0_0 a0_1 a0_2 t305 _ A36.out).mono ?_
                        rintro e w54 ⟨v306, rfl, ho0, hb⟩
                        refine ⟨_, rfl, ?_⟩
                        have n0_ := Aside0.mk (Kd.R_elder' (by (with_reducible repeat (first | apply Kd.R_alloc | apply Kd.R_drewN | apply Kd.R_drew)); exact HO292.out) (Kd.R_base ho0) hb)
                        have n1_ := Aside0.mk (Kd.R_elder' (by (with_reducible repeat (first | apply Kd.R_alloc | apply Kd.R_drewN | apply Kd.R_drew)); exact HO300.out) (Kd.R_base ho0) hb)
                        have n2_ := Aside0.mk (Kd.R_lower (Kd.R_new' (Kd.R_new' ho0 (Kd.R_lt (by (with_reducible repeat (first | apply Kd.R_alloc | apply Kd.R_drewN | apply Kd.R_drew)); exact HO292.out))) (Kd.R_lt (by (with_reducible repeat (first | apply Kd.R_alloc | apply Kd.R_drewN | apply Kd.R_drew)); exact HO300.out))) (below_size (by repeat (first | (with_reducible first | exact HB.out | apply below_alloc | apply pw_below_drewN | apply below_drew1 | refine below_set ?_ GE278.out | refine below_set ?_ GE294.out | refine below_set ?_ GE302.out) | exact HB.out))))
                        have n3_ := Aside0.mk (blk_below (g := gb278) (o := .cells #[.int .u64 a0_0, .int .u64 a0_1, .int .u64 a0_2, .slice A0_3 l0_3.length c0_3] 91 (0, 0)) (by (with_reducible repeat (first | refine blk_drewN ?_ _ | refine blk_drew ?_ | refine blk_alloc ?_ _)); exact BK278.out) hb)
                        have n4_ := Aside0.mk (blk_below (g := gb294) (o := .cells #[.int .u64 t287, .int .u64 t288, .int .u64 t289, .slice Ao42 t290.length co42] 91 (0, 0)) (by (with_reducible repeat (first | refine blk_drewN ?_ _ | refine blk_drew ?_ | refine blk_alloc ?_ _)); exact BK294.out) hb)
                        have n5_ := Aside0.mk (blk_below (g := gb302) (o := .cells #[.int .u64 t295, .int .u64 t296, .int .u64 t297, .slice Ao48 t298.length co48] 91 (0, 0)) (by (with_reducible repeat (first | refine blk_drewN ?_ _ | refine blk_drew ?_ | refine blk_alloc ?_ _)); exact BK302.out) hb)
                        have n6_ := Aside0.mk (below_step (by repeat (first | (with_reducible first | exact HB.out | apply below_alloc | apply pw_below_drewN | apply below_drew1 | refine below_set ?_ GE278.out | refine below_set ?_ GE294.out | refine below_set ?_ GE302.out) | exact HB.out)) hb)
                        clear HO292
                        clear HO300
                        clear BK278
                        clear BK294
                        clear BK302
                        clear HB
                        have HO292 := n0_
                        have HO300 := n1_
                        have HO307 := n2_
                        have BK278 := n3_
                        have BK294 := n4_
                        have BK302 := n5_
                        have HB := n6_
                        clear n0_ n1_ n2_ n3_ n4_ n5_ n6_
                        (try clear hb)
                        (try clear hb2)
                        (try clear hk)
                        (try clear hi)
                        (try clear ho0)
                        refine hK.out _ _ ⟨v306, v309, (by rw [ha.out]; exact putSel_upk 23 hb_ rfl rfl rfl), (by (with_reducible repeat (first | apply Kd.R_alloc | apply Kd.R_drewN | apply Kd.R_drew)); first | exact HO292.out | exact Kd.R_mono (HO292.out) (fun _ hk => by first | trivial | exact hk | exact hk.1 | ((repeat' apply And.intro) <;> first | exact hk.2 | exact hk.1.2 | exact hk.1.1.2))), (by (with_reducible repeat (first | apply Kd.R_alloc | apply Kd.R_drewN | apply Kd.R_drew)); first | exact HO300.out | exact Kd.R_mono (HO300.out) (fun _ hk => by first | trivial | exact hk | exact hk.1 | ((repeat' apply And.intro) <;> first | exact hk.2 | exact hk.1.2 | exact hk.1.1.2))), (by (with_reducible repeat (first | refine blk_drewN ?_ _ | refine blk_drew ?_ | refine blk_alloc ?_ _)); exact BK278.out), (by (with_reducible repeat (first | refine blk_drewN ?_ _ | refine blk_drew ?_ | refine blk_alloc ?_ _)); exact BK294.out), (by (with_reducible repeat (first | refine blk_drewN ?_ _ | refine blk_drew ?_ | refine blk_alloc ?_ _)); exact BK302.out), (by repeat (first | (with_reducible first | exact HB.out | apply below_alloc | apply pw_below_drewN | apply below_drew1 | refine below_set ?_ GE278.out | refine below_set ?_ GE294.out | refine below_set ?_ GE302.out) | exact HB.out)), fun _ => (by (with_reducible repeat (first | apply Kd.R_alloc | apply Kd.R_drewN | apply Kd.R_drew)); exact Kd.R_mono HO307.out (fun _ hk => ⟨hk.1.2, hk.2⟩)), fun h0_ => absurd ((hoff 32 (by kernel_rfl)).symm.trans h0_) (by decide)⟩
                      refine steps_cons ?_ ?_
                      · rintro b a w' ⟨v306, v309, ha, Q_HO292, Q_HO300, Q_BK278, Q_BK294, Q_BK302, Q_HB, Q_HO307, Q_HO310⟩ hb_ hon hoff
                        refine ⟨_, rfl, fun K hK => ?_⟩
                        have e82 : a.tmps[82]? = some (v306) := by rw [ha]; exact putSel_on (e := (24, 82, v306)) 23 rfl rfl (hon 24 (by kernel_rfl)) rfl
                        have e75 : a.tmps[75]? = some (.bool (t293 == t301)) := by rw [ha]; exact putSel_on (e := (17, 75, .bool (t293 == t301))) 16 rfl rfl (hon 17 (by kernel_rfl)) rfl
                        replace ha := Aside0.mk ha
                        have HO292 := Aside0.mk Q_HO292
                        have HO300 := Aside0.mk Q_HO300
                        have BK278 := Aside0.mk Q_BK278
                        have BK294 := Aside0.mk Q_BK294
                        have BK302 := Aside0.mk Q_BK302
                        have HB := Aside0.mk Q_HB
                        have HO307 := Aside0.mk (Q_HO307 (hon 24 (by kernel_rfl)))
                        refine str_step (src := 22) (dst := 9) (x := .tmp 82) ?hw ?ho ?hx (v := v306) (s := strOfNums t305) (by obtain ⟨A_, c_, rfl⟩ := Kd.R_slice HO307.out; exact Kd.C_string (P := Try.prog) (A := A_) (c := c_) Try.underlying22 Try.underlying5 Try.underlying9 (Kd.R_reads' (by (with_reducible repeat (first | apply Kd.R_alloc | apply Kd.R_drewN | apply Kd.R_drew)); exact HO307.out)).2.2) ?_
                        case ho => rfl
                        case hw => first | rfl | (simp [Region.wanted, yielded, *]; done)
                        case hx => first | rfl | (simp only [Act.eval, Array.getD_eq_getD_getElem?, Option.getD_some, e82]; done)
                        intro w55 hb
                        have n0_ := Aside0.mk (Kd.R_below (by (with_reducible repeat (first | apply Kd.R_alloc | apply Kd.R_drewN | apply Kd.R_drew)); exact HO292.out) hb)
                        have n1_ := Aside0.mk (Kd.R_below (by (with_reducible repeat (first | apply Kd.R_alloc | apply Kd.R_drewN | apply Kd.R_drew)); exact HO300.out) hb)
                        have n2_ := Aside0.mk (Kd.R_below (by (with_reducible repeat (first | apply Kd.R_alloc | apply Kd.R_drewN | apply Kd.R_drew)); exact HO307.out) hb)
                        have n3_ := Aside0.mk (blk_below (g := gb278) (o := .cells #[.int .u64 a0_0, .int .u64 a0_1, .int .u64 a0_2, .slice A0_3 l0_3.length c0_3] 91 (0, 0)) (by (with_reducible repeat (first | refine blk_drewN ?_ _ | refine blk_drew ?_ | refine blk_alloc ?_ _)); exact BK278.out) hb)
                        have n4_ := Aside0.mk (blk_below (g := gb294) (o := .cells #[.int .u64 t287, .int .u64 t288, .int .u64 t289, .slice Ao42 t290.length co42] 91 (0, 0)) (by (with_reducible repeat (first | refine blk_drewN ?_ _ | refine blk_drew ?_ | refine blk_alloc ?_ _)); exact BK294.out) hb)
                        have n5_ := Aside0.mk (blk_below (g := gb302) (o := .cells #[.int .u64 t295, .int .u64 t296, .int .u64 t297, .slice Ao48 t298.length co48] 91 (0, 0)) (by (with_reducible repeat (first | refine blk_drewN ?_ _ | refine blk_drew ?_ | refine blk_alloc ?_ _)); exact BK302.out) hb)
                        have n6_ := Aside0.mk (below_step (by repeat (first | (with_reducible first | exact HB.out | apply below_alloc | apply pw_below_drewN | apply below_drew1 | refine below_set ?_ GE278.out | refine below_set ?_ GE294.out | refine below_set ?_ GE302.out) | exact HB.out)) hb)
                        have z_HO310 := fun (h0_ : b 32 = true) => (show Kd.R (Kd.int .u8) 5 w55 w.heap.size (fun k_ => some k_ ≠ (.slice Ao42 t290.length co42 : Value).ownBlock ∧ some k_ ≠ (.slice Ao48 t298.length co48 : Value).ownBlock) v309 t308 from by first | exact (Kd.R_below (by (with_reducible repeat (first | apply Kd.R_alloc | apply Kd.R_drewN | apply Kd.R_drew)); exact (Q_HO310 h0_)) hb) | exact Kd.R_mono (Kd.R_below (by (with_reducible repeat (first | apply Kd.R_alloc | apply Kd.R_drewN | apply Kd.R_drew)); exact (Q_HO310 h0_)) hb) (fun _ h_ => by first | trivial | exact h_ | exact h_.1))
                        clear HO292
                        clear HO300
                        clear HO307
                        clear BK278
                        clear BK294
                        clear BK302
                        clear HB
                        have HO292 := n0_
                        have HO300 := n1_
                        have HO307 := n2_
                        have BK278 := n3_
                        have BK294 := n4_
                        have BK302 := n5_
                        have HB := n6_
                        clear n0_ n1_ n2_ n3_ n4_ n5_ n6_
                        (try clear hb)
                        refine hK.out _ _ ⟨v306, v309, (by rw [ha.out]; exact putSel_upk 24 hb_ rfl rfl rfl), (by (with_reducible repeat (first | apply Kd.R_alloc | apply Kd.R_drewN | apply Kd.R_drew)); first | exact HO292.out | exact Kd.R_mono (HO292.out) (fun _ hk => by first | trivial | exact hk | exact hk.1 | ((repeat' apply And.intro) <;> first | exact hk.2 | exact hk.1.2 | exact hk.1.1.2))), (by (with_reducible repeat (first | apply Kd.R_alloc | apply Kd.R_drewN | apply Kd.R_drew)); first | exact HO300.out | exact Kd.R_mono (HO300.out) (fun _ hk => by first | trivial | exact hk | exact hk.1 | ((repeat' apply And.intro) <;> first | exact hk.2 | exact hk.1.2 | exact hk.1.1.2))), (by (with_reducible repeat (first | refine blk_drewN ?_ _ | refine blk_drew ?_ | refine blk_alloc ?_ _)); exact BK278.out), (by (with_reducible repeat (first | refine blk_drewN ?_ _ | refine blk_drew ?_ | refine blk_alloc ?_ _)); exact BK294.out), (by (with_reducible repeat (first | refine blk_drewN ?_ _ | refine blk_drew ?_ | refine blk_alloc ?_ _)); exact BK302.out), (by repeat (first | (with_reducible first | exact HB.out | apply below_alloc | apply pw_below_drewN | apply below_drew1 | refine below_set ?_ GE278.out | refine below_set ?_ GE294.out | refine below_set ?_ GE302.out) | exact HB.out)), fun _ => (by (with_reducible repeat (first | apply Kd.R_alloc | apply Kd.R_drewN | apply Kd.R_drew)); exact HO307.out), z_HO310⟩
                      refine steps_cons ?_ ?_
                      · rintro b a w' ⟨v306, v309, ha, hI_⟩ hb_ hon hoff
                        refine ⟨_, rfl, fun K hK => ?_⟩
                        have e2 : a.tmps[2]? = some (.pointer (some ⟨gb278, 0, none⟩)) := by rw [ha]; exact (putSel_off rfl).trans rfl
                        have e75 : a.tmps[75]? = some (.bool (t293 == t301)) := by rw [ha]; exact putSel_on (e := (17, 75, .bool (t293 == t301))) 16 rfl rfl (hon 17 (by kernel_rfl)) rfl
                        replace ha := Aside0.mk ha; replace hI_ := Aside0.mk hI_
                        refine value_ (w1 := w') (v := .pointer (some ⟨gb278, 0, none⟩)) (wanted_on rfl rfl rfl (e75.trans (by first | rfl | (simp [*]; done)))) rfl ?_ ?_
                        · go_simp
                          (try simp only [i64_w])
                          try first | rfl | (simp [bne]; done)
                        refine hK.out _ _ ⟨v306, v309, (by rw [ha.out]; exact putSel_upk 25 hb_ rfl rfl rfl), hI_.out⟩
                      refine steps_cons ?_ ?_
                      · rintro b a w' ⟨v306, v309, ha, Q_HO292, Q_HO300, Q_BK278, Q_BK294, Q_BK302, Q_HB, Q_HO307, Q_HO310⟩ hb_ hon hoff
                        refine ⟨_, rfl, fun K hK => ?_⟩
                        have e84 : a.tmps[84]? = some (.pointer (some ⟨gb278, 0, none⟩)) := by rw [ha]; exact putSel_on (e := (26, 84, .pointer (some ⟨gb278, 0, none⟩))) 25 rfl rfl (hon 26 (by kernel_rfl)) rfl
                        have e75 : a.tmps[75]? = some (.bool (t293 == t301)) := by rw [ha]; exact putSel_on (e := (17, 75, .bool (t293 == t301))) 16 rfl rfl (hon 17 (by kernel_rfl)) rfl
                        replace ha := Aside0.mk ha
                        have HO292 := Aside0.mk Q_HO292
                        have HO300 := Aside0.mk Q_HO300
                        have BK278 := Aside0.mk Q_BK278
                        have BK294 := Aside0.mk Q_BK294
                        have BK302 := Aside0.mk Q_BK302
                        have HB := Aside0.mk Q_HB
                        have hc0_ : w'.cell? ⟨gb278, 0, none⟩ = some (.int .u64 a0_0) := (blk_cell BK278.out 0).trans rfl
                        have hc1_ : w'.cell? ⟨gb278, 1, none⟩ = some (.int .u64 a0_1) := (blk_cell BK278.out 1).trans rfl
                        have hc2_ : w'.cell? ⟨gb278, 2, none⟩ = some (.int .u64 a0_2) := (blk_cell BK278.out 2).trans rfl
                        have hc3_ : w'.cell? ⟨gb278, 3, none⟩ = some (.slice A0_3 l0_3.length c0_3) := (blk_cell BK278.out 3).trans rfl
                        refine value_ (w1 := w') (v := .int .u64 a0_0) (wanted_on rfl rfl rfl (e75.trans (by first | rfl | (simp [*]; done)))) rfl ?_ ?_
                        · go_simp
                          (try simp only [i64_w])
                          try first | rfl | (simp [bne]; done)
                        refine hK.out _ _ ⟨v306, v309, (by rw [ha.out]; exact putSel_upk 26 hb_ rfl rfl rfl), Q_HO292, Q_HO300, Q_BK278, Q_BK294, Q_BK302, Q_HB, Q_HO307, fun h0_ => absurd ((hoff 32 (by kernel_rfl)).symm.trans h0_) (by decide)⟩
                      refine steps_cons ?_ ?_
                      · rintro b a w' ⟨v306, v309, ha, hI_⟩ hb_ hon hoff
                        refine ⟨_, rfl, fun K hK => ?_⟩
                        have e2 : a.tmps[2]? = some (.pointer (some ⟨gb278, 0, none⟩)) := by rw [ha]; exact (putSel_off rfl).trans rfl
                        have e75 : a.tmps[75]? = some (.bool (t293 == t301)) := by rw [ha]; exact putSel_on (e := (17, 75, .bool (t293 == t301))) 16 rfl rfl (hon 17 (by kernel_rfl)) rfl
                        replace ha := Aside0.mk ha; replace hI_ := Aside0.mk hI_
                        refine value_ (w1 := w') (v := .pointer (some ⟨gb278, 1, none⟩)) (wanted_on rfl rfl rfl (e75.trans (by first | rfl | (simp [*]; done)))) rfl ?_ ?_
                        · go_simp
                          (try simp only [i64_w])
                          try first | rfl | (simp [bne]; done)
                        refine hK.out _ _ ⟨v306, v309, (by rw [ha.out]; exact putSel_upk 27 hb_ rfl rfl rfl), hI_.out⟩
                      refine steps_cons ?_ ?_
                      · rintro b a w' ⟨v306, v309, ha, Q_HO292, Q_HO300, Q_BK278, Q_BK294, Q_BK302, Q_HB, Q_HO307, Q_HO310⟩ hb_ hon hoff
                        refine ⟨_, rfl, fun K hK => ?_⟩
                        have e86 : a.tmps[86]? = some (.pointer (some ⟨gb278, 1, none⟩)) := by rw [ha]; exact putSel_on (e := (28, 86, .pointer (some ⟨gb278, 1, none⟩))) 27 rfl rfl (hon 28 (by kernel_rfl)) rfl
                        have e75 : a.tmps[75]? = some (.bool (t293 == t301)) := by rw [ha]; exact putSel_on (e := (17, 75, .bool (t293 == t301))) 16 rfl rfl (hon 17 (by kernel_rfl)) rfl
                        replace ha := Aside0.mk ha
                        have HO292 := Aside0.mk Q_HO292
                        have HO300 := Aside0.mk Q_HO300
                        have BK278 := Aside0.mk Q_BK278
                        have BK294 := Aside0.mk Q_BK294
                        have BK302 := Aside0.mk Q_BK302
                        have HB := Aside0.mk Q_HB
                        have hc0_ : w'.cell? ⟨gb278, 0, none⟩ = some (.int .u64 a0_0) := (blk_cell BK278.out 0).trans rfl
                        have hc1_ : w'.cell? ⟨gb278, 1, none⟩ = some (.int .u64 a0_1) := (blk_cell BK278.out 1).trans rfl
                        have hc2_ : w'.cell? ⟨gb278, 2, none⟩ = some (.int .u64 a0_2) := (blk_cell BK278.out 2).trans rfl
                        have hc3_ : w'.cell? ⟨gb278, 3, none⟩ = some (.slice A0_3 l0_3.length c0_3) := (blk_cell BK278.out 3).trans rfl
                        refine value_ (w1 := w') (v := .int .u64 a0_1) (wanted_on rfl rfl rfl (e75.trans (by first | rfl | (simp [*]; done)))) rfl ?_ ?_
                        · go_simp
                          (try simp only [i64_w])
                          try first | rfl | (simp [bne]; done)
                        refine hK.out _ _ ⟨v306, v309, (by rw [ha.out]; exact putSel_upk 28 hb_ rfl rfl rfl), Q_HO292, Q_HO300, Q_BK278, Q_BK294, Q_BK302, Q_HB, Q_HO307, fun h0_ => absurd ((hoff 32 (by kernel_rfl)).symm.trans h0_) (by decide)⟩
                      refine steps_cons ?_ ?_
                      · rintro b a w' ⟨v306, v309, ha, hI_⟩ hb_ hon hoff
                        refine ⟨_, rfl, fun K hK => ?_⟩
                        have e2 : a.tmps[2]? = some (.pointer (some ⟨gb278, 0, none⟩)) := by rw [ha]; exact (putSel_off rfl).trans rfl
                        have e75 : a.tmps[75]? = some (.bool (t293 == t301)) := by rw [ha]; exact putSel_on (e := (17, 75, .bool (t293 == t301))) 16 rfl rfl (hon 17 (by kernel_rfl)) rfl
                        replace ha := Aside0.mk ha; replace hI_ := Aside0.mk hI_
                        refine value_ (w1 := w') (v := .pointer (some ⟨gb278, 2, none⟩)) (wanted_on rfl rfl rfl (e75.trans (by first | rfl | (simp [*]; done)))) rfl ?_ ?_
                        · go_simp
                          (try simp only [i64_w])
                          try first | rfl | (simp [bne]; done)
                        refine hK.out _ _ ⟨v306, v309, (by rw [ha.out]; exact putSel_upk 29 hb_ rfl rfl rfl), hI_.out⟩
                      refine steps_cons ?_ ?_
                      · rintro b a w' ⟨v306, v309, ha, Q_HO292, Q_HO300, Q_BK278, Q_BK294, Q_BK302, Q_HB, Q_HO307, Q_HO310⟩ hb_ hon hoff
                        refine ⟨_, rfl, fun K hK => ?_⟩
                        have e88 : a.tmps[88]? = some (.pointer (some ⟨gb278, 2, none⟩)) := by rw [ha]; exact putSel_on (e := (30, 88, .pointer (some ⟨gb278, 2, none⟩))) 29 rfl rfl (hon 30 (by kernel_rfl)) rfl
                        have e75 : a.tmps[75]? = some (.bool (t293 == t301)) := by rw [ha]; exact putSel_on (e := (17, 75, .bool (t293 == t301))) 16 rfl rfl (hon 17 (by kernel_rfl)) rfl
                        replace ha := Aside0.mk ha
                        have HO292 := Aside0.mk Q_HO292
                        have HO300 := Aside0.mk Q_HO300
                        have BK278 := Aside0.mk Q_BK278
                        have BK294 := Aside0.mk Q_BK294
                        have BK302 := Aside0.mk Q_BK302
                        have HB := Aside0.mk Q_HB
                        have hc0_ : w'.cell? ⟨gb278, 0, none⟩ = some (.int .u64 a0_0) := (blk_cell BK278.out 0).trans rfl
                        have hc1_ : w'.cell? ⟨gb278, 1, none⟩ = some (.int .u64 a0_1) := (blk_cell BK278.out 1).trans rfl
                        have hc2_ : w'.cell? ⟨gb278, 2, none⟩ = some (.int .u64 a0_2) := (blk_cell BK278.out 2).trans rfl
                        have hc3_ : w'.cell? ⟨gb278, 3, none⟩ = some (.slice A0_3 l0_3.length c0_3) := (blk_cell BK278.out 3).trans rfl
                        refine value_ (w1 := w') (v := .int .u64 a0_2) (wanted_on rfl rfl rfl (e75.trans (by first | rfl | (simp [*]; done)))) rfl ?_ ?_
                        · go_simp
                          (try simp only [i64_w])
                          try first | rfl | (simp [bne]; done)
                        refine hK.out _ _ ⟨v306, v309, (by rw [ha.out]; exact putSel_upk 30 hb_ rfl rfl rfl), Q_HO292, Q_HO300, Q_BK278, Q_BK294, Q_BK302, Q_HB, Q_HO307, fun h0_ => absurd ((hoff 32 (by kernel_rfl)).symm.trans h0_) (by decide)⟩
                      refine steps_cons ?_ ?_
                      · rintro b a w' ⟨v306, v309, ha, Q_HO292, Q_HO300, Q_BK278, Q_BK294, Q_BK302, Q_HB, Q_HO307, Q_HO310⟩ hb_ hon hoff
                        refine ⟨_, rfl, fun K hK => ?_⟩
                        have e85 : a.tmps[85]? = some (.int .u64 a0_0) := by rw [ha]; exact putSel_on (e := (27, 85, .int .u64 a0_0)) 26 rfl rfl (hon 27 (by kernel_rfl)) rfl
                        have e87 : a.tmps[87]? = some (.int .u64 a0_1) := by rw [ha]; exact putSel_on (e := (29, 87, .int .u64 a0_1)) 28 rfl rfl (hon 29 (by kernel_rfl)) rfl
                        have e89 : a.tmps[89]? = some (.int .u64 a0_2) := by rw [ha]; exact putSel_on (e := (31, 89, .int .u64 a0_2)) 30 rfl rfl (hon 31 (by kernel_rfl)) rfl
                        have e75 : a.tmps[75]? = some (.bool (t293 == t301)) := by rw [ha]; exact putSel_on (e := (17, 75, .bool (t293 == t301))) 16 rfl rfl (hon 17 (by kernel_rfl)) rfl
                        replace ha := Aside0.mk ha
                        have HO292 := Aside0.mk Q_HO292
                        have HO300 := Aside0.mk Q_HO300
                        have BK278 := Aside0.mk Q_BK278
                        have BK294 := Aside0.mk Q_BK294
                        have BK302 := Aside0.mk Q_BK302
                        have HB := Aside0.mk Q_HB
                        have HO307 := Aside0.mk (Q_HO307 (hon 24 (by kernel_rfl)))
                        refine goes_ Try.func77 (by kernel_rfl) rfl #[.int .u64 a0_0, .int .u64 a0_1, .int .u64 a0_2] (by first | rfl | (simp [Region.wanted, yielded, *]; done)) rfl rfl (by (try simp only [List.map_toArray, List.map_cons, List.map_nil]); first | done | rfl | (simp only [Act.eval, Array.getD_eq_getD_getElem?, Option.getD_some, e85, e87, e89]; done) | (simp only [List.length_drop, List.length_take]; rfl)) ?_
                        with_reducible refine (wristbandref12_Msg.calls kj12 a0_0 a0_1 a0_2 t308 _ A37.out).mono ?_
                        rintro e w55 ⟨v309, rfl, ho0, hb⟩
                        refine ⟨_, rfl, ?_⟩
                        have n0_ := Aside0.mk (Kd.R_elder' (by (with_reducible repeat (first | apply Kd.R_alloc | apply Kd.R_drewN | apply Kd.R_drew)); exact HO292.out) (Kd.R_base ho0) hb)
                        have n1_ := Aside0.mk (Kd.R_elder' (by (with_reducible repeat (first | apply Kd.R_alloc | apply Kd.R_drewN | apply Kd.R_drew)); exact HO300.out) (Kd.R_base ho0) hb)
                        have n2_ := Aside0.mk (Kd.R_elder' (by (with_reducible repeat (first | apply Kd.R_alloc | apply Kd.R_drewN | apply Kd.R_drew)); exact HO307.out) (Kd.R_base ho0) hb)
                        have n3_ := Aside0.mk (Kd.R_lower (Kd.R_new' (Kd.R_new' (Kd.R_new' ho0 (Kd.R_lt (by (with_reducible repeat (first | apply Kd.R_alloc | apply Kd.R_drewN | apply Kd.R_drew)); exact HO292.out))) (Kd.R_lt (by (with_reducible repeat (first | apply Kd.R_alloc | apply Kd.R_drewN | apply Kd.R_drew)); exact HO300.out))) (Kd.R_lt (by (with_reducible repeat (first | apply Kd.R_alloc | apply Kd.R_drewN | apply Kd.R_drew)); exact HO307.out))) (below_size (by repeat (first | (with_reducible first | exact HB.out | apply below_alloc | apply pw_below_drewN | apply below_drew1 | refine below_set ?_ GE278.out | refine below_set ?_ GE294.out | refine below_set ?_ GE302.out) | exact HB.out))))
                        have n4_ := Aside0.mk (blk_below (g := gb278) (o := .cells #[.int .u64 a0_0, .int .u64 a0_1, .int .u64 a0_2, .slice A0_3 l0_3.length c0_3] 91 (0, 0)) (by (with_reducible repeat (first | refine blk_drewN ?_ _ | refine blk_drew ?_ | refine blk_alloc ?_ _)); exact BK278.out) hb)
                        have n5_ := Aside0.mk (blk_below (g := gb294) (o := .cells #[.int .u64 t287, .int .u64 t288, .int .u64 t289, .slice Ao42 t290.length co42] 91 (0, 0)) (by (with_reducible repeat (first | refine blk_drewN ?_ _ | refine blk_drew ?_ | refine blk_alloc ?_ _)); exact BK294.out) hb)
                        have n6_ := Aside0.mk (blk_below (g := gb302) (o := .cells #[.int .u64 t295, .int .u64 t296, .int .u64 t297, .slice Ao48 t298.length co48] 91 (0, 0)) (by (with_reducible repeat (first | refine blk_drewN ?_ _ | refine blk_drew ?_ | refine blk_alloc ?_ _)); exact BK302.out) hb)
                        have n7_ := Aside0.mk (below_step (by repeat (first | (with_reducible first | exact HB.out | apply below_alloc | apply pw_below_drewN | apply below_drew1 | refine below_set ?_ GE278.out | refine below_set ?_ GE294.out | refine below_set ?_ GE302.out) | exact HB.out)) hb)
                        clear HO292
                        clear HO300
                        clear HO307
                        clear BK278
                        clear BK294
                        clear BK302
                        clear HB
                        have HO292 := n0_
                        have HO300 := n1_
                        have HO307 := n2_
                        have HO310 := n3_
                        have BK278 := n4_
                        have BK294 := n5_
                        have BK302 := n6_
                        have HB := n7_
                        clear n0_ n1_ n2_ n3_ n4_ n5_ n6_ n7_
                        (try clear hb)
                        (try clear hb2)
                        (try clear hk)
                        (try clear hi)
                        (try clear ho0)
                        refine hK.out _ _ ⟨v306, v309, (by rw [ha.out]; exact putSel_upk 31 hb_ rfl rfl rfl), (by (with_reducible repeat (first | apply Kd.R_alloc | apply Kd.R_drewN | apply Kd.R_drew)); first | exact Kd.R_mono HO292.out (fun _ hk => ⟨hk.1.1, ⟨hk.1.2, hk.2⟩⟩) | exact Kd.R_mono (HO292.out) (fun _ hk => by first | trivial | exact hk | exact hk.1 | ((repeat' apply And.intro) <;> first | exact hk.2 | exact hk.1.2 | exact hk.1.1.2))), (by (with_reducible repeat (first | apply Kd.R_alloc | apply Kd.R_drewN | apply Kd.R_drew)); first | exact Kd.R_mono HO300.out (fun _ hk => ⟨hk.1.1, ⟨hk.1.2, hk.2⟩⟩) | exact Kd.R_mono (HO300.out) (fun _ hk => by first | trivial | exact hk | exact hk.1 | ((repeat' apply And.intro) <;> first | exact hk.2 | exact hk.1.2 | exact hk.1.1.2))), (by (with_reducible repeat (first | refine blk_drewN ?_ _ | refine blk_drew ?_ | refine blk_alloc ?_ _)); exact BK278.out), (by (with_reducible repeat (first | refine blk_drewN ?_ _ | refine blk_drew ?_ | refine blk_alloc ?_ _)); exact BK294.out), (by (with_reducible repeat (first | refine blk_drewN ?_ _ | refine blk_drew ?_ | refine blk_alloc ?_ _)); exact BK302.out), (by repeat (first | (with_reducible first | exact HB.out | apply below_alloc | apply pw_below_drewN | apply below_drew1 | refine below_set ?_ GE278.out | refine below_set ?_ GE294.out | refine below_set ?_ GE302.out) | exact HB.out)), fun _ => (by (with_reducible repeat (first | apply Kd.R_alloc | apply Kd.R_drewN | apply Kd.R_drew)); first | exact Kd.R_mono HO307.out (fun _ hk => ⟨hk.1.1, ⟨hk.1.2, hk.2⟩⟩) | exact Kd.R_mono (HO307.out) (fun _ hk => by first | trivial | exact hk | exact hk.1 | ((repeat' apply And.intro) <;> first | exact hk.2 | exact hk.1.2 | exact hk.1.1.2))), fun _ => (by (with_reducible repeat (first | apply Kd.R_alloc | apply Kd.R_drewN | apply Kd.R_drew)); first | exact Kd.R_mono HO310.out (fun _ hk => ⟨hk.1.1.2, ⟨hk.1.2, hk.2⟩⟩) | exact Kd.R_mono (HO310.out) (fun _ hk => by first | trivial | exact hk | exact hk.1 | ((repeat' apply And.intro) <;> first | exact hk.2 | exact hk.1.2 | exact hk.1.1.2)))⟩
                      refine steps_cons ?_ ?_
                      · rintro b a w' ⟨v306, v309, ha, Q_HO292, Q_HO300, Q_BK278, Q_BK294, Q_BK302, Q_HB, Q_HO307, Q_HO310⟩ hb_ hon hoff
                        refine ⟨_, rfl, fun K hK => ?_⟩
                        have e90 : a.tmps[90]? = some (v309) := by rw [ha]; exact putSel_on (e := (32, 90, v309)) 31 rfl rfl (hon 32 (by kernel_rfl)) rfl
                        have e75 : a.tmps[75]? = some (.bool (t293 == t301)) := by rw [ha]; exact putSel_on (e := (17, 75, .bool (t293 == t301))) 16 rfl rfl (hon 17 (by kernel_rfl)) rfl
                        replace ha := Aside0.mk ha
                        have HO292 := Aside0.mk Q_HO292
                        have HO300 := Aside0.mk Q_HO300
                        have BK278 := Aside0.mk Q_BK278
                        have BK294 := Aside0.mk Q_BK294
                        have BK302 := Aside0.mk Q_BK302
                        have HB := Aside0.mk Q_HB
                        have HO307 := Aside0.mk (Q_HO307 (hon 24 (by kernel_rfl)))
                        have HO310 := Aside0.mk (Q_HO310 (hon 32 (by kernel_rfl)))
                        refine str_step (src := 22) (dst := 9) (x := .tmp 90) ?hw ?ho ?hx (v := v309) (s := strOfNums t308) (by obtain ⟨A_, c_, rfl⟩ := Kd.R_slice HO310.out; exact Kd.C_string (P := Try.prog) (A := A_) (c := c_) Try.underlying22 Try.underlying5 Try.underlying9 (Kd.R_reads' (by (with_reducible repeat (first | apply Kd.R_alloc | apply Kd.R_drewN | apply Kd.R_drew)); exact HO310.out)).2.2) ?_
                        case ho => rfl
                        case hw => first | rfl | (simp [Region.wanted, yielded, *]; done)
                        case hx => first | rfl | (simp only [Act.eval, Array.getD_eq_getD_getElem?, Option.getD_some, e90]; done)
                        intro w56 hb
                        have n0_ := Aside0.mk (Kd.R_below (by (with_reducible repeat (first | apply Kd.R_alloc | apply Kd.R_drewN | apply Kd.R_drew)); exact HO292.out) hb)
                        have n1_ := Aside0.mk (Kd.R_below (by (with_reducible repeat (first | apply Kd.R_alloc | apply Kd.R_drewN | apply Kd.R_drew)); exact HO300.out) hb)
                        have n2_ := Aside0.mk (Kd.R_below (by (with_reducible repeat (first | apply Kd.R_alloc | apply Kd.R_drewN | apply Kd.R_drew)); exact HO307.out) hb)
                        have n3_ := Aside0.mk (Kd.R_below (by (with_reducible repeat (first | apply Kd.R_alloc | apply Kd.R_drewN | apply Kd.R_drew)); exact HO310.out) hb)
                        have n4_ := Aside0.mk (blk_below (g := gb278) (o := .cells #[.int .u64 a0_0, .int .u64 a0_1, .int .u64 a0_2, .slice A0_3 l0_3.length c0_3] 91 (0, 0)) (by (with_reducible repeat (first | refine blk_drewN ?_ _ | refine blk_drew ?_ | refine blk_alloc ?_ _)); exact BK278.out) hb)
                        have n5_ := Aside0.mk (blk_below (g := gb294) (o := .cells #[.int .u64 t287, .int .u64 t288, .int .u64 t289, .slice Ao42 t290.length co42] 91 (0, 0)) (by (with_reducible repeat (first | refine blk_drewN ?_ _ | refine blk_drew ?_ | refine blk_alloc ?_ _)); exact BK294.out) hb)
                        have n6_ := Aside0.mk (blk_below (g := gb302) (o := .cells #[.int .u64 t295, .int .u64 t296, .int .u64 t297, .slice Ao48 t298.length co48] 91 (0, 0)) (by (with_reducible repeat (first | refine blk_drewN ?_ _ | refine blk_drew ?_ | refine blk_alloc ?_ _)); exact BK302.out) hb)
                        have n7_ := Aside0.mk (below_step (by repeat (first | (with_reducible first | exact HB.out | apply below_alloc | apply pw_below_drewN | apply below_drew1 | refine below_set ?_ GE278.out | refine below_set ?_ GE294.out | refine below_set ?_ GE302.out) | exact HB.out)) hb)
                        clear HO292
                        clear HO300
                        clear HO307
                        clear HO310
                        clear BK278
                        clear BK294
                        clear BK302
                        clear HB
                        have HO292 := n0_
                        have HO300 := n1_
                        have HO307 := n2_
                        have HO310 := n3_
                        have BK278 := n4_
                        have BK294 := n5_
                        have BK302 := n6_
                        have HB := n7_
                        clear n0_ n1_ n2_ n3_ n4_ n5_ n6_ n7_
                        (try clear hb)
                        refine hK.out _ _ ⟨v306, v309, (by rw [ha.out]; exact putSel_upk 32 hb_ rfl rfl rfl), (by (with_reducible repeat (first | apply Kd.R_alloc | apply Kd.R_drewN | apply Kd.R_drew)); first | exact HO292.out | exact Kd.R_mono (HO292.out) (fun _ hk => by first | trivial | exact hk | exact hk.1 | ((repeat' apply And.intro) <;> first | exact hk.2 | exact hk.1.2 | exact hk.1.1.2))), (by (with_reducible repeat (first | apply Kd.R_alloc | apply Kd.R_drewN | apply Kd.R_drew)); first | exact HO300.out | exact Kd.R_mono (HO300.out) (fun _ hk => by first | trivial | exact hk | exact hk.1 | ((repeat' apply And.intro) <;> first | exact hk.2 | exact hk.1.2 | exact hk.1.1.2))), (by (with_reducible repeat (first | refine blk_drewN ?_ _ | refine blk_drew ?_ | refine blk_alloc ?_ _)); exact BK278.out), (by (with_reducible repeat (first | refine blk_drewN ?_ _ | refine blk_drew ?_ | refine blk_alloc ?_ _)); exact BK294.out), (by (with_reducible repeat (first | refine blk_drewN ?_ _ | refine blk_drew ?_ | refine blk_alloc ?_ _)); exact BK302.out), (by repeat (first | (with_reducible first | exact HB.out | apply below_alloc | apply pw_below_drewN | apply below_drew1 | refine below_set ?_ GE278.out | refine below_set ?_ GE294.out | refine below_set ?_ GE302.out) | exact HB.out)), fun _ => (by (with_reducible repeat (first | apply Kd.R_alloc | apply Kd.R_drewN | apply Kd.R_drew)); first | exact HO307.out | exact Kd.R_mono (HO307.out) (fun _ hk => by first | trivial | exact hk | exact hk.1 | ((repeat' apply And.intro) <;> first | exact hk.2 | exact hk.1.2 | exact hk.1.1.2))), fun _ => (by (with_reducible repeat (first | apply Kd.R_alloc | apply Kd.R_drewN | apply Kd.R_drew)); first | exact HO310.out | exact Kd.R_mono (HO310.out) (fun _ hk => by first | trivial | exact hk | exact hk.1 | ((repeat' apply And.intro) <;> first | exact hk.2 | exact hk.1.2 | exact hk.1.1.2)))⟩
                      refine steps_cons ?_ ?_
                      · rintro b a w' ⟨v306, v309, ha, hI_⟩ hb_ hon hoff
                        refine ⟨_, rfl, fun K hK => ?_⟩
                        have e83 : a.tmps[83]? = some (.string (strOfNums t305)) := by rw [ha]; exact putSel_on (e := (25, 83, .string (strOfNums t305))) 24 rfl rfl (hon 25 (by kernel_rfl)) rfl
                        have e91 : a.tmps[91]? = some (.string (strOfNums t308)) := by rw [ha]; exact putSel_on (e := (33, 91, .string (strOfNums t308))) 32 rfl rfl (hon 33 (by kernel_rfl)) rfl
                        have e75 : a.tmps[75]? = some (.bool (t293 == t301)) := by rw [ha]; exact putSel_on (e := (17, 75, .bool (t293 == t301))) 16 rfl rfl (hon 17 (by kernel_rfl)) rfl
                        replace ha := Aside0.mk ha; replace hI_ := Aside0.mk hI_
                        refine value_ (w1 := w') (v := .bool ((strOfNums t305).toList == (strOfNums t308).toList)) (wanted_on rfl rfl rfl (e75.trans (by first | rfl | (simp [*]; done)))) rfl ?_ ?_
                        · go_simp
                          (try simp only [i64_w])
                          try first | rfl | (simp [bne]; done)
                        refine hK.out _ _ ⟨v306, v309, (by rw [ha.out]; exact putSel_upk 33 hb_ rfl rfl rfl), hI_.out⟩
                      refine steps_cons ?_ ?_
                      · rintro b a w' ⟨v306, v309, ha, hI_⟩ hb_ hon hoff
                        refine ⟨_, rfl, fun K hK => ?_⟩
                        have e75 : a.tmps[75]? = some (.bool (t293 == t301)) := by rw [ha]; exact putSel_on (e := (17, 75, .bool (t293 == t301))) 16 rfl rfl (hon 17 (by kernel_rfl)) rfl
                        have e92 : a.tmps[92]? = some (.bool ((strOfNums t305).toList == (strOfNums t308).toList)) := by rw [ha]; exact putSel_on (e := (34, 92, .bool ((strOfNums t305).toList == (strOfNums t308).toList))) 33 rfl rfl (hon 34 (by kernel_rfl)) rfl
                        replace ha := Aside0.mk ha; replace hI_ := Aside0.mk hI_
                        refine value_ (w1 := w') (v := .bool ((strOfNums t305).toList == (strOfNums t308).toList)) (by rfl) rfl ?_ ?_
                        · go_simp
                          (try simp only [i64_w])
                          try first | rfl | (simp [bne]; done)
                        refine hK.out _ _ ⟨v306, v309, (by rw [ha.out]; exact putSel_upk 34 hb_ rfl rfl rfl), hI_.out⟩
                      refine steps_cons ?_ ?_
                      · rintro b a w' ⟨v306, v309, ha, hI_⟩ hb_ hon hoff
                        refine ⟨_, rfl, fun K hK => ?_⟩
                        have e93 : a.tmps[93]? = some (.bool ((strOfNums t305).toList == (strOfNums t308).toList)) := by rw [ha]; exact putSel_on (e := (35, 93, .bool ((strOfNums t305).toList == (strOfNums t308).toList))) 34 rfl rfl (hon 35 (by kernel_rfl)) rfl
                        replace ha := Aside0.mk ha; replace hI_ := Aside0.mk hI_
                        refine value_ (w1 := w') (v := .bool ((strOfNums t305).toList == (strOfNums t308).toList)) (by rfl) rfl ?_ ?_
                        · go_simp
                          (try simp only [i64_w])
                          try first | rfl | (simp [bne]; done)
                        refine hK.out _ _ ⟨v306, v309, (by rw [ha.out]; exact putSel_upk 35 hb_ rfl rfl rfl), hI_.out⟩
                      exact steps_nil
                    rintro b a w57 hall ⟨v306, v309, ha, Q_HO292, Q_HO300, Q_BK278, Q_BK294, Q_BK302, Q_HB, Q_HO307, Q_HO310⟩
                    clear BK278 BK294 BK302 HB HO292 HO300
                    have hb0_ := hall 0 (by kernel_rfl)
                    have hb1_ := hall 1 (by kernel_rfl)
                    have hb3_ := hall 3 (by kernel_rfl)
                    have hb4_ := hall 4 (by kernel_rfl)
                    have hb5_ := hall 5 (by kernel_rfl)
                    have hb6_ := hall 6 (by kernel_rfl)
                    have hb7_ := hall 7 (by kernel_rfl)
                    have hb8_ := hall 8 (by kernel_rfl)
                    have hb9_ := hall 9 (by kernel_rfl)
                    have hb10_ := hall 10 (by kernel_rfl)
                    have hb11_ := hall 11 (by kernel_rfl)
                    have hb12_ := hall 12 (by kernel_rfl)
                    have hb13_ := hall 13 (by kernel_rfl)
                    have hb14_ := hall 14 (by kernel_rfl)
                    have hb15_ := hall 15 (by kernel_rfl)
                    have hb16_ := hall 16 (by kernel_rfl)
                    have hb17_ := hall 17 (by kernel_rfl)
                    have hb18_ := hall 18 (by kernel_rfl)
                    have hb19_ := hall 19 (by kernel_rfl)
                    have hb20_ := hall 20 (by kernel_rfl)
                    have hb21_ := hall 21 (by kernel_rfl)
                    have hb22_ := hall 22 (by kernel_rfl)
                    have hb23_ := hall 23 (by kernel_rfl)
                    have hb24_ := hall 24 (by kernel_rfl)
                    have hb25_ := hall 25 (by kernel_rfl)
                    have hb26_ := hall 26 (by kernel_rfl)
                    have hb27_ := hall 27 (by kernel_rfl)
                    have hb28_ := hall 28 (by kernel_rfl)
                    have hb29_ := hall 29 (by kernel_rfl)
                    have hb30_ := hall 30 (by kernel_rfl)
                    have hb31_ := hall 31 (by kernel_rfl)
                    have hb32_ := hall 32 (by kernel_rfl)
                    have hb33_ := hall 33 (by kernel_rfl)
                    have hb34_ := hall 34 (by kernel_rfl)
                    have hb35_ := hall 35 (by kernel_rfl)
                    have hb36_ := hall 36 (by kernel_rfl)
                    subst ha
                    simp only [putSel, hb0_, hb1_, hb3_, hb4_, hb5_, hb6_, hb7_, hb8_, hb9_, hb10_, hb11_, hb12_, hb13_, hb14_, hb15_, hb16_, hb17_, hb18_, hb19_, hb20_, hb21_, hb22_, hb23_, hb24_, hb25_, hb26_, hb27_, hb28_, hb29_, hb30_, hb31_, hb32_, hb33_, hb34_, hb35_, hb36_, if_true, Act.put, List.setIfInBounds_toArray, List.set_cons_zero, List.set_cons_succ]
                    have HO292 := Aside0.mk Q_HO292
                    clear Q_HO292
                    have HO300 := Aside0.mk Q_HO300
                    clear Q_HO300
                    have BK278 := Aside0.mk Q_BK278
                    clear Q_BK278
                    have BK294 := Aside0.mk Q_BK294
                    clear Q_BK294
                    have BK302 := Aside0.mk Q_BK302
                    clear Q_BK302
                    have HB := Aside0.mk Q_HB
                    clear Q_HB
                    have HO307 := Aside0.mk (Q_HO307 hb24_)
                    clear Q_HO307
                    have HO310 := Aside0.mk (Q_HO310 hb32_)
                    clear Q_HO310
                    clear hall hb0_ hb1_ hb3_ hb4_ hb5_ hb6_ hb7_ hb8_ hb9_ hb10_ hb11_ hb12_ hb13_ hb14_ hb15_ hb16_ hb17_ hb18_ hb19_ hb20_ hb21_ hb22_ hb23_ hb24_ hb25_ hb26_ hb27_ hb28_ hb29_ hb30_ hb31_ hb32_ hb33_ hb34_ hb35_ hb36_
                    try go_wp2
                    go_ret
                    exact ⟨by first | rfl | (simp [errW_none, errW_some] <;> rfl) | (simp [*, errW_none, errW_some] <;> rfl), by repeat (first | (with_reducible first | exact HB.out | apply below_alloc | apply pw_below_drewN | apply below_drew1 | refine below_set ?_ GE278.out | refine below_set ?_ GE294.out | refine below_set ?_ GE302.out) | exact HB.out)⟩
                  · rw [if_neg c35] at H
                    have c35b0 : (t293 == t301) = false := beq_eq_false_iff_ne.mpr c35
                    have c35b1 : (t293 != t301) = true := bne_iff_ne.mpr c35
                    exact absurd (Option.some.inj H) (by rw [HR_.out]; decide)
                · replace c34 := Bool.eq_false_iff.mpr c34
                  subst c34
                  have H1 : (some false) = some r := by rw [if_neg (show ¬ (false = true) by decide)] at H; exact H
                  clear H
                  have H := H1
                  clear H1
                  exact absurd (Option.some.inj H) (by rw [HR_.out]; decide)
              · rw [if_neg c32] at H
                have c32b0 : (t303 == ((l0_3.length : Int) == 8)) = false := by simpa using c32
                (try (have c32b1 : decide (t303 = ((l0_3.length : Int) == 8)) = false := by simpa using c32))
                (try (have c32b2 : (t303 == ((l0_3.length : Int) == 8)) = false := by simpa using c32))
                (try (have c32b3 : ¬ (t303 = ((l0_3.length : Int) == 8)) := by simpa using c32))
                clear c32
                exact absurd (Option.some.inj H) (by rw [HR_.out]; decide)
  · replace c4 := Bool.eq_false_iff.mpr c4
    subst c4
    have H1 : (some false) = some r := by rw [if_neg (show ¬ (false = true) by decide)] at H; exact H
    clear H
    have H := H1
    clear H1
    exact absurd (Option.some.inj H) (by rw [HR_.out]; decide)

def G91 (x_ : S91) : Prop := (fun n_ : Int => (Lit.int .u64 n_).wf = true) x_.f0 ∧ (fun n_ : Int => (Lit.int .u64 n_).wf = true) x_.f1 ∧ (fun n_ : Int => (Lit.int .u64 n_).wf = true) x_.f2 ∧ (fun xs_ : List Int => xs_.length ≤ maxLen ∧ ∀ x_ ∈ xs_, (fun n_ : Int => (Lit.int .u8 n_).wf = true) x_) x_.f3
theorem opens91 : Opens Try.prog 91 k91 G91 := opens_iso (opens_struct Try.underlying91 (opens_cons (opens_int Try.underlying39) rfl (by kernel_rfl) (opens_cons (opens_int Try.underlying39) rfl (by kernel_rfl) (opens_cons (opens_int Try.underlying39) rfl (by kernel_rfl) (opens_one (opens_slice Try.underlying22 (opens_int Try.underlying5) (by kernel_rfl)) rfl (by kernel_rfl))))) (by kernel_rfl)) (fun p_ => (⟨p_.1, p_.2.1, p_.2.2.1, p_.2.2.2⟩ : S91)) (fun _ => rfl)
theorem wristbandlaw12_FrameRight.open0 {H : Type} {enc : TypeId × Value → H} {W : World} {base : Nat} {sp : Nat → Bool} {held : Bool} {cs : Array Value} {x : DataW H} {p : List MemPlace} (hT : DataW.Trod enc Try.prog W base sp held 91 (.agg cs) x p) : ∃ (a0_0 : Int) (a0_1 : Int) (a0_2 : Int) (A0_3 : Option Addr) (c0_3 : Nat) (l0_3 : List Int), Value.agg cs = .agg #[.int .u64 a0_0, .int .u64 a0_1, .int .u64 a0_2, .slice A0_3 l0_3.length c0_3] ∧ (Lit.int .u64 a0_0).wf = true ∧ (Lit.int .u64 a0_1).wf = true ∧ (Lit.int .u64 a0_2).wf = true ∧ l0_3.length ≤ c0_3 ∧ Kd.C (Kd.int .u8) W A0_3 l0_3.length l0_3 ∧ (l0_3.length ≤ maxLen ∧ ∀ x_ ∈ l0_3, (fun n_ : Int => (Lit.int .u8 n_).wf = true) x_) := by
  obtain ⟨fuel, hf⟩ := hT
  obtain ⟨z, hk, hg⟩ := opens91 enc W base sp held fuel _ _ hf
  change k91.K W z cs.toList at hk
  obtain ⟨hg_0, hg_1, hg_2, hg_3⟩ := hg
  obtain ⟨ca1, cb1, ea1, ha1, hb1⟩ := hk
  have q2 : ca1 = [.int .u64 z.f0] := ha1
  obtain ⟨ca3, cb3, ea3, ha3, hb3⟩ := hb1
  have q4 : ca3 = [.int .u64 z.f1] := ha3
  obtain ⟨ca5, cb5, ea5, ha5, hb5⟩ := hb3
  have q6 : ca5 = [.int .u64 z.f2] := ha5
  obtain ⟨A7, c7, q7, hl7, hC7⟩ := hb5
  exact ⟨z.f0, z.f1, z.f2, A7, c7, z.f3, congrArg Value.agg (Array.toList_inj.1 (by rw [ea1, q2, ea3, q4, ea5, q6, q7]; rfl)), hg_0, hg_1, hg_2, ⟨hl7, hC7, hg_3⟩⟩
/-- THE ONE PURE STATEMENT of wristbandlaw12_FrameRight: yours. -/
def wristbandlaw12_FrameRight.Pure : Prop := ∀ (a0_0 : Int) (a0_1 : Int) (a0_2 : Int) (l0_3 : List Int) (l1 : List Int), (Lit.int .u64 a0_0).wf = true → (Lit.int .u64 a0_1).wf = true → (Lit.int .u64 a0_2).wf = true → l0_3.length ≤ maxLen → (∀ x ∈ l0_3, (fun n_ : Int => (Lit.int .u8 n_).wf = true) x) → l1.length ≤ maxLen → l1.length * 1 ≤ 140737488351232 → (∀ x ∈ l1, (Lit.int .u8 x).wf = true) → ∃ k, wristbandlaw12_FrameRight.f k a0_0 a0_1 a0_2 l0_3 l1 = some true
theorem wristbandlaw12_FrameRight.walk (P : wristbandlaw12_FrameRight.Pure) (a0_0 : Int) (a0_1 : Int) (a0_2 : Int) (A0_3 : Option Addr) (c0_3 : Nat) (l0_3 : List Int) (a1 : Option Addr) (len1 cap1 : Nat) (z1 : List Int) (w : World) (w0_0 : (Lit.int .u64 a0_0).wf = true) (w0_1 : (Lit.int .u64 a0_1).wf = true) (w0_2 : (Lit.int .u64 a0_2).wf = true) (w0_3 : l0_3.length ≤ c0_3 ∧ Kd.C (Kd.int .u8) w A0_3 l0_3.length l0_3 ∧ (l0_3.length ≤ maxLen ∧ ∀ x_ ∈ l0_3, (fun n_ : Int => (Lit.int .u8 n_).wf = true) x_)) (w1 : (a1 = none ∧ len1 = 0 ∧ cap1 = 0 ∧ z1 = []) ∨ ∃ x, a1 = some x ∧ len1 ≤ cap1 ∧ cap1 ≤ maxLen ∧ z1.length = cap1 ∧ (∀ i, i < z1.length → w.cell? (x.add i) = some (.int .u8 (z1.getD i 0))) ∧ ∀ n ∈ z1, (Lit.int .u8 n).wf = true) (y1 : len1 * 1 ≤ 140737488351232) :
    Calls Try.prog 14 #[.agg #[.int .u64 a0_0, .int .u64 a0_1, .int .u64 a0_2, .slice A0_3 l0_3.length c0_3], .slice a1 len1 cap1] w fun e w' => e = .returned (.bool true) ∧ Below w.heap.size w w' := by
  obtain ⟨hc0_3, hr0_3, hm0_3, hw0_3⟩ := w0_3
  obtain ⟨l1, rfl, hr1, hm1, hw1, hc1⟩ := ReadsInt.ofRowC w1
  obtain ⟨k, h⟩ := P a0_0 a0_1 a0_2 l0_3 l1 w0_0 w0_1 w0_2 hm0_3 hw0_3 hm1 y1 hw1
  refine (wristbandlaw12_FrameRight.calls k a0_0 a0_1 a0_2 _ _ l0_3 _ _ l1 true w hr0_3 hc0_3 (Kd.C_of_reads (d := (0 : Int)) (h1 := fun _ => rfl) hr1) hc1 h rfl).mono ?_
  rintro e w' ⟨rfl, hd⟩
  exact ⟨rfl, hd⟩

end Go.Proofs.Ytnpkhkhlofkbhaa.PFrameRight
